/- Contracts and plain laws that the statement rests on, part 3. Conditions: as each says. -/
import Derived.Test.YthcpkoephapecaaZ2
set_option linter.unusedVariables false
set_option linter.unusedSimpArgs false
namespace Go.E
set_option maxRecDepth 20000
set_option maxHeartbeats 2000000
def wfW (w : Nat) (x : List UInt8) (t : Int) (ks : List V) : Prop :=
 (w = 110 ∧ ks = [] ∧ t = 0 ∧ ∃ n : Int, 0 ≤ n ∧ n ≤ 999999 ∧ x = decI n ∧ numOf x 999999 = some n)
 ∨ (w = 116 ∧ ks = [] ∧ t = 0 ∧ isTx (39 :: (x ++ [39])) = true)
 ∨ (w = 102 ∧ ks = [] ∧ t = 0 ∧ (x = [121, 101, 115] ∨ x = [110, 111]))
 ∨ (w = 91 ∧ x = [] ∧ t = 0 ∧ ks.length ≤ 20 ∧ ∀ v ∈ ks, v.what ≠ 61)
 ∨ (w = 63 ∧ x = [] ∧ t = 0 ∧ ks.length ≤ 1 ∧ ∀ v ∈ ks, v.what ≠ 61)
 ∨ (w = 69 ∧ x = [] ∧ 0 ≤ t ∧ t ≤ 200 ∧ ks = [])
 ∨ (w = 85 ∧ x = [] ∧ 0 ≤ t ∧ t ≤ 200 ∧ ks.length = 1 ∧ ∀ v ∈ ks, v.what ≠ 61)
 ∨ (w = 61 ∧ x = [] ∧ 0 ≤ t ∧ t ≤ 200 ∧ ks.length = 1 ∧ ∀ v ∈ ks, v.what ≠ 61)
 ∨ (w = 82 ∧ x = [] ∧ t = 0 ∧ ks.Pairwise (fun a b => a.tag < b.tag) ∧ ∀ v ∈ ks, v.what = 61)
mutual
def V.wf : V → Prop
 | .nd w x t ks => wfW w x t ks ∧ V.wfs ks
def V.wfs : List V → Prop
 | [] => True
 | v :: r => V.wf v ∧ V.wfs r
end
theorem wfs_iff : ∀ {ks : List V}, V.wfs ks ↔ ∀ v ∈ ks, v.wf
 | [] => by simp [V.wfs]
 | v :: r => by rw [V.wfs, wfs_iff (ks := r)]; simp
theorem digF_n0 : ∀ (s : List UInt8) {n m : Int}, 0 ≤ n → digF n s = some m → 0 ≤ m
 | [], n, m, h, e => by simp only [digF, Option.some.injEq] at e; omega
 | c :: s, n, m, h, e => by
  unfold digF at e
  split at e
  ·exact digF_n0 s (by omega) e
  ·cases e
theorem numOf_nn {s : List UInt8} {top n : Int} (h : numOf s top = some n) : 0 ≤ n := by
 unfold numOf at h
 split at h
 ·split at h
  ·split at h
   ·rename_i h1 _ _ _ h2; simp only [Option.some.injEq] at h; subst h; exact digF_n0 _ (Int.le_refl 0) (by assumption)
   ·cases h
  ·cases h
 ·cases h
theorem rdNum_wf {top : Int} {s r : List UInt8} {n : Int} (h : rdNum top s = some (n, r)) : 0 ≤ n ∧ n ≤ top ∧ numOf (decI n) top = some n := by
 unfold rdNum at h
 cases hn : numOf (s.takeWhile isDg) top with
 | none => rw [hn] at h; cases h
 | some m =>
  rw [hn] at h
  simp only [Option.map_some, Option.some.injEq, Prod.mk.injEq] at h
  obtain ⟨rfl, _⟩ := h
  obtain ⟨h1, h2, _⟩ := numOf_le hn
  exact ⟨numOf_nn hn, h1, by rw [← h2]; exact hn⟩
theorem rdItems_len {f : List UInt8 → Option (V × List UInt8)} : ∀ (m : Nat) (s : List UInt8) (acc : List V) {x : List V × List UInt8}, rdItems f m s acc = some x → x.1.length ≤ acc.length + m
 | 0, _, _, _, e => by cases e
 | m + 1, s, acc, x, e => by
  unfold rdItems at e
  cases hf : f s with
  | none => rw [hf] at e; cases e
  | some y =>
   rw [hf] at e
   obtain ⟨v, r⟩ := y
   cases r with
   | nil => cases e
   | cons c r =>
    dsimp only at e
    split at e
    ·have := rdItems_len m r _ e
     simp only [List.length_append, List.length_singleton] at this; omega
    ·split at e
     ·simp only [Option.some.injEq] at e; subst e
      simp only [List.length_append, List.length_singleton]; omega
     ·cases e
theorem rdField_wf {f : List UInt8 → List UInt8 → Option (V × List UInt8)} {t : Ty} {s : List UInt8} {x : (Fld × V) × List UInt8} (e : rdField f t s = some x) : 0 ≤ x.1.1.tag ∧ x.1.1.tag ≤ 200 := by
 unfold rdField at e
 cases hn : rdNum 200 s with
 | none => rw [hn] at e; cases e
 | some y =>
  rw [hn] at e
  obtain ⟨n, r⟩ := y
  have h1 := rdNum_wf hn
  dsimp only at e
  cases hd : fldT t.fields n with
  | none => rw [hd] at e; cases e
  | some d =>
   rw [hd] at e
   have h2 : d.tag = n := by have := List.find?_some hd; simpa using this
   cases r with
   | nil => cases e
   | cons c r' =>
    dsimp only at e
    by_cases hc : c.toNat = 61
    ·rw [if_pos hc] at e
     cases hf : f d.kind r' with
     | none => rw [hf] at e; cases e
     | some y =>
      rw [hf] at e
      simp only [Option.map_some, Option.some.injEq] at e
      subst e
      dsimp only; omega
    ·rw [if_neg hc] at e; cases e
theorem rdFlds_wf {ts : List Ty} {f : List UInt8 → List UInt8 → Option (V × List UInt8)} (h : ∀ k s y, f k s = some y → y.1.wf ∧ y.1.what ≠ 61) {t : Ty} : ∀ (m : Nat) (last : Int) (s : List UInt8) (acc : List V) {x : List V × List UInt8}, rdFlds ts f t m last s acc = some x → (∀ v ∈ acc, v.wf ∧ v.what = 61 ∧ v.tag ≤ last) → acc.Pairwise (fun a b => a.tag < b.tag) → (∀ v ∈ x.1, v.wf ∧ v.what = 61) ∧ x.1.Pairwise (fun a b => a.tag < b.tag)
 | 0, _, _, _, _, e, _, _ => by cases e
 | m + 1, last, s, acc, x, e, ha, hp => by
  unfold rdFlds at e
  cases hf : rdField f t s with
  | none => rw [hf] at e; cases e
  | some y =>
   rw [hf] at e
   obtain ⟨_, s', hy⟩ := rdField_inv hf
   have ht := rdField_wf hf
   obtain ⟨⟨d, v⟩, r⟩ := y
   dsimp only at e hy ht
   obtain ⟨hv1, hv2⟩ := h _ _ _ hy
   dsimp only at hv1 hv2
   split at e
   ·cases e
   ·rename_i hd
    have hd' : last < d.tag := by omega
    have hw : V.wf (.nd 61 [] d.tag [v]) := by
     rw [V.wf]
     refine ⟨.inr (.inr (.inr (.inr (.inr (.inr (.inr (.inl ⟨rfl, rfl, ht.1, ht.2, rfl, ?_⟩))))))), ?_, trivial⟩
     ·intro u hu; simp only [List.mem_singleton] at hu; subst hu; exact hv2
     ·exact hv1
    have ha2 : ∀ u ∈ acc ++ [V.nd 61 [] d.tag [v]], u.wf ∧ u.what = 61 ∧ u.tag ≤ d.tag := fun u hu => by
     rcases List.mem_append.1 hu with hu | hu
     ·obtain ⟨a1, a2, a3⟩ := ha u hu; exact ⟨a1, a2, by omega⟩
     ·simp only [List.mem_singleton] at hu; subst hu; exact ⟨hw, rfl, Int.le_refl _⟩
    have hp2 : (acc ++ [V.nd 61 [] d.tag [v]]).Pairwise (fun a b => a.tag < b.tag) := by
     rw [List.pairwise_append]
     refine ⟨hp, List.pairwise_singleton _ _, fun a hA b hB => ?_⟩
     simp only [List.mem_singleton] at hB; subst hB
     have := (ha a hA).2.2
     show a.tag < d.tag
     omega
    cases r with
    | nil => cases e
    | cons c r =>
     dsimp only at e
     split at e
     ·exact rdFlds_wf h m _ r _ e ha2 hp2
     ·split at e
      ·simp only [Option.some.injEq] at e; subst e
       exact ⟨fun u hu => ⟨(ha2 u hu).1, (ha2 u hu).2.1⟩, hp2⟩
      ·cases e
theorem rd_wf {ts : List Ty} : ∀ (n : Nat) (k s : List UInt8) (x : V × List UInt8), rd ts n k s = some x → x.1.wf ∧ x.1.what ≠ 61
 | 0, _, _, _, e => by cases e
 | n + 1, k, s, x, e => by
  have ih : ∀ k s y, rd ts n k s = some y → y.1.wf ∧ y.1.what ≠ 61 := fun k s y hy => rd_wf n k s y hy
  have h := rdK_inv k s (x := x) e
  obtain ⟨v, r⟩ := x
  dsimp only at h ⊢
  cases h with
  | lst0 => exact ⟨by rw [V.wf]; exact ⟨.inr (.inr (.inr (.inl ⟨rfl, rfl, rfl, by simp, by simp⟩))), trivial⟩, by simp [V.what]⟩
  | lst k s r vs h =>
   have h1 := rdItems_len _ _ _ h
   have h2 := rdItems_all (p := fun v => v.wf ∧ v.what ≠ 61) (fun s y hy => ih k s y hy) _ _ _ h (by simp)
   refine ⟨by rw [V.wf]; exact ⟨.inr (.inr (.inr (.inl ⟨rfl, rfl, rfl, by simpa using h1, fun v hv => (h2 v hv).2⟩))), wfs_iff.2 fun v hv => (h2 v hv).1⟩, by simp [V.what]⟩
  | non => exact ⟨by rw [V.wf]; exact ⟨.inr (.inr (.inr (.inr (.inl ⟨rfl, rfl, rfl, by simp, by simp⟩)))), trivial⟩, by simp [V.what]⟩
  | opt k s r v h =>
   have h1 := ih _ _ _ h
   have h2 : ∀ u ∈ [v], u.what ≠ 61 := fun u hu => by simp only [List.mem_singleton] at hu; subst hu; exact h1.2
   exact ⟨by rw [V.wf]; exact ⟨.inr (.inr (.inr (.inr (.inl ⟨rfl, rfl, rfl, by simp, h2⟩)))), h1.1, trivial⟩, by simp [V.what]⟩
  | num k s r n _ h =>
   have h1 := rdNum_wf h
   exact ⟨by rw [V.wf]; exact ⟨.inl ⟨rfl, rfl, rfl, n, h1.1, h1.2.1, rfl, h1.2.2⟩, trivial⟩, by simp [V.what]⟩
  | txt k s r v _ h =>
   unfold rdQuote at h
   split at h
   ·cases h
   ·split at h
    ·split at h
     ·split at h
      ·rename_i hx
       simp only [Option.some.injEq, Prod.mk.injEq] at h
       obtain ⟨rfl, _⟩ := h
       exact ⟨by rw [V.wf]; exact ⟨.inr (.inl ⟨rfl, rfl, rfl, hx⟩), trivial⟩, by simp [V.what]⟩
      ·cases h
     ·cases h
    ·cases h
  | flg k s r v _ h =>
   unfold rdFlag at h
   split at h
   ·simp only [Option.some.injEq, Prod.mk.injEq] at h
    obtain ⟨rfl, _⟩ := h
    exact ⟨by rw [V.wf]; exact ⟨.inr (.inr (.inl ⟨rfl, rfl, rfl, .inl rfl⟩)), trivial⟩, by simp [V.what]⟩
   ·split at h
    ·simp only [Option.some.injEq, Prod.mk.injEq] at h
     obtain ⟨rfl, _⟩ := h
     exact ⟨by rw [V.wf]; exact ⟨.inr (.inr (.inl ⟨rfl, rfl, rfl, .inr rfl⟩)), trivial⟩, by simp [V.what]⟩
    ·cases h
  | recd0 => exact ⟨by rw [V.wf]; exact ⟨.inr (.inr (.inr (.inr (.inr (.inr (.inr (.inr ⟨rfl, rfl, rfl, by simp, by simp⟩))))))), trivial⟩, by simp [V.what]⟩
  | recd k s r t vs _ _ h =>
   have h1 := rdFlds_wf ih _ _ _ _ h (by simp) (by simp)
   exact ⟨by rw [V.wf]; exact ⟨.inr (.inr (.inr (.inr (.inr (.inr (.inr (.inr ⟨rfl, rfl, rfl, h1.2, fun v hv => (h1.1 v hv).2⟩))))))), wfs_iff.2 fun v hv => (h1.1 v hv).1⟩, by simp [V.what]⟩
  | enm k s r t n _ _ h _ =>
   have h1 := rdNum_wf h
   exact ⟨by rw [V.wf]; exact ⟨.inr (.inr (.inr (.inr (.inr (.inl ⟨rfl, rfl, h1.1, h1.2.1, rfl⟩))))), trivial⟩, by simp [V.what]⟩
  | uni k s r t d v _ _ _ h =>
   obtain ⟨_, s', hy⟩ := rdField_inv h
   have ht := rdField_wf h
   have h1 := ih _ _ _ hy
   have h2 : ∀ u ∈ [v], u.what ≠ 61 := fun u hu => by simp only [List.mem_singleton] at hu; subst hu; exact h1.2
   exact ⟨by rw [V.wf]; exact ⟨.inr (.inr (.inr (.inr (.inr (.inr (.inl ⟨rfl, rfl, ht.1, ht.2, rfl, h2⟩)))))), h1.1, trivial⟩, by simp [V.what]⟩
theorem valOf_wf {ts : List Ty} {k s : List UInt8} {v : V} (h : valOf ts k s = some v) : v.wf ∧ v.what ≠ 61 := by
 unfold valOf at h
 split at h
 ·split at h
  ·rename_i hr
   simp only [Option.some.injEq] at h; subst h
   exact rd_wf _ _ _ _ hr
  ·cases h
 ·cases h
abbrev fldV (p : Fld × V) : V := .nd 61 [] p.1.tag [p.2]
inductive OfK (ts : List Ty) : List UInt8 → V → Prop
 | num (k : List UInt8) (n : Int) : 0 ≤ n → n ≤ 999999 → OfK ts (110 :: k) (.nd 110 (decI n) 0 [])
 | txt (k x : List UInt8) : isTx (39 :: (x ++ [39])) = true → OfK ts (116 :: k) (.nd 116 x 0 [])
 | flg (k x : List UInt8) : x = [121, 101, 115] ∨ x = [110, 111] → OfK ts (102 :: k) (.nd 102 x 0 [])
 | lst (k : List UInt8) (ks : List V) : ks.length ≤ 20 → (∀ v ∈ ks, OfK ts k v) → OfK ts (91 :: k) (.nd 91 [] 0 ks)
 | non (k : List UInt8) : OfK ts (63 :: k) (.nd 63 [] 0 [])
 | opt (k : List UInt8) (v : V) : OfK ts k v → OfK ts (63 :: k) (.nd 63 [] 0 [v])
 | recd (k : List UInt8) (t : Ty) (fs : List (Fld × V)) : refT ts k = some t → t.sort = 82 → (∀ p ∈ fs, p.1 ∈ t.fields) → (∀ p ∈ fs, OfK ts p.1.kind p.2) → (∀ p ∈ fs, p.2.out ≠ standF ts p.1) → fs.Pairwise (fun a b => a.1.tag < b.1.tag) → OfK ts k (.nd 82 [] 0 (fs.map fldV))
 | enm (k : List UInt8) (t : Ty) (d : Fld) : refT ts k = some t → t.sort = 69 → d ∈ t.fields → OfK ts k (.nd 69 [] d.tag [])
 | uni (k : List UInt8) (t : Ty) (d : Fld) (v : V) : refT ts k = some t → t.sort ≠ 82 → t.sort ≠ 69 → d ∈ t.fields → OfK ts d.kind v → OfK ts k (.nd 85 [] d.tag [v])
theorem rdFlds_of {ts : List Ty} {f : List UInt8 → List UInt8 → Option (V × List UInt8)} (h : ∀ k s y, f k s = some y → OfK ts k y.1) {t : Ty} : ∀ (m : Nat) (last : Int) (s : List UInt8) (fs : List (Fld × V)) {x : List V × List UInt8}, rdFlds ts f t m last s (fs.map fldV) = some x → (∀ p ∈ fs, p.1 ∈ t.fields ∧ OfK ts p.1.kind p.2 ∧ p.2.out ≠ standF ts p.1 ∧ p.1.tag ≤ last) → fs.Pairwise (fun a b => a.1.tag < b.1.tag) →
  ∃ gs : List (Fld × V), x.1 = gs.map fldV ∧ (∀ p ∈ gs, p.1 ∈ t.fields ∧ OfK ts p.1.kind p.2 ∧ p.2.out ≠ standF ts p.1) ∧ gs.Pairwise (fun a b => a.1.tag < b.1.tag)
 | 0, _, _, _, _, e, _, _ => by cases e
 | m + 1, last, s, fs, x, e, ha, hp => by
  unfold rdFlds at e
  cases hf : rdField f t s with
  | none => rw [hf] at e; cases e
  | some y =>
   rw [hf] at e
   obtain ⟨hd1, s', hy⟩ := rdField_inv hf
   obtain ⟨⟨d, v⟩, r⟩ := y
   dsimp only at e hy hd1
   have hv := h _ _ _ hy
   dsimp only at hv
   split at e
   ·cases e
   ·rename_i hd
    have hd' : last < d.tag := by omega
    have hne : v.out ≠ standF ts d := fun h => hd (.inr h)
    have e2 : fs.map fldV ++ [V.nd 61 [] d.tag [v]] = (fs ++ [(d, v)]).map fldV := by simp
    have ha2 : ∀ p ∈ fs ++ [(d, v)], p.1 ∈ t.fields ∧ OfK ts p.1.kind p.2 ∧ p.2.out ≠ standF ts p.1 ∧ p.1.tag ≤ d.tag := fun p hu => by
     rcases List.mem_append.1 hu with hu | hu
     ·obtain ⟨a1, a2, a3, a4⟩ := ha p hu; exact ⟨a1, a2, a3, by omega⟩
     ·simp only [List.mem_singleton] at hu; subst hu; exact ⟨hd1, hv, hne, Int.le_refl _⟩
    have hp2 : (fs ++ [(d, v)]).Pairwise (fun a b => a.1.tag < b.1.tag) := by
     rw [List.pairwise_append]
     refine ⟨hp, List.pairwise_singleton _ _, fun a hA b hB => ?_⟩
     simp only [List.mem_singleton] at hB; subst hB
     have := (ha a hA).2.2.2
     show a.1.tag < d.tag
     omega
    rw [e2] at e
    cases r with
    | nil => cases e
    | cons c r =>
     dsimp only at e
     split at e
     ·exact rdFlds_of h m _ r _ e ha2 hp2
     ·split at e
      ·simp only [Option.some.injEq] at e; subst e
       exact ⟨_, rfl, fun p hp => ⟨(ha2 p hp).1, (ha2 p hp).2.1, (ha2 p hp).2.2.1⟩, hp2⟩
      ·cases e
theorem rd_of {ts : List Ty} : ∀ (n : Nat) (k s : List UInt8) (x : V × List UInt8), rd ts n k s = some x → OfK ts k x.1
 | 0, _, _, _, e => by cases e
 | n + 1, k, s, x, e => by
  have ih : ∀ k s y, rd ts n k s = some y → OfK ts k y.1 := fun k s y hy => rd_of n k s y hy
  have h := rdK_inv k s (x := x) e
  obtain ⟨v, r⟩ := x
  dsimp only at h ⊢
  cases h with
  | lst0 => exact .lst _ _ (by simp) (by simp)
  | lst k s r vs h =>
   have h1 := rdItems_len _ _ _ h
   exact .lst _ _ (by simpa using h1) (rdItems_all (p := fun v => OfK ts k v) (fun s y hy => ih k s y hy) _ _ _ h (by simp))
  | non => exact .non _
  | opt k s r v h => exact .opt _ _ (ih _ _ _ h)
  | num k s r n _ h => have h1 := rdNum_wf h; exact .num _ _ h1.1 h1.2.1
  | txt k s r v _ h =>
   unfold rdQuote at h
   split at h
   ·cases h
   ·split at h
    ·split at h
     ·split at h
      ·rename_i hx
       simp only [Option.some.injEq, Prod.mk.injEq] at h
       obtain ⟨rfl, _⟩ := h
       exact .txt _ _ hx
      ·cases h
     ·cases h
    ·cases h
  | flg k s r v _ h =>
   unfold rdFlag at h
   split at h
   ·simp only [Option.some.injEq, Prod.mk.injEq] at h
    obtain ⟨rfl, _⟩ := h
    exact .flg _ _ (.inl rfl)
   ·split at h
    ·simp only [Option.some.injEq, Prod.mk.injEq] at h
     obtain ⟨rfl, _⟩ := h
     exact .flg _ _ (.inr rfl)
    ·cases h
  | recd0 k r t h1 h2 => exact .recd _ t [] h1 h2 (by simp) (by simp) (by simp) (by simp)
  | recd k s r t vs h1 h2 h =>
   obtain ⟨gs, e1, e2, e3⟩ := rdFlds_of (fs := []) ih _ _ _ h (by simp) (by simp)
   dsimp only at e1
   subst e1
   exact .recd _ t gs h1 h2 (fun p hp => (e2 p hp).1) (fun p hp => (e2 p hp).2.1) (fun p hp => (e2 p hp).2.2) e3
  | enm k s r t n h1 h2 h h3 =>
   obtain ⟨d, hd⟩ := Option.isSome_iff_exists.1 h3
   have hdt : d.tag = n := by have := List.find?_some hd; simpa using this
   rw [← hdt]
   exact .enm _ t d h1 h2 (List.mem_of_find?_eq_some hd)
  | uni k s r t d v h1 h2 h3 h =>
   obtain ⟨a1, s', hy⟩ := rdField_inv h
   exact .uni _ t d v h1 h2 h3 a1 (ih _ _ _ hy)
theorem valOf_of_k {ts : List Ty} {k s : List UInt8} {v : V} (h : valOf ts k s = some v) : OfK ts k v := by
 unfold valOf at h
 split at h
 ·split at h
  ·rename_i hr
   simp only [Option.some.injEq] at h; subst h
   exact rd_of _ _ _ _ hr
  ·cases h
 ·cases h
theorem fld_tag {t : Ty} (hw : TyW t) {d d' : Fld} (h1 : d ∈ t.fields) (h2 : d' ∈ t.fields) (he : d.tag = d'.tag) : d = d' := by
 have hp := hw.asc
 obtain ⟨i, hi, rfl⟩ := List.mem_iff_getElem.1 h1
 obtain ⟨j, hj, rfl⟩ := List.mem_iff_getElem.1 h2
 rw [List.pairwise_iff_getElem] at hp
 rcases Nat.lt_trichotomy i j with h | h | h
 ·have := (hp i j hi hj h).1; omega
 ·subst h; rfl
 ·have := (hp j i hj hi h).1; omega
theorem refT_no {ts : List Ty} {k : List UInt8} {t : Ty} {c : UInt8} {r : List UInt8} (h : refT ts k = some t) (hk : k = c :: r) (hc : c.toNat ≠ 64) : False := by
 subst hk
 have : refN (c :: r) = none := by unfold refN; exact if_neg hc
 unfold refT at h
 rw [this] at h
 cases h
theorem ofK_inv_t {ts : List Ty} {k : List UInt8} {u : V} {t : Ty} (h : OfK ts k u) (hr : refT ts k = some t) :
  (t.sort = 82 ∧ ∃ fs : List (Fld × V), u = .nd 82 [] 0 (fs.map fldV) ∧ (∀ p ∈ fs, p.1 ∈ t.fields) ∧ (∀ p ∈ fs, OfK ts p.1.kind p.2) ∧ (∀ p ∈ fs, p.2.out ≠ standF ts p.1) ∧ fs.Pairwise (fun a b => a.1.tag < b.1.tag))
  ∨ (t.sort = 69 ∧ ∃ d, u = .nd 69 [] d.tag [] ∧ d ∈ t.fields) ∨ (t.sort ≠ 82 ∧ t.sort ≠ 69 ∧ ∃ d v, u = .nd 85 [] d.tag [v] ∧ d ∈ t.fields ∧ OfK ts d.kind v) := by
 cases h with
 | num => exact (refT_no hr rfl (by decide)).elim
 | txt => exact (refT_no hr rfl (by decide)).elim
 | flg => exact (refT_no hr rfl (by decide)).elim
 | lst => exact (refT_no hr rfl (by decide)).elim
 | non => exact (refT_no hr rfl (by decide)).elim
 | opt => exact (refT_no hr rfl (by decide)).elim
 | recd _ t' fs g1 g2 g3 g4 g5 g6 => rw [hr] at g1; obtain rfl := Option.some.inj g1; exact .inl ⟨g2, fs, rfl, g3, g4, g5, g6⟩
 | enm _ t' d g1 g2 g3 => rw [hr] at g1; obtain rfl := Option.some.inj g1; exact .inr (.inl ⟨g2, d, rfl, g3⟩)
 | uni _ t' d v g1 g2 g3 g4 g5 => rw [hr] at g1; obtain rfl := Option.some.inj g1; exact .inr (.inr ⟨g2, g3, d, v, rfl, g4, g5⟩)
theorem ofK_inv_c {ts : List Ty} {c : UInt8} {k : List UInt8} {u : V} (h : OfK ts (c :: k) u) (hc : c.toNat ≠ 64) :
  (c.toNat = 110 ∧ ∃ n : Int, 0 ≤ n ∧ n ≤ 999999 ∧ u = .nd 110 (decI n) 0 []) ∨ (c.toNat = 116 ∧ ∃ x, isTx (39 :: (x ++ [39])) = true ∧ u = .nd 116 x 0 []) ∨ (c.toNat = 102 ∧ ∃ x, (x = [121, 101, 115] ∨ x = [110, 111]) ∧ u = .nd 102 x 0 [])
  ∨ (c.toNat = 91 ∧ ∃ ks, ks.length ≤ 20 ∧ (∀ v ∈ ks, OfK ts k v) ∧ u = .nd 91 [] 0 ks) ∨ (c.toNat = 63 ∧ (u = .nd 63 [] 0 [] ∨ ∃ v, OfK ts k v ∧ u = .nd 63 [] 0 [v])) := by
 generalize hk : c :: k = k' at h
 cases h with
 | num k n h1 h2 => injection hk with e1 e2; subst e1; exact .inl ⟨rfl, n, h1, h2, rfl⟩
 | txt k x h1 => injection hk with e1 e2; subst e1; exact .inr (.inl ⟨rfl, x, h1, rfl⟩)
 | flg k x h1 => injection hk with e1 e2; subst e1; exact .inr (.inr (.inl ⟨rfl, x, h1, rfl⟩))
 | lst k ks h1 h2 => injection hk with e1 e2; subst e1; subst e2; exact .inr (.inr (.inr (.inl ⟨rfl, ks, h1, h2, rfl⟩)))
 | non k => injection hk with e1 e2; subst e1; exact .inr (.inr (.inr (.inr ⟨rfl, .inl rfl⟩)))
 | opt k v h1 => injection hk with e1 e2; subst e1; subst e2; exact .inr (.inr (.inr (.inr ⟨rfl, .inr ⟨v, h1, rfl⟩⟩)))
 | recd _ t' fs g1 => exact (refT_no g1 hk.symm hc).elim
 | enm _ t' d g1 => exact (refT_no g1 hk.symm hc).elim
 | uni _ t' d v g1 => exact (refT_no g1 hk.symm hc).elim
theorem u8_dgA {i : Int} (h : 0 ≤ i ∧ i ≤ 9) : (u8 (48 + i)).toNat = (48 + i).toNat := by have := u8_val (a := 48 + i) (by omega); omega
theorem digF_snoc : ∀ (s : List UInt8) {n m : Int} {c : UInt8}, digF n s = some m → 48 ≤ c.toNat ∧ c.toNat ≤ 57 → digF n (s ++ [c]) = some (10 * m + ((c.toNat : Int) - 48))
 | [], n, m, c, h, hc => by simp only [digF, Option.some.injEq] at h; subst h; simp only [List.nil_append, digF, if_pos hc]
 | d :: s, n, m, c, h, hc => by
  unfold digF at h
  split at h
  ·rename_i hd
   have := digF_snoc s h hc
   simp only [List.cons_append]
   unfold digF
   rw [if_pos hd]; exact this
  ·cases h
theorem digF_decI : ∀ (k : Nat) {m : Int}, m.toNat ≤ k → 0 ≤ m → digF 0 (decI m) = some m ∧ ∀ c ∈ decI m, isDg c = true := by
 intro k
 induction k with
 | zero =>
  intro m hk h0
  have : m = 0 := by omega
  subst this
  rw [decI_lo (by decide) (by decide)]
  exact ⟨by decide, by intro c hc; simp only [List.mem_singleton] at hc; subst hc; decide⟩
 | succ k ih =>
  intro m hk h0
  by_cases h : m < 10
  ·have hd := u8_dgA (i := m) (by omega)
   have hd2 : isDg (u8 (48 + m)) = true := by unfold isDg; rw [decide_eq_true_eq]; omega
   rw [decI_lo h h0]
   refine ⟨?_, fun c hc => by simp only [List.mem_singleton] at hc; subst hc; exact hd2⟩
   unfold digF digF
   rw [if_pos (by omega)]; congr 1; omega
  ·obtain ⟨h1, h2⟩ := ih (m := m / 10) (by omega) (by omega)
   have hd := u8_dgA (i := m % 10) (by omega)
   have hd2 : isDg (u8 (48 + m % 10)) = true := by unfold isDg; rw [decide_eq_true_eq]; omega
   rw [decI_hi h]
   refine ⟨by rw [digF_snoc _ h1 (by omega)]; congr 1; omega, fun c hc => ?_⟩
   rcases List.mem_append.1 hc with hc | hc
   ·exact h2 c hc
   ·simp only [List.mem_singleton] at hc; subst hc; exact hd2
theorem decI_6 {m : Int} (h : m ≤ 999999) : (decI m).length ≤ 6 := dec_len _ 5 (by omega)
theorem numOf_decI {m top : Int} (h0 : 0 ≤ m) (h1 : m ≤ top) (ht : top ≤ 999999) : numOf (decI m) top = some m := by
 unfold numOf
 rw [if_pos (decI_6 (by omega)), (digF_decI _ (Nat.le_refl _) h0).1]
 dsimp only
 rw [if_pos ⟨rfl, h1⟩]
def Dl (s : List UInt8) : Prop := ∀ c r, s = c :: r → isDg c = false
theorem dl_cons {c : UInt8} {r : List UInt8} (h : isDg c = false) : Dl (c :: r) := fun d s e => by injection e with e1 e2; subst e1; exact h
theorem dl_nil : Dl [] := fun _ _ e => by cases e
theorem dl_tw : ∀ {s : List UInt8}, Dl s → s.takeWhile isDg = [] ∧ s.dropWhile isDg = s
 | [], _ => ⟨rfl, rfl⟩
 | c :: r, h => by have := h c r rfl; rw [List.takeWhile_cons, List.dropWhile_cons, this]; exact ⟨rfl, rfl⟩
theorem tw_app {p : UInt8 → Bool} : ∀ {s r : List UInt8}, (∀ c ∈ s, p c = true) → (s ++ r).takeWhile p = s ++ r.takeWhile p ∧ (s ++ r).dropWhile p = r.dropWhile p
 | [], _, _ => ⟨rfl, rfl⟩
 | c :: s, r, h => by
  obtain ⟨h1, h2⟩ := tw_app (s := s) (r := r) fun d hd => h d (by simp [hd])
  have := h c (by simp)
  rw [List.cons_append, List.takeWhile_cons, List.dropWhile_cons, this, if_pos rfl, if_pos rfl, h1, h2]; exact ⟨rfl, rfl⟩
theorem rdNum_in {m top : Int} {r : List UInt8} (h0 : 0 ≤ m) (h1 : m ≤ top) (ht : top ≤ 999999) (hr : Dl r) : rdNum top (decI m ++ r) = some (m, r) := by
 obtain ⟨e1, e2⟩ := tw_app (r := r) (digF_decI _ (Nat.le_refl _) h0).2
 obtain ⟨e3, e4⟩ := dl_tw hr
 unfold rdNum
 rw [e1, e2, e3, e4, List.append_nil, numOf_decI h0 h1 ht]; rfl
theorem tx_39 {x : List UInt8} (h : isTx (39 :: (x ++ [39])) = true) : ∀ j, j < x.length → bt x j ≠ 39 := by
 intro j hj e
 unfold isTx at h
 rw [decide_eq_true_eq] at h
 have h1 := h.2.2.2 (j + 1) (by simp; omega)
 rw [bt_succ] at h1
 have h2 : bt (x ++ [39]) j = bt x j := by simp [bt, List.getD, List.getElem?_append_left hj]
 rw [h2, e] at h1
 rcases h1 with h1 | h1
 ·omega
 ·exact absurd h1 (by decide)
theorem rdQuote_in {x r : List UInt8} (h : isTx (39 :: (x ++ [39])) = true) : rdQuote (39 :: (x ++ 39 :: r)) = some (.nd 116 x 0 [], r) := by
 have hc : cut1 39 (x ++ 39 :: r) = (x, r, true) := by
  have h1 := cut1_at (k := 39) (s := x ++ 39 :: r) (i := x.length) (by simp) (fun j hj => by
   have := tx_39 h j hj
   have h2 : bt (x ++ 39 :: r) j = bt x j := by simp [bt, List.getD, List.getElem?_append_left hj]
   rw [h2]; exact this) (by simp [bt, List.getD])
  rw [h1]
  congr 1
  ·exact List.take_left
  ·congr 1
   rw [show x.length + 1 = (x ++ [39]).length by simp, show x ++ 39 :: r = (x ++ [39]) ++ r by simp, List.drop_left]
 unfold rdQuote
 dsimp only
 rw [if_pos (by decide), hc]
 dsimp only
 rw [if_pos h]
theorem rdFlag_in {x r : List UInt8} (h : x = [121, 101, 115] ∨ x = [110, 111]) : rdFlag (x ++ r) = some (.nd 102 x 0 [], r) := by
 unfold rdFlag
 rcases h with rfl | rfl
 ·rw [if_pos (by simp [List.isPrefixOf])]; rfl
 ·rw [if_neg (by simp [List.isPrefixOf]), if_pos (by simp [List.isPrefixOf])]; rfl
theorem rdItems_in {f : List UInt8 → Option (V × List UInt8)} {rest : List UInt8} : ∀ (ks : List V) (m : Nat) (acc : List V), ks ≠ [] → ks.length ≤ m → (∀ v ∈ ks, ∀ r, Dl r → f (v.out ++ r) = some (v, r)) → rdItems f m (joinB 44 (ks.map V.out) ++ 93 :: rest) acc = some (acc ++ ks, rest)
 | [], _, _, h, _, _ => absurd rfl h
 | [v], m, acc, _, hm, hf => by
  obtain ⟨m, rfl⟩ : ∃ n, m = n + 1 := ⟨m - 1, by simp at hm; omega⟩
  unfold rdItems
  simp only [List.map_cons, List.map_nil, joinB]
  rw [hf v (by simp) _ (dl_cons (by decide))]
  dsimp only
  rw [if_neg (by decide), if_pos (by decide)]
 | v :: u :: ks, m, acc, _, hm, hf => by
  obtain ⟨m, rfl⟩ : ∃ n, m = n + 1 := ⟨m - 1, by simp at hm; omega⟩
  have ih := rdItems_in (rest := rest) (u :: ks) m (acc ++ [v]) (by simp) (by simp at hm ⊢; omega) fun w hw => hf w (by simp [hw])
  unfold rdItems
  simp only [List.map_cons, joinB, List.append_assoc, List.cons_append] at ih ⊢
  rw [hf v (by simp) _ (dl_cons (by decide))]
  dsimp only
  rw [if_pos (by decide), ih]
  simp
theorem fldT_mem {t : Ty} (hw : TyW t) {d : Fld} (h : d ∈ t.fields) : fldT t.fields d.tag = some d := by
 cases e : fldT t.fields d.tag with
 | none => have := (List.find?_eq_none.1 e) d h; simp at this
 | some d' =>
  have h1 : d'.tag = d.tag := by have := List.find?_some e; simpa using this
  rw [fld_tag hw (List.mem_of_find?_eq_some e) h h1]
theorem rdField_in {f : List UInt8 → List UInt8 → Option (V × List UInt8)} {t : Ty} (hw : TyW t) {d : Fld} {v : V} {r : List UInt8} (h : d ∈ t.fields) (hf : f d.kind (v.out ++ r) = some (v, r)) : rdField f t (decI d.tag ++ 61 :: (v.out ++ r)) = some ((d, v), r) := by
 have ht := (hw.fld d h).tag
 unfold rdField
 rw [rdNum_in (by omega) ht.2 (by decide) (dl_cons (by decide))]
 dsimp only
 rw [fldT_mem hw h]
 dsimp only
 rw [if_pos (by decide), hf]; rfl
theorem rdFlds_in {ts : List Ty} {f : List UInt8 → List UInt8 → Option (V × List UInt8)} {t : Ty} (hw : TyW t) {rest : List UInt8} : ∀ (fs : List (Fld × V)) (m : Nat) (last : Int) (acc : List V), fs ≠ [] → fs.length ≤ m → (∀ p ∈ fs, p.1 ∈ t.fields ∧ p.2.out ≠ standF ts p.1 ∧ last < p.1.tag ∧ ∀ r, Dl r → f p.1.kind (p.2.out ++ r) = some (p.2, r)) → fs.Pairwise (fun a b => a.1.tag < b.1.tag) →
  rdFlds ts f t m last (joinB 44 ((fs.map fldV).map V.out) ++ 125 :: rest) acc = some (acc ++ fs.map fldV, rest)
 | [], _, _, _, h, _, _, _ => absurd rfl h
 | [p], m, last, acc, _, hm, hf, _ => by
  obtain ⟨m, rfl⟩ : ∃ n, m = n + 1 := ⟨m - 1, by simp at hm; omega⟩
  obtain ⟨h1, h2, h3, h4⟩ := hf p (by simp)
  unfold rdFlds
  simp only [List.map_cons, List.map_nil, joinB, fldV, out_fld, List.append_assoc, List.cons_append]
  rw [rdField_in hw h1 (h4 _ (dl_cons (by decide)))]
  dsimp only
  rw [if_neg (by rintro (h | h); omega; exact h2 h), if_neg (by decide), if_pos (by decide)]
 | p :: q :: fs, m, last, acc, _, hm, hf, hp => by
  obtain ⟨m, rfl⟩ : ∃ n, m = n + 1 := ⟨m - 1, by simp at hm; omega⟩
  obtain ⟨h1, h2, h3, h4⟩ := hf p (by simp)
  rw [List.pairwise_cons] at hp
  have ih := rdFlds_in (ts := ts) (f := f) hw (rest := rest) (q :: fs) m p.1.tag (acc ++ [fldV p]) (by simp) (by simp at hm ⊢; omega) (fun w hw => ⟨(hf w (by simp [hw])).1, (hf w (by simp [hw])).2.1, hp.1 w hw, (hf w (by simp [hw])).2.2.2⟩) hp.2
  unfold rdFlds
  simp only [List.map_cons, joinB, out_fld, List.append_assoc, List.cons_append] at ih ⊢
  rw [rdField_in hw h1 (h4 _ (dl_cons (by decide)))]
  dsimp only
  rw [if_neg (by rintro (h | h); omega; exact h2 h), if_pos (by decide), ih]
  simp
theorem decI_cons {m : Int} (h : 0 ≤ m) : ∃ c r, decI m = c :: r ∧ isDg c = true := by
 cases e : decI m with
 | nil => have := decI_pos m; rw [e] at this; simp at this
 | cons c r => exact ⟨c, r, rfl, (digF_decI _ (Nat.le_refl _) h).2 c (by rw [e]; simp)⟩
theorem dg_ne {c : UInt8} (h : isDg c = true) : 48 ≤ c.toNat ∧ c.toNat ≤ 57 := by unfold isDg at h; rwa [decide_eq_true_eq] at h
theorem out_head {ts : List Ty} {k : List UInt8} {v : V} (h : OfK ts k v) : ∃ c r, v.out = c :: r ∧ c.toNat ≠ 93 := by
 cases h with
 | num k n h1 h2 => obtain ⟨c, r, e, hc⟩ := decI_cons h1; have := dg_ne hc; exact ⟨c, r, by rw [V.out]; exact e, by omega⟩
 | txt k x => exact ⟨39, _, by rw [V.out]; rfl, by decide⟩
 | flg k x h => rcases h with rfl | rfl; exact ⟨121, _, by rw [V.out]; rfl, by decide⟩; exact ⟨110, _, by rw [V.out]; rfl, by decide⟩
 | lst => exact ⟨91, _, by rw [V.out]; rfl, by decide⟩
 | non => exact ⟨45, _, by rw [V.out]; rfl, by decide⟩
 | opt => exact ⟨43, _, by rw [V.out]; rfl, by decide⟩
 | recd => exact ⟨123, _, by rw [V.out]; rfl, by decide⟩
 | enm => exact ⟨35, _, by rw [V.out]; rfl, by decide⟩
 | uni => exact ⟨60, _, by rw [V.out]; rfl, by decide⟩
theorem rd_in {ts : List Ty} (hw : SchW ts) : ∀ (n : Nat) {k : List UInt8} {v : V}, OfK ts k v → v.deep ≤ n → ∀ r, Dl r → rd ts n k (v.out ++ r) = some (v, r)
 | 0, k, v, h, hd, r, hr => by
  obtain ⟨w, x, t, ks⟩ := v
  have hne : w ≠ 61 := by cases h <;> decide
  rw [deep_nd hne] at hd; omega
 | n + 1, k, v, h, hd, r, hr => by
  have ih := fun {k : List UInt8} {v : V} => rd_in hw n (k := k) (v := v)
  show rdK ts (rd ts n) k (v.out ++ r) = some (v, r)
  cases h with
  | num k m h1 h2 =>
   have e : V.out (.nd 110 (decI m) 0 []) = decI m := by rw [V.out]; rfl
   have hrf : refT ts (110 :: k) = none := by cases h : refT ts (110 :: k) with | none => rfl | some t => exact (refT_no h rfl (by decide)).elim
   rw [e]
   unfold rdK
   try dsimp only
   rw [if_neg (by decide), if_neg (by decide), hrf]
   try dsimp only
   rw [if_pos (by decide), rdNum_in h1 h2 (by decide) hr]; rfl
  | txt k x h1 =>
   have e : V.out (.nd 116 x 0 []) ++ r = 39 :: (x ++ 39 :: r) := by rw [V.out]; simp [outW]
   have hrf : refT ts (116 :: k) = none := by cases h : refT ts (116 :: k) with | none => rfl | some t => exact (refT_no h rfl (by decide)).elim
   rw [e]
   unfold rdK
   try dsimp only
   rw [if_neg (by decide), if_neg (by decide), hrf]
   try dsimp only
   rw [if_neg (by decide), if_pos (by decide), rdQuote_in h1]
  | flg k x h1 =>
   have e : V.out (.nd 102 x 0 []) = x := by rw [V.out]; rfl
   have hrf : refT ts (102 :: k) = none := by cases h : refT ts (102 :: k) with | none => rfl | some t => exact (refT_no h rfl (by decide)).elim
   rw [e]
   unfold rdK
   try dsimp only
   rw [if_neg (by decide), if_neg (by decide), hrf]
   try dsimp only
   rw [if_neg (by decide), if_neg (by decide), if_pos (by decide), rdFlag_in h1]
  | lst k ks h1 h2 =>
   rw [deep_nd (by decide)] at hd
   rw [out_list]
   unfold rdK
   try dsimp only
   rw [if_pos (by decide)]
   try dsimp only
   rw [if_pos (by decide)]
   cases ks with
   | nil => simp only [List.map_nil, joinB, List.nil_append]; rw [if_pos (by decide)]
   | cons v ks =>
    have hI := rdItems_in (f := rd ts n k) (rest := r) (v :: ks) 20 [] (by simp) h1 fun u hu r hr => ih (h2 u hu) (by have := V.deep_mem hu; omega) r hr
    obtain ⟨c, s, e1, e2⟩ := out_head (h2 v (by simp))
    cases hj : joinB 44 ((v :: ks).map V.out) ++ 93 :: r with
    | nil => simp at hj
    | cons c' s' =>
     have hc' : c' = c := by
      have : ∃ s2, joinB 44 ((v :: ks).map V.out) ++ 93 :: r = c :: s2 := by
       cases ks with
       | nil => simp only [List.map_cons, List.map_nil, joinB, e1, List.cons_append]; exact ⟨_, rfl⟩
       | cons u ks => simp only [List.map_cons, joinB, e1, List.cons_append]; exact ⟨_, rfl⟩
      obtain ⟨s2, h3⟩ := this
      rw [hj] at h3; injection h3
     try dsimp only
     rw [if_neg (by rw [hc']; exact e2), ← hj, hI]; rfl
  | non k =>
   have e : V.out (.nd 63 [] 0 []) ++ r = 45 :: r := by rw [V.out]; rfl
   rw [e]
   unfold rdK
   try dsimp only
   rw [if_neg (by decide), if_pos (by decide)]
   try dsimp only
   rw [if_pos (by decide)]
  | opt k v h1 =>
   rw [deep_nd (by decide)] at hd
   have hd2 : v.deep ≤ n := by have := V.deep_mem (ks := [v]) (v := v) (by simp); omega
   rw [out_opt]
   unfold rdK
   try dsimp only
   rw [if_neg (by decide), if_pos (by decide)]
   try dsimp only
   rw [if_neg (by decide), if_pos (by decide), ih h1 hd2 r hr]; rfl
  | recd k t fs h1 h2 h3 h4 h5 h6 =>
   rw [deep_nd (by decide)] at hd
   have hk : ∃ k', k = 64 :: k' := by
    cases k with
    | nil => simp [refT, refN] at h1
    | cons c k' =>
     by_cases h64 : c.toNat = 64
     ·exact ⟨k', by rw [show c = 64 from UInt8.toNat_inj.1 h64]⟩
     ·exact (refT_no h1 rfl h64).elim
   obtain ⟨k', rfl⟩ := hk
   rw [out_rec]
   unfold rdK
   try dsimp only
   rw [if_neg (by decide), if_neg (by decide), h1]
   try dsimp only
   unfold rdTyped
   dsimp only
   rw [if_pos h2, if_pos (by decide)]
   cases fs with
   | nil => simp only [List.map_nil, joinB, List.nil_append]; rw [if_pos (by decide)]
   | cons p fs =>
    have hlen : (p :: fs).length ≤ (joinB 44 (((p :: fs).map fldV).map V.out) ++ 125 :: r).length + 1 := by
     have h7 : ∀ xs : List (List UInt8), (∀ x ∈ xs, 1 ≤ x.length) → xs.length ≤ (joinB 44 xs).length := by
      intro xs
      induction xs with
      | nil => intro _; simp
      | cons x xs ihx =>
       intro hx
       have hx1 := hx x (by simp)
       have ihx := ihx fun y hy => hx y (by simp [hy])
       cases xs with
       | nil => simp only [joinB, List.length_cons, List.length_nil]; omega
       | cons y xs => simp only [joinB, List.length_append, List.length_cons] at ihx ⊢; omega
     have h8 := h7 (((p :: fs).map fldV).map V.out) (fun x hx => by
      obtain ⟨v, hv, rfl⟩ := List.mem_map.1 hx
      obtain ⟨q, hq, rfl⟩ := List.mem_map.1 hv
      rw [out_fld]; simp; omega)
     simp only [List.length_map] at h8
     simp only [List.length_append, List.length_cons]
     simp only [List.length_cons] at h8
     omega
    have hI := rdFlds_in (ts := ts) (f := rd ts n) (hw.ty t (refT_mem h1)) (rest := r) (p :: fs) ((joinB 44 (((p :: fs).map fldV).map V.out) ++ 125 :: r).length + 1) 0 [] (by simp) hlen (fun q hq => ⟨h3 q hq, h5 q hq, by have := ((hw.ty t (refT_mem h1)).fld _ (h3 q hq)).tag; omega, fun r hr => ih (h4 q hq) (by
     have := V.deep_mem (ks := (p :: fs).map fldV) (v := fldV q) (List.mem_map.2 ⟨q, hq, rfl⟩)
     rw [show V.deep (fldV q) = V.deep q.2 from deep_fld] at this
     omega) r hr⟩) h6
    obtain ⟨c, s, e1, e2⟩ := decI_cons (m := p.1.tag) (by have := ((hw.ty t (refT_mem h1)).fld _ (h3 p (by simp))).tag; omega)
    have he2 := dg_ne e2
    cases hj : joinB 44 (((p :: fs).map fldV).map V.out) ++ 125 :: r with
    | nil => simp at hj
    | cons c' s' =>
     have hc' : c' = c := by
      have : ∃ s2, joinB 44 (((p :: fs).map fldV).map V.out) ++ 125 :: r = c :: s2 := by
       cases fs with
       | nil => simp only [List.map_cons, List.map_nil, joinB, out_fld, e1, List.cons_append]; exact ⟨_, rfl⟩
       | cons u ks => simp only [List.map_cons, joinB, out_fld, e1, List.cons_append]; exact ⟨_, rfl⟩
      obtain ⟨s2, h3⟩ := this
      rw [hj] at h3; injection h3
     try dsimp only
     rw [if_neg (by rw [hc']; omega), ← hj, hI]; rfl
  | enm k t d h1 h2 h3 =>
   have hk : ∃ k', k = 64 :: k' := by
    cases k with
    | nil => simp [refT, refN] at h1
    | cons c k' =>
     by_cases h64 : c.toNat = 64
     ·exact ⟨k', by rw [show c = 64 from UInt8.toNat_inj.1 h64]⟩
     ·exact (refT_no h1 rfl h64).elim
   obtain ⟨k', rfl⟩ := hk
   have ht := ((hw.ty t (refT_mem h1)).fld d h3).tag
   have e : V.out (.nd 69 [] d.tag []) ++ r = 35 :: (decI d.tag ++ r) := by rw [V.out]; rfl
   rw [e]
   unfold rdK
   try dsimp only
   rw [if_neg (by decide), if_neg (by decide), h1]
   try dsimp only
   unfold rdTyped
   dsimp only
   rw [if_neg (by omega), if_pos h2, if_pos (by decide), rdNum_in (by omega) ht.2 (by decide) hr]
   try dsimp only
   rw [fldT_mem (hw.ty t (refT_mem h1)) h3, if_pos (by simp)]
  | uni k t d v h1 h2 h3 h4 h5 =>
   rw [deep_nd (by decide)] at hd
   have hd2 : v.deep ≤ n := by have := V.deep_mem (ks := [v]) (v := v) (by simp); omega
   have hk : ∃ k', k = 64 :: k' := by
    cases k with
    | nil => simp [refT, refN] at h1
    | cons c k' =>
     by_cases h64 : c.toNat = 64
     ·exact ⟨k', by rw [show c = 64 from UInt8.toNat_inj.1 h64]⟩
     ·exact (refT_no h1 rfl h64).elim
   obtain ⟨k', rfl⟩ := hk
   rw [out_uni]
   unfold rdK
   try dsimp only
   rw [if_neg (by decide), if_neg (by decide), h1]
   try dsimp only
   unfold rdTyped
   dsimp only
   rw [if_neg h2, if_neg h3, if_pos (by decide), rdField_in (hw.ty t (refT_mem h1)) h4 (ih h5 hd2 _ (dl_cons (by decide)))]
   try dsimp only
   rw [if_pos (by decide)]
theorem valOf_in {ts : List Ty} (hw : SchW ts) {k : List UInt8} {v : V} (h : OfK ts k v) (hl : v.out.length ≤ 400) (hd : v.deep ≤ 12) : valOf ts k v.out = some v := by
 have h1 := rd_in hw 12 h hd [] dl_nil
 rw [List.append_nil] at h1
 unfold valOf
 rw [if_pos hl, h1]
theorem valOf_no_in {ts : List Ty} (hw : SchW ts) {k : List UInt8} {v : V} (h : OfK ts k v) (hn : ¬ (v.out.length ≤ 400 ∧ v.deep ≤ 12)) : valOf ts k v.out = none := by
 cases hv : valOf ts k v.out with
 | none => rfl
 | some u =>
  obtain ⟨h1, h2, h3⟩ := valOf_out hv
  have hu := valOf_of_k hv
  have hd : v.deep ≤ max v.deep 12 := Nat.le_max_left _ _
  have h4 := rd_in hw (max v.deep 12) h hd [] dl_nil
  have h5 := rd_in hw (max v.deep 12) hu (Nat.le_trans h3 (Nat.le_max_right _ _)) [] dl_nil
  rw [List.append_nil] at h4 h5
  rw [h1, h4] at h5
  have := (Prod.mk.inj (Option.some.inj h5)).1
  subst this
  exact absurd ⟨h2, h3⟩ hn
end Go.E
namespace Go.E
set_option maxRecDepth 20000
set_option maxHeartbeats 2000000
open Go.Proofs
theorem kind_ne {ts : List Ty} {k : List UInt8} (h : kindIn ts k = true) : ∃ c r, k = c :: r := by
 cases k with
 | nil => unfold kindIn kindOk kOk at h; simp at h
 | cons c r => exact ⟨c, r, rfl⟩
theorem head0 {t : Ty} (hw : TyW t) (hs : t.sort ≠ 82) : t.fields.headD default ∈ t.fields := by
 have := hw.ne hs
 cases h : t.fields with
 | nil => exact absurd h this
 | cons d r => simp
theorem decI0 : decI 0 = [48] := by rw [decI_lo (by decide) (by decide)]; decide
theorem out_num0 : V.out (.nd 110 (decI 0) 0 []) = [48] := by rw [V.out]; exact decI0
theorem standN_val {ts : List Ty} (hw : SchW ts) : ∀ (n : Nat) {k : List UInt8}, kindIn ts k = true → (∀ t, refT ts k = some t → endsN ts n t = true) → ∃ u, OfK ts k u ∧ u.out = standN ts (n + 1) k ∧ u.deep ≤ n + 1 ∧ u.out.length ≤ 30 * (n + 1) ∧ u.size ≤ 1 := by
 intro n
 induction n with
 | zero =>
  intro k hk he
  obtain ⟨c, r, rfl⟩ := kind_ne hk
  unfold standN
  by_cases h91 : c.toNat = 91
  ·obtain rfl := u8_eq h91 (by decide)
   exact ⟨_, .lst _ [] (by simp) (by simp), by rw [if_pos h91, V.out]; rfl, by simp [V.deep, V.deeps], by rw [V.out]; decide, by simp [V.size, leafW, V.sizes]⟩
  by_cases h63 : c.toNat = 63
  ·obtain rfl := u8_eq h63 (by decide)
   exact ⟨_, .non _, by rw [if_neg h91, if_pos h63, V.out]; rfl, by simp [V.deep, V.deeps], by rw [V.out]; decide, by simp [V.size, leafW]⟩
  rw [if_neg h91, if_neg h63]
  cases hr : refT ts (c :: r) with
  | some t => have := he t hr; simp [endsN] at this
  | none =>
   dsimp only
   rcases plain_kinds hk (by rintro (h | h) <;> contradiction) hr with e | e | e
   all_goals rw [e]
   ·exact ⟨_, .num [] 0 (by decide) (by decide), by rw [out_num0]; decide, by simp [V.deep, V.deeps], by rw [out_num0]; decide, by simp [V.size, leafW]⟩
   ·exact ⟨_, .txt [] [] (by decide), by rw [V.out]; decide, by simp [V.deep, V.deeps], by rw [V.out]; decide, by simp [V.size, leafW]⟩
   ·exact ⟨_, .flg [] _ (.inr rfl), by rw [V.out]; decide, by simp [V.deep, V.deeps], by rw [V.out]; decide, by simp [V.size, leafW]⟩
 | succ n ih =>
  intro k hk he
  obtain ⟨c, r, rfl⟩ := kind_ne hk
  unfold standN
  by_cases h91 : c.toNat = 91
  ·obtain rfl := u8_eq h91 (by decide)
   exact ⟨_, .lst _ [] (by simp) (by simp), by rw [if_pos h91, V.out]; rfl, by simp [V.deep, V.deeps], by rw [V.out]; simp [outW, V.outs, joinB]; omega, by simp [V.size, leafW, V.sizes]⟩
  by_cases h63 : c.toNat = 63
  ·obtain rfl := u8_eq h63 (by decide)
   exact ⟨_, .non _, by rw [if_neg h91, if_pos h63, V.out]; rfl, by simp [V.deep, V.deeps], by rw [V.out]; simp [outW]; omega, by simp [V.size, leafW]⟩
  rw [if_neg h91, if_neg h63]
  cases hr : refT ts (c :: r) with
  | none =>
   dsimp only
   rcases plain_kinds hk (by rintro (h | h) <;> contradiction) hr with e | e | e
   all_goals rw [e]
   ·exact ⟨_, .num [] 0 (by decide) (by decide), by rw [out_num0]; decide, by simp [V.deep, V.deeps], by rw [out_num0]; simp; omega, by simp [V.size, leafW]⟩
   ·exact ⟨_, .txt [] [] (by decide), by rw [V.out]; decide, by simp [V.deep, V.deeps], by rw [V.out]; simp [outW]; omega, by simp [V.size, leafW]⟩
   ·exact ⟨_, .flg [] _ (.inr rfl), by rw [V.out]; decide, by simp [V.deep, V.deeps], by rw [V.out]; simp [outW]; omega, by simp [V.size, leafW]⟩
  | some t =>
   have htm := refT_mem hr
   have htw := hw.ty t htm
   dsimp only
   by_cases h82 : t.sort = 82
   ·rw [if_pos h82]
    exact ⟨_, .recd _ t [] hr h82 (by simp) (by simp) (by simp) (by simp), by rw [V.out]; rfl, by simp [V.deep, V.deeps], by rw [V.out]; simp [outW, V.outs, joinB]; omega, by simp [V.size, leafW, V.sizes]⟩
   rw [if_neg h82]
   have hd := head0 htw h82
   have htg := (htw.fld _ hd).tag
   have hdl := decI_6 (m := tag0 t) (by unfold tag0; omega)
   by_cases h69 : t.sort = 69
   ·rw [if_pos h69]
    exact ⟨_, .enm _ t _ hr h69 hd, by rw [V.out]; rfl, by simp [V.deep, V.deeps], by rw [V.out]; show (35 :: decI (tag0 t)).length ≤ _; simp only [List.length_cons]; omega, by simp [V.size, leafW]⟩
   rw [if_neg h69]
   have h85 : t.sort = 85 := by have := htw.sort; unfold sortOk at this; omega
   have he1 := he t hr
   unfold endsN at he1
   rw [if_neg (by simpa using h85)] at he1
   obtain ⟨u, g1, g2, g3, g4, g5⟩ := ih (k := kind0 t) (kind_in hw htm h69 hd) (fun t' ht' => by rw [ht'] at he1; exact he1)
   refine ⟨_, .uni _ t _ u hr h82 h69 hd g1, ?_, ?_, ?_, ?_⟩
   ·rw [V.out, ← g2]; simp [outW, V.outs, joinB, tag0]
   ·rw [deep_nd (by decide), V.deeps, V.deeps]; omega
   ·have e := out_uni (v := u) (n := tag0 t) (r := [])
    rw [List.append_nil] at e
    show (V.out (.nd 85 [] (tag0 t) [u])).length ≤ _
    rw [e]; simp only [List.length_cons, List.length_append, List.length_nil]; omega
   ·rw [V.size, if_neg (by unfold leafW; simp), V.sizes, V.sizes]; omega
theorem standK_val {ts : List Ty} (hw : SchW ts) {k : List UInt8} (hk : kindIn ts k = true) : ∃ u, OfK ts k u ∧ u.out = standK ts k ∧ u.deep ≤ 12 ∧ u.out.length ≤ 400 ∧ u.size ≤ 1 := by
 have hl := hw.len
 obtain ⟨u, h1, h2, h3, h4, h5⟩ := standN_val hw (ts.length + 1) hk (fun t ht => by
  have hm := refT_mem ht
  obtain ⟨i, hi, rfl⟩ := List.mem_iff_getElem.1 hm
  have := hw.valid.2 i hi
  rwa [nth_eq hi] at this)
 exact ⟨u, h1, h2, by omega, by omega, h5⟩
theorem standF_val {ts : List Ty} (hw : SchW ts) {t : Ty} (ht : t ∈ ts) (hs : t.sort ≠ 69) {d : Fld} (hd : d ∈ t.fields) : ∃ u, OfK ts d.kind u ∧ u.out = standF ts d ∧ u.deep ≤ 12 ∧ u.out.length ≤ 400 := by
 unfold standF
 by_cases h0 : d.stand = []
 ·rw [if_pos h0]
  obtain ⟨u, h1, h2, h3, h4, _⟩ := standK_val hw (kind_in hw ht hs hd)
  exact ⟨u, h1, h2, h3, h4⟩
 ·rw [if_neg h0]
  have h1 := (((hw.ty t ht).fld d hd).stand h0).2
  unfold standOk at h1
  split at h1
  ·rename_i hk
   rw [hk]
   simp only [Bool.and_eq_true] at h1
   obtain ⟨m, hm⟩ := Option.isSome_iff_exists.1 h1.1
   have h2 := numOf_le hm
   have h3 := numOf_nn hm
   refine ⟨_, .num [] m h3 h2.1, by rw [V.out]; exact h2.2.1.symm, by simp [V.deep, V.deeps], ?_⟩
   rw [V.out]
   show (decI m).length ≤ 400
   have := decI_6 h2.1; omega
  ·split at h1
   ·rename_i hk
    rw [hk]
    simp only [Bool.and_eq_true] at h1
    have hx := h1.1
    have hx2 := hx
    unfold isTx at hx
    rw [decide_eq_true_eq] at hx
    obtain ⟨⟨h2, h3⟩, h4, h5, _⟩ := hx
    obtain ⟨x, hxs⟩ : ∃ x, d.stand = 39 :: (x ++ [39]) := by
     cases hs : d.stand with
     | nil => exact absurd hs h0
     | cons c r =>
      rw [hs] at h4 h5 h2
      have hc : c = 39 := UInt8.toNat_inj.1 (by rw [bt_zero] at h4; exact h4)
      have hr : r ≠ [] := by rintro rfl; simp at h2
      refine ⟨r.dropLast, ?_⟩
      have hl : r.getLast hr = 39 := by
       refine UInt8.toNat_inj.1 ?_
       simp only [List.length_cons, Nat.add_sub_cancel] at h5
       obtain ⟨m, hm⟩ : ∃ m, r.length = m + 1 := ⟨r.length - 1, by have := List.length_pos_iff.2 hr; omega⟩
       rw [hm, bt_succ] at h5
       rw [List.getLast_eq_getElem]
       have : bt r m = (r[r.length - 1]'(by have := List.length_pos_iff.2 hr; omega)).toNat := by simp [bt, List.getD, hm]
       rw [← this, h5]; rfl
      rw [hc]; congr 1
      rw [← hl, List.dropLast_concat_getLast]
    rw [hxs] at hx2 h3 ⊢
    refine ⟨_, .txt [] x hx2, by rw [V.out]; rfl, by simp [V.deep, V.deeps], ?_⟩
    rw [V.out]
    show (39 :: (x ++ [39])).length ≤ 400
    omega
   ·split at h1
    ·rename_i hk
     rw [hk]
     rw [decide_eq_true_eq] at h1
     rw [h1]
     exact ⟨_, .flg [] _ (.inl rfl), by rw [V.out]; rfl, by simp [V.deep, V.deeps], by rw [V.out]; decide⟩
    ·cases h1
def stepsOf : List (List UInt8) → Option (List Int)
 | [] => some []
 | x :: xs => match numOf x 999999 with
  | none => none
  | some n => (stepsOf xs).map (n :: ·)
def pathOf (s : List UInt8) : Option (List Int) := if s = [] then some [] else match stepsOf (cut 47 s) with
 | some p => if p.length ≤ 8 then some p else none
 | none => none
theorem stepsOf_len : ∀ {xs : List (List UInt8)} {p : List Int}, stepsOf xs = some p → p.length = xs.length ∧ ∀ n ∈ p, 0 ≤ n ∧ n ≤ 999999
 | [], p, h => by simp only [stepsOf, Option.some.injEq] at h; subst h; simp
 | x :: xs, p, h => by
  unfold stepsOf at h
  cases hn : numOf x 999999 with
  | none => rw [hn] at h; cases h
  | some n =>
   rw [hn] at h
   dsimp only at h
   cases hs : stepsOf xs with
   | none => rw [hs] at h; cases h
   | some q =>
    rw [hs] at h
    simp only [Option.map_some, Option.some.injEq] at h
    subst h
    obtain ⟨h1, h2⟩ := stepsOf_len hs
    refine ⟨by simp [h1], fun m hm => ?_⟩
    rcases List.mem_cons.1 hm with rfl | hm
    ·exact ⟨numOf_nn hn, (numOf_le hn).1⟩
    ·exact h2 m hm
def standV (ts : List Ty) (f : Fld) : V := (valOf ts f.kind (standF ts f)).getD default
def toldV (f : Fld) : List V → Option V
 | [] => none
 | x :: r => if x.tag = f.tag then some (nth x.kids 0) else toldV f r
def getV (ts : List Ty) (v : V) (f : Fld) : V := (toldV f v.kids).getD (standV ts f)
def stepV (ts : List Ty) (k : List UInt8) (v : V) (n : Int) : Option (List UInt8 × V) := match k with
 | [] => none
 | c :: r => if c.toNat = 91 ∨ c.toNat = 63 then (if n < (v.kids.length : Nat) then some (r, nth v.kids n.toNat) else none)
  else match refT ts (c :: r) with
   | none => none
   | some t => match fldT t.fields n with
    | none => none
    | some f => if t.sort = 69 then none else if t.sort = 82 then some (f.kind, getV ts v f) else if v.tag = n then some (f.kind, nth v.kids 0) else none
def followV (ts : List Ty) : List UInt8 → V → List Int → Option (List UInt8 × V)
 | k, v, [] => some (k, v)
 | k, v, n :: p => match stepV ts k v n with
  | none => none
  | some (k', v') => followV ts k' v' p
theorem standV_ok {ts : List Ty} (hw : SchW ts) {t : Ty} (ht : t ∈ ts) (hs : t.sort ≠ 69) {d : Fld} (hd : d ∈ t.fields) : OfK ts d.kind (standV ts d) ∧ valOf ts d.kind (standF ts d) = some (standV ts d) ∧ (standV ts d).out = standF ts d := by
 obtain ⟨u, h1, h2, h3, h4⟩ := standF_val hw ht hs hd
 have h5 := valOf_in hw h1 h4 h3
 rw [h2] at h5
 have h6 : standV ts d = u := by unfold standV; rw [h5]; rfl
 rw [h6]
 exact ⟨h1, h5, h2⟩
theorem toldV_of {ts : List Ty} {t : Ty} (hw : TyW t) {f : Fld} (hf : f ∈ t.fields) : ∀ {fs : List (Fld × V)} {u : V}, (∀ p ∈ fs, p.1 ∈ t.fields ∧ OfK ts p.1.kind p.2) → toldV f (fs.map fldV) = some u → OfK ts f.kind u ∧ ∃ p ∈ fs, p.1 = f ∧ p.2 = u
 | [], u, _, h => by simp [toldV] at h
 | p :: fs, u, hp, h => by
  simp only [List.map_cons, toldV] at h
  split at h
  ·rename_i he
   simp only [Option.some.injEq] at h
   have h1 : p.2 = u := h
   have h2 := fld_tag hw (hp p (by simp)).1 hf he
   subst h1
   exact ⟨by rw [← h2]; exact (hp p (by simp)).2, p, by simp, h2, rfl⟩
  ·obtain ⟨h1, q, h2, h3⟩ := toldV_of hw hf (fun q hq => hp q (by simp [hq])) h
   exact ⟨h1, q, by simp [h2], h3⟩
theorem getV_ok {ts : List Ty} (hw : SchW ts) {t : Ty} (ht : t ∈ ts) (hs : t.sort = 82) {f : Fld} (hf : f ∈ t.fields) {fs : List (Fld × V)} (hp : ∀ p ∈ fs, p.1 ∈ t.fields ∧ OfK ts p.1.kind p.2) : OfK ts f.kind (getV ts (.nd 82 [] 0 (fs.map fldV)) f) := by
 unfold getV
 cases h : toldV f (V.kids (.nd 82 [] 0 (fs.map fldV))) with
 | none => exact (standV_ok hw ht (by omega) hf).1
 | some u => exact (toldV_of (hw.ty t ht) hf hp h).1
theorem stepV_ok {ts : List Ty} (hw : SchW ts) {k : List UInt8} {v : V} (h : OfK ts k v) (hk : kindIn ts k = true) {n : Int} (hn : 0 ≤ n) {k' : List UInt8} {v' : V} (e : stepV ts k v n = some (k', v')) : OfK ts k' v' ∧ kindIn ts k' = true := by
 obtain ⟨c, r, rfl⟩ := kind_ne hk
 unfold stepV at e
 dsimp only at e
 split at e
 ·rename_i hc
  split at e
  ·rename_i hlt
   simp only [Option.some.injEq, Prod.mk.injEq] at e
   obtain ⟨rfl, rfl⟩ := e
   refine ⟨?_, kindIn_tail hc hk⟩
   rcases ofK_inv_c h (by omega) with ⟨h1, _⟩ | ⟨h1, _⟩ | ⟨h1, _⟩ | ⟨h1, ks, _, h3, rfl⟩ | ⟨h1, rfl | ⟨u, h3, rfl⟩⟩
   ·omega
   ·omega
   ·omega
   ·rw [V.kids] at hlt ⊢
    have : n.toNat < ks.length := by omega
    rw [nth_eq this]; exact h3 _ (List.getElem_mem this)
   ·simp [V.kids] at hlt; omega
   ·simp [V.kids] at hlt
    have : n.toNat = 0 := by omega
    rw [this]; exact h3
  ·cases e
 ·split at e
  ·cases e
  ·rename_i t hr
   have ht := refT_mem hr
   split at e
   ·cases e
   ·rename_i f hf
    have hfm := List.mem_of_find?_eq_some hf
    split at e
    ·cases e
    ·rename_i h69
     have hki := kind_in hw ht h69 hfm
     split at e
     ·rename_i h82
      simp only [Option.some.injEq, Prod.mk.injEq] at e
      obtain ⟨rfl, rfl⟩ := e
      rcases ofK_inv_t h hr with ⟨_, fs, rfl, g3, g4, _, _⟩ | ⟨h1, _⟩ | ⟨h1, _⟩
      ·exact ⟨getV_ok hw ht h82 hfm fun p hp => ⟨g3 p hp, g4 p hp⟩, hki⟩
      ·omega
      ·omega
     ·rename_i h82
      split at e
      ·rename_i htg
       simp only [Option.some.injEq, Prod.mk.injEq] at e
       obtain ⟨rfl, rfl⟩ := e
       rcases ofK_inv_t h hr with ⟨h1, _⟩ | ⟨h1, _⟩ | ⟨_, _, d, u, rfl, g4, g5⟩
       ·omega
       ·omega
       ·have h7 : f.tag = n := by have := List.find?_some hf; simpa using this
        have h8 := fld_tag (hw.ty t ht) g4 hfm (by rw [h7]; exact htg)
        rw [V.kids]
        exact ⟨by rw [← h8]; exact g5, hki⟩
      ·cases e
theorem followV_ok {ts : List Ty} (hw : SchW ts) : ∀ {p : List Int} {k : List UInt8} {v : V} {k' : List UInt8} {v' : V}, OfK ts k v → kindIn ts k = true → (∀ n ∈ p, 0 ≤ n) → followV ts k v p = some (k', v') → OfK ts k' v' ∧ kindIn ts k' = true
 | [], k, v, k', v', h, hk, _, e => by
  simp only [followV, Option.some.injEq, Prod.mk.injEq] at e
  obtain ⟨rfl, rfl⟩ := e
  exact ⟨h, hk⟩
 | n :: p, k, v, k', v', h, hk, hp, e => by
  unfold followV at e
  cases hs : stepV ts k v n with
  | none => rw [hs] at e; cases e
  | some x =>
   rw [hs] at e
   obtain ⟨k1, v1⟩ := x
   obtain ⟨h1, h2⟩ := stepV_ok hw h hk (hp n (by simp)) hs
   exact followV_ok hw h1 h2 (fun m hm => hp m (by simp [hm])) e
def putF (ts : List Ty) (f : Fld) (x : V) : List V → List V
 | [] => if x.out = standF ts f then [] else [.nd 61 [] f.tag [x]]
 | y :: r => if y.tag < f.tag then y :: putF ts f x r
  else (if x.out = standF ts f then [] else [.nd 61 [] f.tag [x]]) ++ (if y.tag = f.tag then r else y :: r)
def changeV (ts : List Ty) : List UInt8 → V → List Int → V → V
 | _, _, [], x => x
 | k, v, n :: p, x => match stepV ts k v n with
  | none => v
  | some (k', v') => if v.what = 82 then (match refT ts k with
    | some t => (match fldT t.fields n with
     | some f => .nd 82 [] 0 (putF ts f (changeV ts k' v' p x) v.kids)
     | none => v)
    | none => v)
   else .nd v.what [] v.tag (if v.what = 91 then v.kids.set n.toNat (changeV ts k' v' p x) else [changeV ts k' v' p x])
theorem putF_ok {ts : List Ty} {t : Ty} (hw : TyW t) {f : Fld} (hf : f ∈ t.fields) {x : V} (hx : OfK ts f.kind x) : ∀ {fs : List (Fld × V)}, (∀ p ∈ fs, p.1 ∈ t.fields ∧ OfK ts p.1.kind p.2 ∧ p.2.out ≠ standF ts p.1) → fs.Pairwise (fun a b => a.1.tag < b.1.tag) →
  ∃ gs : List (Fld × V), putF ts f x (fs.map fldV) = gs.map fldV ∧ (∀ p ∈ gs, (p.1 ∈ t.fields ∧ OfK ts p.1.kind p.2 ∧ p.2.out ≠ standF ts p.1) ∧ (p ∈ fs ∨ p.1 = f)) ∧ gs.Pairwise (fun a b => a.1.tag < b.1.tag)
 | [], _, _ => by
  simp only [List.map_nil, putF]
  split
  ·exact ⟨[], rfl, by simp, by simp⟩
  ·rename_i hne
   exact ⟨[(f, x)], rfl, fun p hp => by simp only [List.mem_singleton] at hp; subst hp; exact ⟨⟨hf, hx, hne⟩, .inr rfl⟩, by simp⟩
 | q :: fs, hp, hpw => by
  rw [List.pairwise_cons] at hpw
  simp only [List.map_cons, putF]
  show ∃ gs : List (Fld × V), (if q.1.tag < f.tag then fldV q :: putF ts f x (fs.map fldV) else (if x.out = standF ts f then [] else [.nd 61 [] f.tag [x]]) ++ (if q.1.tag = f.tag then fs.map fldV else fldV q :: fs.map fldV)) = gs.map fldV ∧ _
  by_cases hlt : q.1.tag < f.tag
  ·rw [if_pos hlt]
   obtain ⟨gs, e1, e2, e3⟩ := putF_ok hw hf hx (fun p h => hp p (by simp [h])) hpw.2
   refine ⟨q :: gs, by rw [e1]; rfl, fun p h => ?_, ?_⟩
   ·rcases List.mem_cons.1 h with rfl | h
    ·exact ⟨hp _ (by simp), .inl (by simp)⟩
    ·exact ⟨(e2 p h).1, (e2 p h).2.imp (fun h => by simp [h]) id⟩
   ·rw [List.pairwise_cons]
    refine ⟨fun p h => ?_, e3⟩
    rcases (e2 p h).2 with h1 | h1
    ·exact hpw.1 p h1
    ·rw [h1]; exact hlt
  ·rw [if_neg hlt]
   have hB : ∃ gs : List (Fld × V), (if q.1.tag = f.tag then fs.map fldV else fldV q :: fs.map fldV) = gs.map fldV ∧ (∀ p ∈ gs, (p.1 ∈ t.fields ∧ OfK ts p.1.kind p.2 ∧ p.2.out ≠ standF ts p.1) ∧ p ∈ q :: fs ∧ f.tag < p.1.tag) ∧ gs.Pairwise (fun a b => a.1.tag < b.1.tag) := by
    split
    ·rename_i he
     exact ⟨fs, rfl, fun p h => ⟨hp p (by simp [h]), by simp [h], by have := hpw.1 p h; omega⟩, hpw.2⟩
    ·rename_i he
     refine ⟨q :: fs, rfl, fun p h => ⟨hp p h, h, ?_⟩, by rw [List.pairwise_cons]; exact hpw⟩
     rcases List.mem_cons.1 h with rfl | h
     ·omega
     ·have := hpw.1 p h; omega
   obtain ⟨gs, e1, e2, e3⟩ := hB
   rw [e1]
   split
   ·exact ⟨gs, rfl, fun p h => ⟨(e2 p h).1, .inl (e2 p h).2.1⟩, e3⟩
   ·rename_i hne
    refine ⟨(f, x) :: gs, rfl, fun p h => ?_, ?_⟩
    ·rcases List.mem_cons.1 h with rfl | h
     ·exact ⟨⟨hf, hx, hne⟩, .inr rfl⟩
     ·exact ⟨(e2 p h).1, .inl (e2 p h).2.1⟩
    ·rw [List.pairwise_cons]
     exact ⟨fun p h => (e2 p h).2.2, e3⟩
theorem changeV_ok {ts : List Ty} (hw : SchW ts) : ∀ {p : List Int} {k : List UInt8} {v x : V} {k' : List UInt8} {v' : V}, OfK ts k v → kindIn ts k = true → (∀ n ∈ p, 0 ≤ n) → followV ts k v p = some (k', v') → OfK ts k' x → OfK ts k (changeV ts k v p x)
 | [], k, v, x, k', v', h, hk, _, e, hx => by
  simp only [followV, Option.some.injEq, Prod.mk.injEq] at e
  obtain ⟨rfl, rfl⟩ := e
  exact hx
 | n :: p, k, v, x, k', v', h, hk, hp, e, hx => by
  unfold followV at e
  cases hs : stepV ts k v n with
  | none => rw [hs] at e; cases e
  | some y =>
   rw [hs] at e
   obtain ⟨k1, v1⟩ := y
   obtain ⟨h1, h2⟩ := stepV_ok hw h hk (hp n (by simp)) hs
   have ih := changeV_ok hw h1 h2 (fun m hm => hp m (by simp [hm])) e hx
   have hn := hp n (by simp)
   unfold changeV
   rw [hs]
   dsimp only
   obtain ⟨c, r, rfl⟩ := kind_ne hk
   unfold stepV at hs
   dsimp only at hs
   split at hs
   ·rename_i hc
    split at hs
    ·rename_i hlt
     simp only [Option.some.injEq, Prod.mk.injEq] at hs
     obtain ⟨rfl, rfl⟩ := hs
     rcases ofK_inv_c h (by omega) with ⟨g1, _⟩ | ⟨g1, _⟩ | ⟨g1, _⟩ | ⟨g1, ks, g2, g3, rfl⟩ | ⟨g1, rfl | ⟨u, g3, rfl⟩⟩
     ·omega
     ·omega
     ·omega
     ·rw [V.what, if_neg (by decide), if_pos rfl]
      obtain rfl := u8_eq g1 (by decide)
      refine .lst _ _ (by rw [List.length_set]; exact g2) fun u hu => ?_
      rcases List.mem_or_eq_of_mem_set hu with hu | rfl
      ·exact g3 u hu
      ·exact ih
     ·simp [V.kids] at hlt; omega
     ·rw [V.what, if_neg (by decide), if_neg (by decide)]
      obtain rfl := u8_eq g1 (by decide)
      exact .opt _ _ ih
    ·cases hs
   ·split at hs
    ·cases hs
    ·rename_i t hr
     have ht := refT_mem hr
     split at hs
     ·cases hs
     ·rename_i f hf
      have hfm := List.mem_of_find?_eq_some hf
      split at hs
      ·cases hs
      ·rename_i h69
       split at hs
       ·rename_i h82
        simp only [Option.some.injEq, Prod.mk.injEq] at hs
        obtain ⟨rfl, rfl⟩ := hs
        rcases ofK_inv_t h hr with ⟨_, fs, rfl, g3, g4, g5, g6⟩ | ⟨g1, _⟩ | ⟨g1, _⟩
        ·rw [V.what, if_pos rfl, hr]
         dsimp only
         rw [hf]
         dsimp only
         rw [V.kids]
         obtain ⟨gs, e1, e2, e3⟩ := putF_ok (hw.ty t ht) hfm ih (fun p hp => ⟨g3 p hp, g4 p hp, g5 p hp⟩) g6
         rw [e1]
         exact .recd _ t gs hr h82 (fun p hp => (e2 p hp).1.1) (fun p hp => (e2 p hp).1.2.1) (fun p hp => (e2 p hp).1.2.2) e3
        ·omega
        ·omega
       ·rename_i h82
        split at hs
        ·rename_i htg
         simp only [Option.some.injEq, Prod.mk.injEq] at hs
         obtain ⟨rfl, rfl⟩ := hs
         rcases ofK_inv_t h hr with ⟨g1, _⟩ | ⟨g1, _⟩ | ⟨_, _, d, u, rfl, g4, g5⟩
         ·omega
         ·omega
         ·have h7 : f.tag = n := by have := List.find?_some hf; simpa using this
          have h8 := fld_tag (hw.ty t ht) g4 hfm (by rw [h7]; exact htg)
          rw [V.what, if_neg (by decide), if_neg (by decide)]
          exact .uni _ t d _ hr h82 h69 g4 (by rw [h8]; exact ih)
        ·cases hs
theorem out_inj {ts : List Ty} (hw : SchW ts) {k : List UInt8} {u v : V} (hu : OfK ts k u) (hv : OfK ts k v) (h : u.out = v.out) : u = v := by
 have h1 := rd_in hw (max u.deep v.deep) hu (Nat.le_max_left _ _) [] dl_nil
 have h2 := rd_in hw (max u.deep v.deep) hv (Nat.le_max_right _ _) [] dl_nil
 rw [h, h2] at h1
 simp only [Option.some.injEq, Prod.mk.injEq, and_true] at h1
 exact h1.symm
theorem tag_nd {w : Nat} {x : List UInt8} {t : Int} {ks : List V} : V.tag (.nd w x t ks) = t := rfl
def nf (ts : List Ty) (f : Fld) (x : V) : List V := if x.out = standF ts f then [] else [.nd 61 [] f.tag [x]]
theorem putF_nil {ts : List Ty} {f : Fld} {x : V} : putF ts f x [] = nf ts f x := rfl
theorem putF_cons {ts : List Ty} {f : Fld} {x y : V} {r : List V} : putF ts f x (y :: r) = if y.tag < f.tag then y :: putF ts f x r else nf ts f x ++ (if y.tag = f.tag then r else y :: r) := rfl
theorem putF_gt {ts : List Ty} {f : Fld} {x : V} : ∀ {vs : List V}, (∀ v ∈ vs, f.tag < v.tag) → putF ts f x vs = nf ts f x ++ vs
 | [], _ => by rw [putF_nil, List.append_nil]
 | v :: vs, h => by
  have := h v (by simp)
  rw [putF_cons, if_neg (by omega), if_neg (by omega)]
theorem toldV_gt {f : Fld} : ∀ {vs : List V}, (∀ v ∈ vs, f.tag < v.tag) → toldV f vs = none
 | [], _ => rfl
 | v :: vs, h => by
  have := h v (by simp)
  rw [toldV, if_neg (by omega)]
  exact toldV_gt fun u hu => h u (by simp [hu])
theorem toldV_nf {ts : List Ty} {f : Fld} {x : V} {vs : List V} (h : ∀ v ∈ vs, f.tag < v.tag) : toldV f (nf ts f x ++ vs) = if x.out = standF ts f then none else some x := by
 unfold nf
 split
 ·exact toldV_gt h
 ·rw [List.singleton_append, toldV, tag_nd, if_pos rfl]; rfl
abbrev Srt (vs : List V) : Prop := vs.Pairwise fun a b => a.tag < b.tag
theorem toldV_put {ts : List Ty} {f : Fld} {x : V} : ∀ {vs : List V}, Srt vs → toldV f (putF ts f x vs) = if x.out = standF ts f then none else some x
 | [], _ => by
  rw [putF_nil]
  have := toldV_nf (ts := ts) (f := f) (x := x) (vs := []) (by simp)
  rwa [List.append_nil] at this
 | v :: vs, h => by
  replace h := List.pairwise_cons.1 h
  rw [putF_cons]
  split
  ·rw [toldV, if_neg (by omega)]
   exact toldV_put h.2
  ·refine toldV_nf fun u hu => ?_
   split at hu
   ·have := h.1 u hu; omega
   ·rcases List.mem_cons.1 hu with rfl | hu
    ·omega
    ·have := h.1 u hu; omega
theorem putF_put {ts : List Ty} {f : Fld} {x y : V} : ∀ {vs : List V}, Srt vs → putF ts f y (putF ts f x vs) = putF ts f y vs
 | [], _ => by
  rw [putF_nil, putF_nil]
  unfold nf
  split
  ·exact putF_nil
  ·rw [putF_cons, tag_nd, if_neg (by omega), if_pos rfl, List.append_nil]; rfl
 | v :: vs, h => by
  replace h := List.pairwise_cons.1 h
  rw [putF_cons, putF_cons (x := y)]
  split
  ·rename_i hl
   rw [putF_cons, if_pos hl, putF_put h.2]
  ·rename_i hl
   have hB : ∀ u ∈ (if v.tag = f.tag then vs else v :: vs), f.tag < u.tag := fun u hu => by
    split at hu
    ·have := h.1 u hu; omega
    ·rcases List.mem_cons.1 hu with rfl | hu
     ·omega
     ·have := h.1 u hu; omega
   generalize (if v.tag = f.tag then vs else v :: vs) = ws at hB
   rw [show nf ts f x = if x.out = standF ts f then [] else [.nd 61 [] f.tag [x]] from rfl]
   split
   ·exact putF_gt hB
   ·rw [List.singleton_append, putF_cons, tag_nd, if_neg (by omega), if_pos rfl]
theorem putF_self {ts : List Ty} {t : Ty} (hw : TyW t) {f : Fld} (hf : f ∈ t.fields) {z : V} (hz : z.out = standF ts f) : ∀ {fs : List (Fld × V)}, (∀ p ∈ fs, p.1 ∈ t.fields ∧ p.2.out ≠ standF ts p.1) → Srt (fs.map fldV) → putF ts f ((toldV f (fs.map fldV)).getD z) (fs.map fldV) = fs.map fldV
 | [], _, _ => by
  rw [List.map_nil, putF_nil]
  show nf ts f z = []
  unfold nf; rw [if_pos hz]
 | q :: fs, hp, h => by
  replace h := List.pairwise_cons.1 h
  have hq := hp q (by simp)
  rw [List.map_cons, putF_cons, toldV]
  by_cases hl : (fldV q).tag < f.tag
  ·rw [if_pos hl, if_neg (by omega), putF_self hw hf hz (fun p hp' => hp p (by simp [hp'])) h.2]
  ·rw [if_neg hl]
   by_cases he : (fldV q).tag = f.tag
   ·rw [if_pos he, if_pos he]
    have h1 : q.1 = f := fld_tag hw hq.1 hf he
    have h2 : ((some (nth (fldV q).kids 0)).getD z) = q.2 := rfl
    rw [h2]
    unfold nf
    rw [if_neg (by rw [← h1]; exact hq.2), List.singleton_append, ← h1]
   ·rw [if_neg he, if_neg he, toldV_gt fun v hv => by have := h.1 v hv; omega]
    show nf ts f z ++ _ = _
    unfold nf; rw [if_pos hz, List.nil_append]
theorem toldV_ne {ts : List Ty} {f g : Fld} (hg : g.tag ≠ f.tag) {x : V} : ∀ {vs : List V}, toldV g (putF ts f x vs) = toldV g vs
 | [] => by
  rw [putF_nil]; unfold nf
  split
  ·rfl
  ·show (if V.tag (.nd 61 [] f.tag [x]) = g.tag then some (nth (V.kids (.nd 61 [] f.tag [x])) 0) else none) = none
   rw [tag_nd, if_neg (by omega)]
 | v :: vs => by
  rw [putF_cons]
  split
  ·rw [toldV, toldV, toldV_ne hg]
  ·have h1 : ∀ ws : List V, toldV g (nf ts f x ++ ws) = toldV g ws := fun ws => by
    unfold nf
    split
    ·rfl
    ·rw [List.singleton_append, toldV, tag_nd, if_neg (by omega)]
   rw [h1]
   split
   ·rename_i he
    rw [toldV, if_neg (by omega)]
   ·rfl
def setV (ts : List Ty) (k : List UInt8) (v : V) (n : Int) (y : V) : V := if v.what = 82 then (match refT ts k with
  | some t => (match fldT t.fields n with
   | some f => .nd 82 [] 0 (putF ts f y v.kids)
   | none => v)
  | none => v)
 else .nd v.what [] v.tag (if v.what = 91 then v.kids.set n.toNat y else [y])
theorem changeV_cons {ts : List Ty} {k k1 : List UInt8} {v v1 x : V} {n : Int} {p : List Int} (h : stepV ts k v n = some (k1, v1)) : changeV ts k v (n :: p) x = setV ts k v n (changeV ts k1 v1 p x) := by
 rw [changeV, h]; rfl
theorem followV_cons {ts : List Ty} {k k1 : List UInt8} {v v1 : V} {n : Int} {p : List Int} (h : stepV ts k v n = some (k1, v1)) : followV ts k v (n :: p) = followV ts k1 v1 p := by
 rw [followV, h]
theorem srt_fs {fs : List (Fld × V)} (h : fs.Pairwise fun a b => a.1.tag < b.1.tag) : Srt (fs.map fldV) := List.pairwise_map.2 h
theorem set_step {ts : List Ty} (hw : SchW ts) {k : List UInt8} {v : V} (h : OfK ts k v) (hk : kindIn ts k = true) {n : Int} (hn : 0 ≤ n) {k1 : List UInt8} {v1 : V} (hs : stepV ts k v n = some (k1, v1)) {y : V} (hy : OfK ts k1 y) :
  (stepV ts k (setV ts k v n y) n = some (k1, y) ∧ setV ts k v n v1 = v) ∧ (∀ z, setV ts k (setV ts k v n y) n z = setV ts k v n z) ∧ ∀ m, 0 ≤ m → m ≠ n → stepV ts k (setV ts k v n y) m = stepV ts k v m := by
 obtain ⟨c, r, rfl⟩ := kind_ne hk
 have hs0 := hs
 unfold stepV at hs
 dsimp only at hs
 split at hs
 ·rename_i hc
  split at hs
  ·rename_i hlt
   simp only [Option.some.injEq, Prod.mk.injEq] at hs
   obtain ⟨rfl, rfl⟩ := hs
   rcases ofK_inv_c h (by omega) with ⟨g1, _⟩ | ⟨g1, _⟩ | ⟨g1, _⟩ | ⟨g1, ks, g2, g3, rfl⟩ | ⟨g1, rfl | ⟨u, g3, rfl⟩⟩
   ·omega
   ·omega
   ·omega
   ·rw [V.kids] at hlt ⊢
    have hi : n.toNat < ks.length := by omega
    have e : ∀ z, setV ts (c :: r) (.nd 91 [] 0 ks) n z = .nd 91 [] 0 (ks.set n.toNat z) := fun z => by
     unfold setV; rw [V.what, if_neg (by decide), if_pos rfl]; rfl
    refine ⟨⟨?_, ?_⟩, fun z => ?_, fun m hm hne => ?_⟩
    ·rw [e]
     unfold stepV
     dsimp only
     rw [if_pos hc, V.kids, if_pos (by rw [List.length_set]; exact hlt), nth_eq (by rw [List.length_set]; exact hi), List.getElem_set_self]
    ·rw [e, nth_eq hi, List.set_getElem_self]
    ·rw [e, e]
     unfold setV; rw [V.what, if_neg (by decide), if_pos rfl, V.kids, List.set_set]; rfl
    ·rw [e]
     unfold stepV
     dsimp only
     rw [if_pos hc, if_pos hc, V.kids, V.kids, List.length_set]
     split
     ·rename_i hm2
      rw [nth_eq (by rw [List.length_set]; omega), nth_eq (by omega), List.getElem_set_ne (by omega)]
     ·rfl
   ·simp [V.kids] at hlt; omega
   ·simp [V.kids] at hlt
    obtain rfl : n = 0 := by omega
    have e : ∀ w z, setV ts (c :: r) (.nd 63 [] 0 [w]) 0 z = .nd 63 [] 0 [z] := fun w z => by
     unfold setV; rw [V.what, if_neg (by decide), if_neg (by decide)]; rfl
    refine ⟨⟨?_, ?_⟩, fun z => ?_, fun m hm hne => ?_⟩
    ·rw [e]
     unfold stepV
     dsimp only
     rw [if_pos hc, V.kids, if_pos (by simp)]; rfl
    ·rw [e]; rfl
    ·rw [e, e, e]
    ·rw [e]
     unfold stepV
     dsimp only
     rw [if_pos hc, if_pos hc, V.kids, V.kids, if_neg (by simp; omega), if_neg (by simp; omega)]
  ·cases hs
 ·rename_i hc
  split at hs
  ·cases hs
  ·rename_i t hr
   have ht := refT_mem hr
   split at hs
   ·cases hs
   ·rename_i f hf
    have hfm := List.mem_of_find?_eq_some hf
    have hft : f.tag = n := by have := List.find?_some hf; simpa using this
    split at hs
    ·cases hs
    ·rename_i h69
     split at hs
     ·rename_i h82
      simp only [Option.some.injEq, Prod.mk.injEq] at hs
      obtain ⟨rfl, rfl⟩ := hs
      rcases ofK_inv_t h hr with ⟨_, fs, rfl, g3, g4, g5, g6⟩ | ⟨g1, _⟩ | ⟨g1, _⟩
      ·have e : ∀ vs z, setV ts (c :: r) (.nd 82 [] 0 vs) n z = .nd 82 [] 0 (putF ts f z vs) := fun vs z => by
        unfold setV; rw [V.what, if_pos rfl, hr]
        dsimp only
        rw [hf]; rfl
       have hst := standV_ok hw ht (by omega) hfm
       have hsrt := srt_fs g6
       refine ⟨⟨?_, ?_⟩, fun z => ?_, fun m hm hne => ?_⟩
       ·rw [e]
        unfold stepV
        dsimp only
        rw [if_neg hc, hr]
        dsimp only
        rw [hf]
        dsimp only
        rw [if_neg h69, if_pos h82]
        unfold getV
        rw [V.kids, toldV_put hsrt]
        split
        ·rename_i hso
         show some (f.kind, standV ts f) = _
         rw [out_inj hw hst.1 hy (by rw [hst.2.2, hso])]
        ·rfl
       ·rw [e]
        unfold getV
        rw [V.kids, putF_self (hw.ty t ht) hfm hst.2.2 (fun p hp => ⟨g3 p hp, g5 p hp⟩) hsrt]
       ·rw [e, e, e, putF_put hsrt]
       ·rw [e]
        unfold stepV
        dsimp only
        rw [if_neg hc, if_neg hc, hr]
        dsimp only
        cases hg : fldT t.fields m with
        | none => rfl
        | some g =>
         have hgt : g.tag = m := by have := List.find?_some hg; simpa using this
         dsimp only
         rw [if_neg h69, if_neg h69, if_pos h82, if_pos h82]
         unfold getV
         rw [V.kids, V.kids, toldV_ne (by omega)]
      ·omega
      ·omega
     ·rename_i h82
      split at hs
      ·rename_i htg
       simp only [Option.some.injEq, Prod.mk.injEq] at hs
       obtain ⟨rfl, rfl⟩ := hs
       rcases ofK_inv_t h hr with ⟨g1, _⟩ | ⟨g1, _⟩ | ⟨_, _, d, u, rfl, g4, g5⟩
       ·omega
       ·omega
       ·have e : ∀ w z, setV ts (c :: r) (.nd 85 [] d.tag [w]) n z = .nd 85 [] d.tag [z] := fun w z => by
         unfold setV; rw [V.what, if_neg (by decide), if_neg (by decide)]; rfl
        have htg2 : d.tag = n := htg
        refine ⟨⟨?_, ?_⟩, fun z => ?_, fun m hm hne => ?_⟩
        ·rw [e]
         unfold stepV
         dsimp only
         rw [if_neg hc, hr]
         dsimp only
         rw [hf]
         dsimp only
         rw [if_neg h69, if_neg h82, V.tag, if_pos htg2]; rfl
        ·rw [e]; rfl
        ·rw [e, e, e]
        ·rw [e]
         unfold stepV
         dsimp only
         rw [if_neg hc, if_neg hc, hr]
         dsimp only
         cases hg : fldT t.fields m with
         | none => rfl
         | some g =>
          dsimp only
          rw [if_neg h69, if_neg h69, if_neg h82, if_neg h82, V.tag, V.tag, if_neg (by omega), if_neg (by omega)]
      ·cases hs
def putB {α : Type} (tg : α → Int) (node : α) (tag : Int) : List α → Bool → List α
 | [], d => if d = true then [] else [node]
 | y :: r, d => (if tag < tg y ∧ d = false then [node] else []) ++ ((if tg y = tag then [] else [y]) ++ putB tg node tag r (d || decide (tag < tg y)))
theorem putB_map {α β : Type} {tg : α → Int} {tg' : β → Int} {h : α → β} (ht : ∀ a, tg' (h a) = tg a) {node : α} {tag : Int} : ∀ {l : List α} {d : Bool}, (putB tg node tag l d).map h = putB tg' (h node) tag (l.map h) d
 | [], d => by rw [putB, List.map_nil, putB]; split <;> rfl
 | y :: r, d => by
  rw [List.map_cons, putB, putB, List.map_append, List.map_append, putB_map ht, ht]
  congr 1
  ·split <;> rfl
  ·congr 1
   split <;> rfl
theorem putB_done {α : Type} {tg : α → Int} {node : α} {tag : Int} : ∀ {l : List α}, (∀ y ∈ l, tag < tg y) → putB tg node tag l true = l
 | [], _ => by simp [putB]
 | y :: r, h => by
  have h1 := h y (by simp)
  rw [putB, Bool.true_or, putB_done fun z hz => h z (by simp [hz]), if_neg (by simp), if_neg (by omega)]; rfl
theorem putB_lo {α : Type} {tg : α → Int} {node : α} {tag : Int} : ∀ {l : List α}, (∀ y ∈ l, tag < tg y) → putB tg node tag l false = node :: l
 | [], _ => by simp [putB]
 | y :: r, h => by
  have h1 := h y (by simp)
  rw [putB, Bool.false_or, decide_eq_true h1, putB_done fun z hz => h z (by simp [hz]), if_pos ⟨h1, rfl⟩, if_neg (by omega)]; rfl
theorem putB_eq {ts : List Ty} {f : Fld} {x : V} : ∀ {vs : List V}, Srt vs → putB V.tag (.nd 61 [] f.tag [x]) f.tag vs (decide (x.out = standF ts f)) = putF ts f x vs
 | [], _ => by
  rw [putF_nil, putB]; unfold nf
  by_cases e : x.out = standF ts f
  ·rw [if_pos e, if_pos (by simp [e])]
  ·rw [if_neg e, if_neg (by simp [e])]
 | y :: r, h => by
  replace h := List.pairwise_cons.1 h
  rw [putF_cons]
  by_cases hl : y.tag < f.tag
  ·rw [if_pos hl, putB, if_neg (by intro h; omega), if_neg (by omega), show decide (f.tag < y.tag) = false from decide_eq_false (by omega), Bool.or_false, putB_eq h.2]; rfl
  ·rw [if_neg hl]
   have hgt : ∀ z ∈ r, f.tag < z.tag := fun z hz => by have := h.1 z hz; omega
   by_cases e : x.out = standF ts f
   ·unfold nf; rw [decide_eq_true e, if_pos e, List.nil_append, putB, Bool.true_or, putB_done hgt, if_neg (by simp), List.nil_append]
    split <;> rfl
   ·unfold nf; rw [decide_eq_false e, if_neg e, putB, Bool.false_or]
    by_cases he : y.tag = f.tag
    ·rw [if_neg (by intro h; omega), if_pos he, show decide (f.tag < y.tag) = false from decide_eq_false (by omega), putB_lo hgt, if_pos he]; rfl
    ·rw [if_pos ⟨by omega, rfl⟩, if_neg he, show decide (f.tag < y.tag) = true from decide_eq_true (by omega), putB_done hgt, if_neg he]; rfl
end Go.E
namespace Go.E
set_option maxRecDepth 20000
set_option maxHeartbeats 2000000
theorem out_list' {ks : List V} : (V.nd 91 [] 0 ks).out = 91 :: (joinB 44 (ks.map V.out) ++ [93]) := by rw [V.out, V.outs_map]; rfl
theorem out_rec' {ks : List V} : (V.nd 82 [] 0 ks).out = 123 :: (joinB 44 (ks.map V.out) ++ [125]) := by rw [V.out, V.outs_map]; rfl
theorem joinB_mem {xs : List (List UInt8)} {x : List UInt8} (h : x ∈ xs) : x.length ≤ (joinB 44 xs).length := by
 induction xs with
 | nil => cases h
 | cons y xs ih =>
  cases xs with
  | nil =>
   simp only [List.mem_singleton] at h; subst h; simp [joinB]
  | cons z xs =>
   rw [joinB, List.length_append, List.length_cons]
   rcases List.mem_cons.1 h with rfl | h
   ·omega
   ·have := ih h; omega
end Go.E
namespace Go.E
set_option maxRecDepth 20000
set_option maxHeartbeats 2000000
open Go.Proofs
variable {ts : List Ty}
theorem stepV_fits (hw : SchW ts) {k : List UInt8} {v : V} (h : OfK ts k v) (hk : kindIn ts k = true) {n : Int} (hn : 0 ≤ n) {k' : List UInt8} {v' : V} (e : stepV ts k v n = some (k', v')) (hd : v.deep ≤ 12) (hl : v.out.length ≤ 400) : v'.deep ≤ 12 ∧ v'.out.length ≤ 400 := by
 obtain ⟨c, r, rfl⟩ := kind_ne hk
 unfold stepV at e
 dsimp only at e
 split at e
 ·rename_i hc
  split at e
  ·rename_i hlt
   simp only [Option.some.injEq, Prod.mk.injEq] at e
   obtain ⟨rfl, rfl⟩ := e
   rcases ofK_inv_c h (by omega) with ⟨g1, _⟩ | ⟨g1, _⟩ | ⟨g1, _⟩ | ⟨g1, ks, g2, g3, rfl⟩ | ⟨g1, rfl | ⟨u, g3, rfl⟩⟩
   ·omega
   ·omega
   ·omega
   ·rw [V.kids] at hlt ⊢
    have hi : n.toNat < ks.length := by omega
    rw [deep_nd (by decide)] at hd
    rw [out_list'] at hl
    have h1 := V.deep_mem (nth_mem hi)
    have h2 := joinB_mem (xs := ks.map V.out) (List.mem_map_of_mem (f := V.out) (nth_mem hi))
    simp only [List.length_cons, List.length_append, List.length_nil] at hl
    exact ⟨by omega, by omega⟩
   ·simp [V.kids] at hlt; omega
   ·simp [V.kids] at hlt
    obtain rfl : n = 0 := by omega
    rw [deep_nd (by decide)] at hd
    have e1 : V.out (.nd 63 [] 0 [u]) = 43 :: u.out := by rw [V.out]; simp [V.outs, joinB, outW]
    rw [e1, List.length_cons] at hl
    have h1 := V.deep_mem (ks := [u]) (v := u) (by simp)
    exact ⟨by show u.deep ≤ 12; omega, by show u.out.length ≤ 400; omega⟩
  ·cases e
 ·split at e
  ·cases e
  ·rename_i t hr
   have ht := refT_mem hr
   split at e
   ·cases e
   ·rename_i f hf
    have hfm := List.mem_of_find?_eq_some hf
    split at e
    ·cases e
    ·rename_i h69
     split at e
     ·rename_i h82
      simp only [Option.some.injEq, Prod.mk.injEq] at e
      obtain ⟨rfl, rfl⟩ := e
      rcases ofK_inv_t h hr with ⟨_, fs, rfl, g3, g4, _, _⟩ | ⟨g1, _⟩ | ⟨g1, _⟩
      ·unfold getV
       rw [V.kids]
       cases hto : toldV f (fs.map fldV) with
       | none =>
        obtain ⟨a1, a2, a3⟩ := standV_ok hw ht h69 hfm
        unfold valOf at a2
        split at a2
        ·rename_i hl4
         split at a2
         ·rename_i v' hv'
          have := rd_deep_le _ _ _ _ hv'
          simp only [Option.some.injEq] at a2
          subst a2
          exact ⟨this, by show (standV ts f).out.length ≤ 400; rw [a3]; exact hl4⟩
         ·cases a2
        ·cases a2
       | some u =>
        obtain ⟨_, p, hp, _, rfl⟩ := toldV_of (hw.ty t ht) hfm (fun p hp => ⟨g3 p hp, g4 p hp⟩) hto
        rw [deep_nd (by decide)] at hd
        rw [out_rec'] at hl
        have h1 := V.deep_mem (List.mem_map_of_mem (f := fldV) hp)
        rw [show (fldV p).deep = p.2.deep from deep_fld] at h1
        have h2 := joinB_mem (xs := (fs.map fldV).map V.out) (List.mem_map_of_mem (f := V.out) (List.mem_map_of_mem (f := fldV) hp))
        rw [show (fldV p).out = decI p.1.tag ++ 61 :: p.2.out from out_fld] at h2
        simp only [List.length_cons, List.length_append, List.length_nil] at hl h2
        exact ⟨by show p.2.deep ≤ 12; omega, by show p.2.out.length ≤ 400; omega⟩
      ·omega
      ·omega
     ·rename_i h82
      split at e
      ·simp only [Option.some.injEq, Prod.mk.injEq] at e
       obtain ⟨rfl, rfl⟩ := e
       rcases ofK_inv_t h hr with ⟨h1, _⟩ | ⟨h1, _⟩ | ⟨_, _, d, u, rfl, g4, g5⟩
       ·omega
       ·omega
       ·rw [deep_nd (by decide)] at hd
        have e1 : V.out (.nd 85 [] d.tag [u]) = 60 :: (decI d.tag ++ 61 :: (u.out ++ [62])) := by rw [V.out]; simp [V.outs, joinB, outW]
        rw [e1] at hl
        have h1 := V.deep_mem (ks := [u]) (v := u) (by simp)
        simp only [List.length_cons, List.length_append, List.length_nil] at hl
        exact ⟨by show u.deep ≤ 12; omega, by show u.out.length ≤ 400; omega⟩
      ·cases e
def pathText (q : List Int) : List UInt8 := joinB 47 (q.map decI)
theorem decI_no47 {n : Int} (h : 0 ≤ n) : noB 47 (decI n) := fun c hc => by
 have := dg_ne ((digF_decI _ (Nat.le_refl _) h).2 c hc)
 omega
theorem stepsOf_inv : ∀ {xs : List (List UInt8)} {p : List Int}, stepsOf xs = some p → xs = p.map decI ∧ ∀ n ∈ p, 0 ≤ n ∧ n ≤ 999999
 | [], p, h => by simp only [stepsOf, Option.some.injEq] at h; subst h; simp
 | x :: xs, p, h => by
  unfold stepsOf at h
  cases hn : numOf x 999999 with
  | none => rw [hn] at h; cases h
  | some n =>
   rw [hn] at h
   dsimp only at h
   cases hs : stepsOf xs with
   | none => rw [hs] at h; cases h
   | some q =>
    rw [hs] at h
    simp only [Option.map_some, Option.some.injEq] at h
    subst h
    obtain ⟨h1, h2⟩ := stepsOf_inv hs
    refine ⟨by rw [List.map_cons, ← h1, ← (numOf_le hn).2.1], fun m hm => ?_⟩
    rcases List.mem_cons.1 hm with rfl | hm
    ·exact ⟨numOf_nn hn, (numOf_le hn).1⟩
    ·exact h2 m hm
theorem stepsOf_in : ∀ {p : List Int}, (∀ n ∈ p, 0 ≤ n ∧ n ≤ 999999) → stepsOf (p.map decI) = some p
 | [], _ => rfl
 | n :: p, h => by
  have h1 := h n (by simp)
  rw [List.map_cons, stepsOf, numOf_decI h1.1 h1.2 (by decide)]
  dsimp only
  rw [stepsOf_in fun m hm => h m (by simp [hm])]; rfl
theorem pathOf_text {s : List UInt8} {q : List Int} (h : pathOf s = some q) : s = pathText q ∧ q.length ≤ 8 ∧ (∀ n ∈ q, 0 ≤ n ∧ n ≤ 999999) ∧ (s = [] ↔ q = []) := by
 unfold pathOf at h
 split at h
 ·rename_i hs
  simp only [Option.some.injEq] at h; subst h
  exact ⟨by rw [hs]; rfl, by simp, by simp, by simp [hs]⟩
 ·rename_i hs
  split at h
  ·rename_i q' hq
   split at h
   ·rename_i h8
    simp only [Option.some.injEq] at h; subst h
    obtain ⟨h1, h2⟩ := stepsOf_inv hq
    have h3 := cut_join 47 s
    have h4 : (47 : UInt8).toNat = 47 := rfl
    rw [h4, h1] at h3
    refine ⟨h3.symm, h8, h2, fun h => absurd h hs, fun h => ?_⟩
    rw [h] at h3
    exact h3.symm
   ·cases h
  ·cases h
theorem pathText_ne {q : List Int} (h : q ≠ []) : pathText q ≠ [] := by
 cases q with
 | nil => exact absurd rfl h
 | cons n q =>
  have := decI_pos n
  unfold pathText
  intro e
  have e2 := congrArg List.length e
  cases q with
  | nil => simp [joinB] at e2; rw [e2] at this; simp at this
  | cons m q => simp [joinB] at e2
theorem pathOf_in {q : List Int} (h : ∀ n ∈ q, 0 ≤ n ∧ n ≤ 999999) : pathOf (pathText q) = if q.length ≤ 8 then some q else none := by
 by_cases hq : q = []
 ·subst hq; rfl
 ·unfold pathOf
  rw [if_neg (pathText_ne hq)]
  have h1 : cut 47 (pathText q) = q.map decI := join_cut (c := 47) (by simpa using hq) fun x hx => by
   obtain ⟨n, hn, rfl⟩ := List.mem_map.1 hx
   exact decI_no47 (h n hn).1
  rw [h1, stepsOf_in h]
theorem pathText_cons {n : Int} {q : List Int} (h : q ≠ []) : pathText (n :: q) = decI n ++ 47 :: pathText q := by
 cases q with
 | nil => exact absurd rfl h
 | cons m q => rfl
theorem pathText_app : ∀ {p q : List Int}, p ≠ [] → q ≠ [] → pathText (p ++ q) = pathText p ++ 47 :: pathText q
 | [], _, h, _ => absurd rfl h
 | [n], q, _, hq => by rw [List.singleton_append, pathText_cons hq]; rfl
 | n :: m :: p, q, _, hq => by
  rw [List.cons_append, pathText_cons (n := n) (q := m :: p ++ q) (by simp), pathText_app (p := m :: p) (by simp) hq, pathText_cons (n := n) (q := m :: p) (by simp)]
  simp
theorem toldV_mem {t : Ty} (hw : TyW t) : ∀ {fs : List (Fld × V)}, (∀ p ∈ fs, p.1 ∈ t.fields) → (fs.Pairwise fun a b => a.1.tag < b.1.tag) → ∀ {p : Fld × V}, p ∈ fs → toldV p.1 (fs.map fldV) = some p.2
 | q :: fs, hf, hs, p, hp => by
  rw [List.pairwise_cons] at hs
  rw [List.map_cons, toldV]
  rcases List.mem_cons.1 hp with rfl | hp
  ·rw [if_pos (show (fldV p).tag = p.1.tag from rfl)]; rfl
  ·have := hs.1 p hp
   rw [if_neg (show ¬ (fldV q).tag = p.1.tag by show ¬ q.1.tag = p.1.tag; omega)]
   exact toldV_mem hw (fun r hr => hf r (by simp [hr])) hs.2 hp
end Go.E
namespace Go.E
set_option maxRecDepth 20000
set_option maxHeartbeats 2000000
open Go.Proofs
variable {G : Gh}
theorem kindS_some2 {s k : List UInt8} (h : kindS s k = true) : ∃ ts, schemaOf s = some ts ∧ kindIn ts k = true ∧ SchW ts := by
 unfold kindS at h
 cases h1 : schemaOf s with
 | none => rw [h1] at h; cases h
 | some ts => rw [h1] at h; exact ⟨ts, rfl, h, schemaOf_w h1⟩
def givenV (s k v : List UInt8) : Option V := match schemaOf s with
 | some ts => if kindIn ts k = true then valOf ts k v else none
 | none => none
def ptR (b : Nat) : List Value := [Pt b 0]
instance : RowF ptR 1 := ⟨fun _ => rfl⟩
def inR (n : Int) : List Value := [I n]
instance : RowF inR 1 := ⟨fun _ => rfl⟩
abbrev tSt2 : TypeId := 9
abbrev tLv : TypeId := 69
inductive RepR (G : Gh) (ts : List Ty) : V → List UInt8 → Nat → Prop
 | leaf (w : Nat) (x k tx : List UInt8) (b : Nat) : Seg G b 0 [S k, S tx, nilS, nilS] → ((w = 110 ∧ k = [110] ∧ tx = x ∧ ∀ c ∈ x, isDg c = true) ∨ (w = 116 ∧ k = [116] ∧ tx = 39 :: (x ++ [39])) ∨ (w = 102 ∧ k = [102] ∧ tx = x ∧ (x = [121, 101, 115] ∨ x = [110, 111]))) → RepR G ts (.nd w x 0 []) k b
 | lst (k : List UInt8) (b : Nat) (ks : List V) (bs : List Nat) (a : Option Addr) (c : Nat) : Seg G b 0 [S (91 :: k), S [], nilS, .slice a ks.length c] → SlV G (.slice a ks.length c) 1 ks.length (rows ptR bs) → bs.length = ks.length → (∀ i, i < ks.length → RepR G ts (nth ks i) k (nth bs i)) → RepR G ts (.nd 91 [] 0 ks) (91 :: k) b
 | non (k : List UInt8) (b : Nat) : Seg G b 0 [S (63 :: k), S [], nilS, nilS] → RepR G ts (.nd 63 [] 0 []) (63 :: k) b
 | opt (k : List UInt8) (b kb b' cc : Nat) (v : V) : 1 ≤ cc → Seg G b 0 [S (63 :: k), S [], nilS, .slice (some ⟨kb, 0, none⟩) 1 cc] → Seg G kb 0 [Pt b' 0] → RepR G ts v k b' → RepR G ts (.nd 63 [] 0 [v]) (63 :: k) b
 | recd (k : List UInt8) (b : Nat) (t : Ty) (fs : List (Fld × V)) (bs : List Nat) (a a2 : Option Addr) (c c2 : Nat) : refT ts k = some t ∧ t.sort = 82 → Seg G b 0 [S k, S [82], .slice a fs.length c, .slice a2 fs.length c2] → SlV G (.slice a fs.length c) 1 fs.length (rows inR (fs.map fun p => p.1.tag)) → SlV G (.slice a2 fs.length c2) 1 fs.length (rows ptR bs) → bs.length = fs.length → (∀ i, i < fs.length → (nth fs i).1 ∈ t.fields) → (∀ i, i < fs.length → RepR G ts (nth fs i).2 (nth fs i).1.kind (nth bs i)) → RepR G ts (.nd 82 [] 0 (fs.map fun p => .nd 61 [] p.1.tag [p.2])) k b
 | enm (k : List UInt8) (b tb : Nat) (t : Ty) (d : Fld) {tc : Nat} : refT ts k = some t ∧ t.sort = 69 → d ∈ t.fields → Seg G b 0 [S k, S [69], .slice (some ⟨tb, 0, none⟩) 1 (tc + 1), nilS] → Seg G tb 0 [I d.tag] → RepR G ts (.nd 69 [] d.tag []) k b
 | uni (k : List UInt8) (b tb kb b' cc : Nat) (t : Ty) (d : Fld) (v : V) {tc : Nat} : 1 ≤ cc → refT ts k = some t ∧ t.sort = 85 → d ∈ t.fields → Seg G b 0 [S k, S [85], .slice (some ⟨tb, 0, none⟩) 1 (tc + 1), .slice (some ⟨kb, 0, none⟩) 1 cc] → Seg G tb 0 [I d.tag] → Seg G kb 0 [Pt b' 0] → RepR G ts v d.kind b' → RepR G ts (.nd 85 [] d.tag [v]) k b
theorem RepR.mono {G G' : Gh} {ts : List Ty} (hl : Gh.le G G') {v : V} {k : List UInt8} {b : Nat} (h : RepR G ts v k b) : RepR G' ts v k b := by
 induction h with
 | leaf w x k tx b h1 h2 => exact .leaf w x k tx b (h1.mono hl) h2
 | lst k b ks bs a c h1 h2 h3 _ ih => exact .lst k b ks bs a c (h1.mono hl) (h2.mono hl) h3 ih
 | non k b h1 => exact .non k b (h1.mono hl)
 | opt k b kb b' cc v h0 h1 h2 _ ih => exact .opt k b kb b' cc v h0 (h1.mono hl) (h2.mono hl) ih
 | recd k b t fs bs a a2 c c2 h0 h1 h2 h3 h4 h5 _ ih => exact .recd k b t fs bs a a2 c c2 h0 (h1.mono hl) (h2.mono hl) (h3.mono hl) h4 h5 ih
 | enm k b tb t d h0 h1 h2 h3 => exact .enm k b tb t d h0 h1 (h2.mono hl) (h3.mono hl)
 | uni k b tb kb b' cc t d v hcc h0 h1 h2 h3 h4 _ ih => exact .uni k b tb kb b' cc t d v hcc h0 h1 (h2.mono hl) (h3.mono hl) (h4.mono hl) ih
def ReadP (ts : List Ty) (f : Option (V × List UInt8)) (k : List UInt8) (v : Value) (G' : Gh) : Prop :=
 ∃ q rest ok, v = Tu [.pointer q, S rest, Bo ok] ∧ (ok = true → ∃ w b, q = some ⟨b, 0, none⟩ ∧ f = some (w, rest) ∧ RepR G' ts w k b) ∧ (ok = false → f = none)
theorem c_digits {s : List UInt8} (hs : s.length ≤ 100000000) : PuG Try.prog 65 [S s] G (· = I ((s.takeWhile isDg).length : Nat)) := by
 refine jE [(0, _)] Try.func65 Try.ntmps65 fun B hB => ?_
 repeat' (refine jR ?_)
 refine k_loop (ι := Nat) (fun i => i ≤ s.length ∧ i + ((s.drop i).takeWhile isDg).length = (s.takeWhile isDg).length) (fun i => [(0, S s), (3, I i)]) (fun _ => G) (fun i => []) (fun i => s.length - i) 0 ?_ (by repeat' constructor) rfl sRr (fun i Hi => ?_)
 ·exact ⟨Nat.zero_le _, by simp⟩
 obtain ⟨hi0, hi1⟩ := Hi
 by_cases hi : i < s.length
 ·obtain ⟨c, hc1, hc2⟩ := drop_bt hi
  have hc3 : bt s ((i : Int).toNat) = c.toNat := hc2
  rw [hc1, List.takeWhile_cons] at hi1
  by_cases hd : isDg c = true
  ·rw [if_pos hd] at hi1
   have hd2 := hd
   unfold isDg at hd2
   rw [decide_eq_true_eq] at hd2
   simp only [List.length_cons] at hi1
   repeat' (first | refine jM ?_ | (refine k_op rfl ?_; (refine jV (g_pickT rfl rfl rfl) ?_)) | (refine k_gt rfl rfl (dTt (by omega)) ?_) | (refine k_tt rfl (dTt (by omega)) ?_))
   exact k_rd (i + 1) ⟨by omega, by omega⟩ (by omega) (by repeat' constructor) rfl sRr
  ·rw [if_neg hd] at hi1
   have hd2 : ¬ (48 ≤ c.toNat ∧ c.toNat ≤ 57) := fun h => hd (by unfold isDg; rw [decide_eq_true_eq]; exact h)
   simp only [List.length_nil] at hi1
   repeat' (first | refine jM ?_ | (refine k_op rfl ?_; first | (refine jV (g_pickT rfl rfl rfl) ?_) | (refine jV (g_pickF rfl rfl rfl) ?_)) | (refine k_gt rfl rfl (dTt (by omega)) ?_) | refine k_g rfl rfl (fun _ => ?_) (fun _ => ?_) | (refine k_ff rfl (by first | rfl | (refine decide_eq_false ?_; (omega))) ?_))
   all_goals refine jZ (vs := [_]) rfl ⟨rfl, trivial⟩ rfl ⟨rfl, rfl, ?_⟩
   all_goals (rw [oneOf_one, ← hi1]; rfl)
 ·have : i = s.length := by omega
  rw [this, List.drop_length] at hi1
  simp only [List.takeWhile_nil, List.length_nil] at hi1
  repeat' (first | (refine jR ?_) | (refine k_op rfl ?_; (refine jV (g_pickF rfl rfl rfl) ?_)) | (refine k_gf rfl rfl (by first | rfl | (refine decide_eq_false ?_; (omega))) ?_) | (refine k_ff rfl rfl ?_))
  all_goals refine jZ (vs := [_]) rfl ⟨rfl, trivial⟩ rfl ⟨rfl, rfl, ?_⟩
  all_goals (rw [oneOf_one, ← hi1, this]; rfl)
theorem take_while (q : UInt8 → Bool) (s : List UInt8) : s.take ((((s.takeWhile q).length : Nat) : Int)).toNat = s.takeWhile q ∧ s.drop ((((s.takeWhile q).length : Nat) : Int)).toNat = s.dropWhile q := by
 have h := List.takeWhile_append_dropWhile (p := q) (l := s)
 have e : ((((s.takeWhile q).length : Nat) : Int)).toNat = (s.takeWhile q).length := by omega
 rw [e]
 constructor
 ·have h2 : (s.takeWhile q ++ s.dropWhile q).take (s.takeWhile q).length = s.takeWhile q := List.take_left
  rwa [h] at h2
 ·have h2 : (s.takeWhile q ++ s.dropWhile q).drop (s.takeWhile q).length = s.dropWhile q := List.drop_left
  rwa [h] at h2
theorem c_plainN {u : Value} {ts : List Ty} {s : List UInt8} (hu : u.oneCell' = true) (hs : s.length ≤ 100000000) : FnS Try.prog 53 [Ag [u], S s, S [110]] G (ReadP ts ((rdNum 999999 s).map fun x => (.nd 110 (decI x.1) 0 [], x.2)) [110]) := by
 have cx_dg := c_digits (G := G) hs
 obtain ⟨e1, e2⟩ := take_while isDg s
 have hwl := while_len isDg s
 have hlen : (s.take ((((s.takeWhile isDg).length : Nat) : Int)).toNat).length ≤ 100000000 := by rw [e1]; omega
 refine jB [(0, _), (1, _), (2, _)] Try.func53 Try.ntmps53 fun B hok hB hW => ?_
 repeat' (first | refine jM ?_ | (refine k_op rfl ?_; first | refine c_bx rfl rfl rfl fun _ => ?_ | (refine c_rt rfl rfl rfl cx_dg rfl ?_) | (refine c_pu rfl rfl rfl (c_l3Num (by omega)) rfl ?_; rintro _ ⟨n, rfl, hnum⟩)) | (refine k_tt rfl rfl ?_) | (refine k_any (s_any (id := 6) _ (fun _ h => h) mixed ?_); refine jU 5 [0, 1, 2, 3, 6, 7, 8, 9] (bts 13 975) ?_ ?_; (focus (repeat' (first | exact trivial | apply And.intro | omega))); (refine jG (bts 13 991) 4 rfl (g_bld rfl rfl) ?_); refine jA 5 rfl ?_; (refine c_bx rfl rfl rfl fun _ => ?_); refine jS (bts 13 1023) ?_; refine jT 0 [10, 11, 12] (bts 13 8191) ?_; refine x_done (by kernel_rfl) (k_bk ?_)))
 rename_i x3 x4
 refine Nx.sealC (b := x4) fun G2 hG2 hsy => ?_
 refine jZ (vs := [_, _, _]) rfl ⟨rfl, rfl, rfl, trivial⟩ rfl ⟨hG2, rfl, ?_⟩
 rw [oneOf_three]
 rw [e1] at hnum hsy
 rw [e1, e2]
 refine ⟨_, _, _, rfl, fun h => ?_, fun h => ?_⟩
 ·cases hm : numOf (s.takeWhile isDg) 999999 with
  | none => rw [hm] at h; cases h
  | some m =>
   have hmd := (numOf_le hm).2.1
   refine ⟨.nd 110 (decI m) 0 [], x4, rfl, by unfold rdNum; rw [hm]; rfl, .leaf 110 _ _ _ _ hsy (.inl ⟨rfl, rfl, hmd, fun c hc => List.all_eq_true.1 (List.all_takeWhile (l := s) (p := isDg)) c (by rw [hmd]; exact hc)⟩)⟩
 ·cases hm : numOf (s.takeWhile isDg) 999999 with
  | none => unfold rdNum; rw [hm]; rfl
  | some m => rw [hm] at h; cases h
theorem quote_take {c : UInt8} {r : List UInt8} {i : Nat} (hc : i ≤ r.length) (hn : ∀ j, j < i → bt r j ≠ 39) (hi : i = r.length ∨ bt r i = 39 ∧ i < r.length) :
  (rdQuote (c :: r) = if isTx ((c :: r).take (min (i + 2) (r.length + 1))) = true then some (.nd 116 (r.take i) 0 [], r.drop (i + 1)) else none) ∧ (isTx ((c :: r).take (min (i + 2) (r.length + 1))) = true → (c :: r).take (min (i + 2) (r.length + 1)) = 39 :: (r.take i ++ [39])) := by
 unfold rdQuote
 dsimp only
 rcases hi with hi | ⟨h39, hlt⟩
 ·have hcut : cut1 39 r = (r, [], false) := cut1_no fun j hj => hn j (by omega)
  have htk : (c :: r).take (min (i + 2) (r.length + 1)) = c :: r := List.take_of_length_le (by simp; omega)
  have hno : isTx (c :: r) = false := by
   unfold isTx
   refine decide_eq_false fun h => ?_
   obtain ⟨⟨h2, _⟩, _, h3, _⟩ := h
   simp only [List.length_cons] at h2
   rw [show (c :: r).length - 1 = (r.length - 1) + 1 by simp; omega, bt_succ] at h3
   exact hn (r.length - 1) (by omega) h3
  rw [hcut, htk, hno]
  exact ⟨by simp, fun h => (by cases h)⟩
 ·have hcut := cut1_at (k := 39) hlt hn h39
  have htk : (c :: r).take (min (i + 2) (r.length + 1)) = c :: (r.take i ++ [39]) := by
   rw [show min (i + 2) (r.length + 1) = (i + 1) + 1 by omega, List.take_succ_cons, take_nth hlt]
   congr 1; congr 1; congr 1
   rw [nth_eq hlt]
   have : bt r i = (r[i]).toNat := by simp [bt, List.getD, List.getElem?_eq_getElem hlt]
   exact UInt8.toNat_inj.1 (by rw [← this, h39]; rfl)
  rw [hcut, htk]
  dsimp only
  by_cases h : c.toNat = 39
  ·rw [if_pos h, show c = 39 from UInt8.toNat_inj.1 h]
   exact ⟨rfl, fun _ => rfl⟩
  ·have hno : ¬ isTx (c :: (r.take i ++ [39])) = true := fun ht => by
    unfold isTx at ht
    rw [decide_eq_true_eq] at ht
    exact h (by have := ht.2.1; rwa [bt_zero] at this)
   rw [if_neg h, if_neg hno]
   exact ⟨rfl, fun h2 => absurd h2 hno⟩
theorem c_plainT {u : Value} {ts : List Ty} {s : List UInt8} (hu : u.oneCell' = true) (hs : s.length ≤ 100000000) (hne : s ≠ []) : FnS Try.prog 53 [Ag [u], S s, S [116]] G (ReadP ts (rdQuote s) [116]) := by
 match s, hne with
 | c :: r, _ =>
 simp only [List.length_cons] at hs
 have hcl : (c :: r).length = r.length + 1 := rfl
 refine jB [(0, _), (1, _), (2, _)] Try.func53 Try.ntmps53 fun B hok hB hW => ?_
 repeat' (first | (refine jR ?_) | (refine k_op rfl ?_; (refine c_bx rfl rfl rfl fun _ => ?_)) | (refine k_tt rfl rfl ?_) | (refine k_ff rfl rfl ?_))
 rename_i x3
 refine k_loop (ι := Nat) (fun i => i ≤ r.length ∧ ∀ j, j < i → bt r j ≠ 39) (fun i => [(1, S (c :: r)), (2, S [116]), (9, I (i + 1 : Nat))]) (fun _ => G) (fun i => []) (fun i => r.length - i) 0 ?_ (by repeat' constructor) rfl (by repeat (exact List.nil_sublist _)) (fun i Hi => ?_)
 ·exact ⟨Nat.zero_le _, fun j hj => absurd hj (by omega)⟩
 obtain ⟨hi0, hi1⟩ := Hi
 have hb : bt (c :: r) ((i + 1 : Nat) : Int).toNat = bt r i := bt_succ c r i
 by_cases hi : i < r.length
 ·by_cases h39 : bt r i = 39
  ·have h39' : bt (c :: r) ((i + 1 : Nat) : Int).toNat = 39 := by rw [hb]; exact h39
   have hq := quote_take (c := c) hi0 hi1 (.inr ⟨h39, hi⟩)
   have e3 : (min (((i + 1 : Nat) : Int) + 1) ((((c :: r).length : Nat) : Int))).toNat = min (i + 2) (r.length + 1) := by omega
   have cx_tx := c_l3Text (G := G) (s := (c :: r).take (min (((i + 1 : Nat) : Int) + 1) ((((c :: r).length : Nat) : Int))).toNat) (by rw [List.length_take]; omega)
   repeat' (first | refine jM ?_ | (refine k_op rfl ?_; first | (refine jV (g_pickT rfl rfl rfl) ?_) | refine jV (g_min rfl rfl) ?_) | (refine k_gt rfl rfl (dTt (by omega)) ?_) | (refine k_ff rfl (dFf (by omega)) ?_) | (refine k_any (s_any (id := 12) _ (fun _ h => h) mixed ?_); refine jU 6 [0, 1, 2, 3, 6, 7, 8, 9, 10, 11] (bts 16 4047) ?_ ?_; (focus (repeat' (first | exact trivial | apply And.intro | omega))); (refine jG (bts 16 4063) 4 rfl (g_bld rfl rfl) ?_); refine x_all [5, 12] (by kernel_rfl) (by decide) ⟨?_, ?_, trivial⟩; (focus (refine x_opg rfl rfl ?_; (refine c_bx rfl rfl rfl fun _ => ?_); refine jS (bts 16 4095) ?_; refine jA 12 rfl ?_; ((refine c_rt rfl rfl rfl (c_l3Text ?_) rfl ?_; (focus ((simp; omega); done)))); refine jS (bts 16 8191) ?_; refine jU 0 [13, 14, 15] (bts 16 65535) ?_ ?_; (focus (repeat' (exact trivial))); refine x_done (by kernel_rfl) (k_bk ?_))); rotate_left 1; (focus (refine x_opg rfl rfl ?_; ((refine c_rt rfl rfl rfl (c_l3Text ?_) rfl ?_; (focus ((simp; omega); done)))); refine jS (bts 16 8159) ?_; refine jA 5 rfl ?_; (refine c_bx rfl rfl rfl fun _ => ?_); refine jS (bts 16 8191) ?_; refine jU 0 [13, 14, 15] (bts 16 65535) ?_ ?_; (focus (repeat' (exact trivial))); refine x_done (by kernel_rfl) (k_bk ?_))); rotate_left 1))
   all_goals
    rename_i x4
    refine Nx.sealC (b := x4) fun G2 hG2 hsy => ?_
    refine jZ (vs := [_, _, _]) rfl ⟨rfl, rfl, rfl, trivial⟩ rfl ⟨hG2, rfl, ?_⟩
    rw [oneOf_three]
    rw [e3] at hsy
    rw [e3]
    refine ⟨_, _, _, rfl, fun h => ?_, fun h => ?_⟩
    ·have htk := hq.2 h
     rw [htk] at hsy
     have hdr : (c :: r).drop (min (i + 2) (r.length + 1)) = r.drop (i + 1) := by
      rcases Nat.lt_or_ge i r.length with h2 | h2
      ·rw [show min (i + 2) (r.length + 1) = (i + 1) + 1 by omega]; rfl
      ·rw [List.drop_eq_nil_of_le (by simp; omega), List.drop_eq_nil_of_le (by omega)]
     exact ⟨_, x4, rfl, by rw [hq.1, if_pos h, hdr], .leaf 116 _ _ _ _ hsy (.inr (.inl ⟨rfl, rfl, rfl⟩))⟩
    ·rw [hq.1, if_neg (by rw [h]; decide)]
  ·have h39' : ¬ bt (c :: r) ((i + 1 : Nat) : Int).toNat = 39 := by rw [hb]; exact h39
   repeat' (first | refine jM ?_ | (refine k_op rfl ?_; (refine jV (g_pickT rfl rfl rfl) ?_)) | (refine k_gt rfl rfl (dTt (by omega)) ?_) | (refine k_tt rfl (dTt (by omega)) ?_))
   refine Nx.re (d := 9) (v' := I (i + 1 + 1 : Nat)) rfl (congrArg (Value.int .i64) (by omega)) ?_
   exact k_rd (i + 1) ⟨by omega, fun j hj => (by
    rcases Nat.lt_or_ge j i with h | h
    ·exact hi1 j h
    ·have : j = i := by omega
     subst this; exact h39)⟩ (by omega) (by repeat' constructor) rfl sRr
 ·have hq := quote_take (c := c) hi0 hi1 (.inl (by omega))
  have e3 : (min (((i + 1 : Nat) : Int) + 1) ((((c :: r).length : Nat) : Int))).toNat = min (i + 2) (r.length + 1) := by omega
  have cx_tx := c_l3Text (G := G) (s := (c :: r).take (min (((i + 1 : Nat) : Int) + 1) ((((c :: r).length : Nat) : Int))).toNat) (by rw [List.length_take]; omega)
  repeat' (first | refine jM ?_ | (refine k_op rfl ?_; first | (refine jV (g_pickF rfl rfl rfl) ?_) | refine jV (g_min rfl rfl) ?_) | (refine k_gf rfl rfl (dFf (by omega)) ?_) | (refine k_ff rfl rfl ?_) | (refine k_any (s_any (id := 12) _ (fun _ h => h) mixed ?_); refine jU 6 [0, 1, 2, 3, 6, 7, 8, 9, 10, 11] (bts 16 4047) ?_ ?_; (focus (repeat' (first | exact trivial | apply And.intro | omega))); (refine jG (bts 16 4063) 4 rfl (g_bld rfl rfl) ?_); refine x_all [5, 12] (by kernel_rfl) (by decide) ⟨?_, ?_, trivial⟩; (focus (refine x_opg rfl rfl ?_; (refine c_bx rfl rfl rfl fun _ => ?_); refine jS (bts 16 4095) ?_; refine jA 12 rfl ?_; ((refine c_rt rfl rfl rfl (c_l3Text ?_) rfl ?_; (focus ((simp; omega); done)))); refine jS (bts 16 8191) ?_; refine jU 0 [13, 14, 15] (bts 16 65535) ?_ ?_; (focus (repeat' (exact trivial))); refine x_done (by kernel_rfl) (k_bk ?_))); rotate_left 1; (focus (refine x_opg rfl rfl ?_; ((refine c_rt rfl rfl rfl (c_l3Text ?_) rfl ?_; (focus ((simp; omega); done)))); refine jS (bts 16 8159) ?_; refine jA 5 rfl ?_; (refine c_bx rfl rfl rfl fun _ => ?_); refine jS (bts 16 8191) ?_; refine jU 0 [13, 14, 15] (bts 16 65535) ?_ ?_; (focus (repeat' (exact trivial))); refine x_done (by kernel_rfl) (k_bk ?_))); rotate_left 1))
  all_goals
   rename_i x4
   refine Nx.sealC (b := x4) fun G2 hG2 hsy => ?_
   refine jZ (vs := [_, _, _]) rfl ⟨rfl, rfl, rfl, trivial⟩ rfl ⟨hG2, rfl, ?_⟩
   rw [oneOf_three]
   rw [e3] at hsy
   rw [e3]
   refine ⟨_, _, _, rfl, fun h => ?_, fun h => ?_⟩
   ·have htk := hq.2 h
    rw [htk] at hsy
    have hdr : (c :: r).drop (min (i + 2) (r.length + 1)) = r.drop (i + 1) := by
     rcases Nat.lt_or_ge i r.length with h2 | h2
     ·rw [show min (i + 2) (r.length + 1) = (i + 1) + 1 by omega]; rfl
     ·rw [List.drop_eq_nil_of_le (by simp; omega), List.drop_eq_nil_of_le (by omega)]
    exact ⟨_, x4, rfl, by rw [hq.1, if_pos h, hdr], .leaf 116 _ _ _ _ hsy (.inr (.inl ⟨rfl, rfl, rfl⟩))⟩
   ·rw [hq.1, if_neg (by rw [h]; decide)]
theorem c_plainF {u : Value} {ts : List Ty} {s : List UInt8} (hu : u.oneCell' = true) (hs : s.length ≤ 100000000) : FnS Try.prog 53 [Ag [u], S s, S [102]] G (ReadP ts (rdFlag s) [102]) := by
 have hpf : ∀ l : List UInt8, l.isPrefixOf s = true ↔ l.length ≤ s.length ∧ s.take l.length = l := fun l => by
  rw [List.isPrefixOf_iff_prefix]
  constructor
  ·rintro ⟨t, rfl⟩; simp
  ·rintro ⟨h1, h2⟩; exact ⟨s.drop l.length, by rw [show l ++ s.drop l.length = s.take l.length ++ s.drop l.length from by rw [h2]]; exact List.take_append_drop _ _⟩
 refine jB [(0, _), (1, _), (2, _)] Try.func53 Try.ntmps53 fun B hok hB hW => ?_
 repeat' (first | (refine jR ?_) | (refine k_op rfl ?_; first | refine c_bx rfl rfl rfl fun _ => ?_ | refine c_bsl rfl rfl rfl rfl rfl rfl fun _ => ?_ | refine jV (g_lenL rfl) ?_) | (refine k_ff rfl rfl ?_))
 rename_i x3 x4
 refine k_loop (ι := Nat) (fun i => i ≤ 2 ∧ (1 ≤ i → ([121, 101, 115] : List UInt8).isPrefixOf s = false) ∧ (2 ≤ i → ([110, 111] : List UInt8).isPrefixOf s = false)) (fun i => [(1, S s), (2, S [102]), (68, .slice (some ⟨x4, 0, none⟩) 2 2), (69, I (2 : Nat)), (70, I i)]) (fun _ => G) (fun i => [.blk x4 (.cells (List.toArray [S [121, 101, 115], S [110, 111]]) tSt2 (0, 0))]) (fun i => 2 - i) 0 ?_ (by repeat' constructor) rfl (by repeat (first | exact List.nil_sublist _ | apply List.Sublist.cons_cons)) (fun i Hi => ?_)
 ·exact ⟨Nat.zero_le _, fun h => absurd h (by omega), fun h => absurd h (by omega)⟩
 obtain ⟨hi0, hi1, hi2⟩ := Hi
 have h3 : i = 0 ∨ i = 1 ∨ i = 2 := by omega
 rcases h3 with rfl | rfl | rfl
 ·cases hp : ([121, 101, 115] : List UInt8).isPrefixOf s with
  | true =>
   obtain ⟨h1, h2⟩ := (hpf _).1 hp
   have h1' : (((([121, 101, 115] : List UInt8).length : Nat) : Int)) ≤ s.length := by omega
   have h2' : s.take (((([121, 101, 115] : List UInt8).length : Nat) : Int)).toNat = [121, 101, 115] := h2
   repeat' (first | refine jM ?_ | (refine k_op rfl ?_; first | (refine jV (g_pickT rfl rfl rfl) ?_) | (refine jV (g_iaddrN rfl rfl (by omega)) ?_) | refine jV (g_ld rfl rfl rfl) ?_) | (refine k_gt rfl rfl (dTt ‹_›) ?_) | (refine k_tt rfl (by first | rfl | (refine decide_eq_true ?_; (assumption))) ?_) | (refine k_any (s_any (id := 17) _ (fun _ h => h) mixed ?_); refine jU 5 [0, 1, 4, 5, 6, 7] (bts 11 243) ?_ ?_; (focus (repeat' (first | exact trivial | apply And.intro | omega))); (refine jG (bts 11 247) 2 rfl (g_bld rfl rfl) ?_); refine jA 3 rfl ?_; (refine c_bx rfl rfl rfl fun _ => ?_); refine jS (bts 11 255) ?_; refine jT 0 [8, 9, 10] (bts 11 2047) ?_; refine x_done (by kernel_rfl) (k_bk ?_)))
   all_goals
    rename_i y
    refine Nx.sealC (b := y) fun G2 hG2 hsy => ?_
    refine jZ (vs := [_, _, _]) rfl ⟨rfl, rfl, rfl, trivial⟩ rfl ⟨hG2, rfl, ?_⟩
    rw [oneOf_three]
    exact ⟨_, _, _, rfl, fun _ => ⟨.nd 102 [121, 101, 115] 0 [], y, rfl, by unfold rdFlag; rw [hp, if_pos rfl]; rfl, .leaf 102 _ _ _ _ hsy (.inr (.inr ⟨rfl, rfl, rfl, .inl rfl⟩))⟩, fun h => (by cases h)⟩
  | false =>
   have hn : ¬ ((([121, 101, 115] : List UInt8).length : Nat) ≤ s.length ∧ s.take ([121, 101, 115] : List UInt8).length = [121, 101, 115]) := fun h => by rw [(hpf _).2 h] at hp; cases hp
   have hn' : ¬ ((((([121, 101, 115] : List UInt8).length : Nat) : Int)) ≤ s.length ∧ s.take (((([121, 101, 115] : List UInt8).length : Nat) : Int)).toNat = [121, 101, 115]) := fun h => hn ⟨by omega, h.2⟩
   by_cases h1' : (((([121, 101, 115] : List UInt8).length : Nat) : Int)) ≤ s.length
   ·have h2' : ¬ s.take (((([121, 101, 115] : List UInt8).length : Nat) : Int)).toNat = [121, 101, 115] := fun h => hn' ⟨h1', h⟩
    repeat' (first | refine jM ?_ | (refine k_op rfl ?_; first | (refine jV (g_pickT rfl rfl rfl) ?_) | (refine jV (g_iaddrN rfl rfl (by omega)) ?_) | refine jV (g_ld rfl rfl rfl) ?_) | (refine k_gt rfl rfl (dTt ‹_›) ?_) | (refine k_tt rfl rfl ?_) | (refine k_ff rfl (dFf ‹_›) ?_))
    exact k_rd 1 ⟨by omega, fun _ => rfl, fun h => absurd h (by omega)⟩ (by omega) (by repeat' constructor) rfl sRr
   ·repeat' (first | refine jM ?_ | (refine k_op rfl ?_; first | (refine jV (g_pickF rfl rfl rfl) ?_) | (refine jV (g_iaddrN rfl rfl (by omega)) ?_) | refine jV (g_ld rfl rfl rfl) ?_) | (refine k_gf rfl rfl (dFf ‹_›) ?_) | (refine k_tt rfl rfl ?_) | (refine k_ff rfl rfl ?_))
    exact k_rd 1 ⟨by omega, fun _ => rfl, fun h => absurd h (by omega)⟩ (by omega) (by repeat' constructor) rfl sRr
 ·have hy := hi1 (Nat.le_refl _)
  cases hp : ([110, 111] : List UInt8).isPrefixOf s with
  | true =>
   obtain ⟨h1, h2⟩ := (hpf _).1 hp
   have h1' : (((([110, 111] : List UInt8).length : Nat) : Int)) ≤ s.length := by omega
   have h2' : s.take (((([110, 111] : List UInt8).length : Nat) : Int)).toNat = [110, 111] := h2
   repeat' (first | refine jM ?_ | (refine k_op rfl ?_; first | (refine jV (g_pickT rfl rfl rfl) ?_) | (refine jV (g_iaddrN rfl rfl (by omega)) ?_) | refine jV (g_ld rfl rfl rfl) ?_) | (refine k_gt rfl rfl (dTt ‹_›) ?_) | (refine k_tt rfl (by first | rfl | (refine decide_eq_true ?_; (assumption))) ?_) | (refine k_any (s_any (id := 17) _ (fun _ h => h) mixed ?_); refine jU 5 [0, 1, 4, 5, 6, 7] (bts 11 243) ?_ ?_; (focus (repeat' (first | exact trivial | apply And.intro | omega))); (refine jG (bts 11 247) 2 rfl (g_bld rfl rfl) ?_); refine jA 3 rfl ?_; (refine c_bx rfl rfl rfl fun _ => ?_); refine jS (bts 11 255) ?_; refine jT 0 [8, 9, 10] (bts 11 2047) ?_; refine x_done (by kernel_rfl) (k_bk ?_)))
   all_goals
    rename_i y
    refine Nx.sealC (b := y) fun G2 hG2 hsy => ?_
    refine jZ (vs := [_, _, _]) rfl ⟨rfl, rfl, rfl, trivial⟩ rfl ⟨hG2, rfl, ?_⟩
    rw [oneOf_three]
    exact ⟨_, _, _, rfl, fun _ => ⟨.nd 102 [110, 111] 0 [], y, rfl, by unfold rdFlag; rw [hy, if_neg (by decide), hp, if_pos rfl]; rfl, .leaf 102 _ _ _ _ hsy (.inr (.inr ⟨rfl, rfl, rfl, .inr rfl⟩))⟩, fun h => (by cases h)⟩
  | false =>
   have hn : ¬ ((([110, 111] : List UInt8).length : Nat) ≤ s.length ∧ s.take ([110, 111] : List UInt8).length = [110, 111]) := fun h => by rw [(hpf _).2 h] at hp; cases hp
   have hn' : ¬ ((((([110, 111] : List UInt8).length : Nat) : Int)) ≤ s.length ∧ s.take (((([110, 111] : List UInt8).length : Nat) : Int)).toNat = [110, 111]) := fun h => hn ⟨by omega, h.2⟩
   by_cases h1' : (((([110, 111] : List UInt8).length : Nat) : Int)) ≤ s.length
   ·have h2' : ¬ s.take (((([110, 111] : List UInt8).length : Nat) : Int)).toNat = [110, 111] := fun h => hn' ⟨h1', h⟩
    repeat' (first | refine jM ?_ | (refine k_op rfl ?_; first | (refine jV (g_pickT rfl rfl rfl) ?_) | (refine jV (g_iaddrN rfl rfl (by omega)) ?_) | refine jV (g_ld rfl rfl rfl) ?_) | (refine k_gt rfl rfl (dTt ‹_›) ?_) | (refine k_tt rfl rfl ?_) | (refine k_ff rfl (dFf ‹_›) ?_))
    exact k_rd 2 ⟨by omega, fun _ => hy, fun _ => rfl⟩ (by omega) (by repeat' constructor) rfl sRr
   ·repeat' (first | refine jM ?_ | (refine k_op rfl ?_; first | (refine jV (g_pickF rfl rfl rfl) ?_) | (refine jV (g_iaddrN rfl rfl (by omega)) ?_) | refine jV (g_ld rfl rfl rfl) ?_) | (refine k_gf rfl rfl (dFf ‹_›) ?_) | (refine k_tt rfl rfl ?_) | (refine k_ff rfl rfl ?_))
    exact k_rd 2 ⟨by omega, fun _ => hy, fun _ => rfl⟩ (by omega) (by repeat' constructor) rfl sRr
 ·repeat' (first | (refine jR ?_) | (refine k_ff rfl rfl ?_))
  refine jZ (vs := [_, _, _]) rfl ⟨rfl, rfl, rfl, trivial⟩ rfl ⟨Gh.le.refl _, rfl, ?_⟩
  rw [oneOf_three]
  exact ⟨_, _, _, rfl, fun h => (by cases h), fun _ => by unfold rdFlag; rw [hi1 (by omega), if_neg (by decide), hi2 (by omega), if_neg (by decide)]⟩
theorem c_tag {u : Value} {x : TyX} {s : List UInt8} (hs : s.length ≤ 100000000) (hu : u.oneCell' = true) (hf : SlV G (slX x) 4 x.2.fields.length (rows fldF x.2.fields)) (hl : x.2.fields.length ≤ 1000) :
  PuG Try.prog 64 [Ag [u], S s, Ag (tyF x)] G (fun v => ∃ n, v = Tu [Ag (fldF ((fldT x.2.fields n).getD zF)), S (s.dropWhile isDg), Bo ((numOf (s.takeWhile isDg) 200).isSome && (fldT x.2.fields n).isSome)] ∧ ∀ m, numOf (s.takeWhile isDg) 200 = some m → n = m) := by
 have cx_dg := c_digits (G := G) hs
 obtain ⟨e1, e2⟩ := take_while isDg s
 have hwl := while_len isDg s
 have hlen : (s.take ((((s.takeWhile isDg).length : Nat) : Int)).toNat).length ≤ 100000000 := by rw [e1]; omega
 simp only [tyF]
 refine jE [(0, _), (1, _), (2, _)] Try.func64 Try.ntmps64 fun B hB => ?_
 repeat' (first | refine jM ?_ | (refine k_op rfl ?_; first | refine c_bx rfl rfl rfl fun _ => ?_ | refine c_al rfl rfl fun _ => ?_ | refine jV (g_ldA rfl rfl rfl rfl) ?_ | (refine c_rt rfl rfl rfl cx_dg rfl ?_) | (refine c_pu rfl rfl rfl (c_l3Num (by omega)) rfl ?_; rintro _ ⟨n, rfl, hnum⟩)))
 rename_i n
 have cx_fld := c_fieldS (G := G) (tag := n) hf hl
 rw [e1] at hnum
 cases hm : (numOf (s.take ((((s.takeWhile isDg).length : Nat) : Int)).toNat) 200).isSome with
 | false =>
  repeat' (first | (refine jR ?_) | (refine k_op rfl ?_; first | refine c_al rfl rfl fun _ => ?_ | refine c_stA rfl rfl rfl rfl rfl rfl ?_ | (refine c_rt rfl rfl rfl cx_fld rfl ?_)) | (refine k_any (s_anyD (id := 4) (tt := 6) rfl mixed ?_); refine jU 6 [1, 2, 3, 4, 5] (bts 11 62) ?_ ?_; (focus (repeat' (first | exact trivial | apply And.intro | omega))); (try (refine Nx.re (d := 34) (v' := Bo false) rfl (congrArg Value.bool rfl) ?_)); refine jU 5 [6] (bts 11 126) ?_ ?_; (focus (repeat' (exact trivial))); (refine jG (bts 11 127) 0 rfl (g_ldA rfl rfl rfl rfl) ?_); ((refine jG (bts 11 255) 7 rfl (g_pickF rfl rfl ?_) ?_; (focus ((rfl); done)))); refine jA 8 rfl ?_; (refine c_stA rfl rfl rfl rfl rfl rfl ?_); refine jK (bts 11 511) ?_; refine jU 0 [9, 10] (bts 11 2047) ?_ ?_; (focus (repeat' (exact trivial))); refine x_done (by kernel_rfl) (k_bk ?_)))
  all_goals refine jZ (vs := [_, _, _]) rfl ⟨rc_A rfl rfl rfl rfl, rfl, rfl, trivial⟩ rfl ⟨rfl, rfl, ?_⟩
  all_goals (rw [oneOf_three]; exact ⟨n, by rw [e1] at hm; rw [hm, e2]; rfl, hnum⟩)
 | true =>
  repeat' (first | (refine jR ?_) | (refine k_op rfl ?_; first | refine c_al rfl rfl fun _ => ?_ | refine c_stA rfl rfl rfl rfl rfl rfl ?_ | (refine c_rt rfl rfl rfl cx_fld rfl ?_)) | (refine k_any (s_anyD (id := 4) (tt := 6) rfl mixed ?_); refine jU 6 [1, 2, 3, 4, 5] (bts 11 62) ?_ ?_; (focus (repeat' (first | exact trivial | apply And.intro | omega))); (try (refine Nx.re (d := 34) (v' := Bo true) rfl (congrArg Value.bool rfl) ?_)); refine jU 5 [6] (bts 11 126) ?_ ?_; (focus (repeat' (exact trivial))); (refine jG (bts 11 127) 0 rfl (g_ldA rfl rfl rfl rfl) ?_); ((refine jG (bts 11 255) 7 rfl (g_pickT rfl rfl ?_) ?_; (focus ((rfl); done)))); refine jA 8 rfl ?_; (refine c_stA rfl rfl rfl rfl rfl rfl ?_); refine jK (bts 11 511) ?_; refine jU 0 [9, 10] (bts 11 2047) ?_ ?_; (focus (repeat' (exact trivial))); refine x_done (by kernel_rfl) (k_bk ?_)))
  all_goals refine jZ (vs := [_, _, _]) rfl ⟨rc_A rfl rfl rfl rfl, rfl, rfl, trivial⟩ rfl ⟨rfl, rfl, ?_⟩
  all_goals (rw [oneOf_three]; exact ⟨n, by rw [e1] at hm; rw [hm, e2]; rfl, hnum⟩)
def OutB (v : V) : Prop := v.out.length + 1 ≤ 2 * v.tot
theorem outB_outs : ∀ {ks : List V}, (∀ v ∈ ks, OutB v) → lensT (V.outs ks) + ks.length ≤ 2 * V.tots ks
 | [], _ => by simp [V.outs, lensT]
 | v :: r, h => by
  have h1 := h v (.head _)
  have h2 := outB_outs fun u hu => h u (.tail _ hu)
  unfold OutB at h1
  simp only [V.outs, lensT, List.map_cons, List.sum_cons, V.tots, List.length_cons] at *
  omega
theorem outB_nd {w : Nat} {x : List UInt8} {t : Int} {ks : List V} (h : ∀ v ∈ ks, OutB v) (ht : t ≤ 999999) : OutB (.nd w x t ks) := by
 have h1 := outB_outs h
 have h2 := joinB_len 44 (V.outs ks)
 rw [outs_len] at h2
 have h4 := outW_len (w := w) (x := x) (e := ks.isEmpty) (j := joinB 44 (V.outs ks)) ht
 have h5 := tots_len ks
 unfold OutB
 rw [V.out, V.tot]
 omega
theorem mem_at {α : Type} [Inhabited α] {l : List α} {x : α} (h : x ∈ l) : ∃ i, i < l.length ∧ nth l i = x := by
 obtain ⟨i, hi, rfl⟩ := List.mem_iff_getElem.1 h
 exact ⟨i, hi, nth_eq hi⟩
theorem refT_W {ts : List Ty} (hw : SchW ts) {k : List UInt8} {t : Ty} (h : refT ts k = some t) {d : Fld} (hd : d ∈ t.fields) : d.tag ≤ 999999 ∧ 0 ≤ d.tag := by
 have := ((hw.ty t (refT_mem h)).fld d hd).tag
 omega
theorem refT_64 {ts : List Ty} {k : List UInt8} {t : Ty} (h : refT ts k = some t) : ∃ r, k = 64 :: r := by
 unfold refT at h
 cases k with
 | nil => cases h
 | cons c r =>
  unfold refN at h
  dsimp only at h
  by_cases h64 : c.toNat = 64
  ·exact ⟨r, by rw [show c = 64 from UInt8.toNat_inj.1 h64]⟩
  ·rw [if_neg h64] at h; cases h
theorem outR {ts : List Ty} (hw : SchW ts) {v : V} {k : List UInt8} {b : Nat} (h : RepR G ts v k b) : OutB v := by
 induction h with
 | leaf w x k tx b h1 h2 => exact outB_nd (by simp) (by decide)
 | lst k b ks bs a c h1 h2 h3 _ ih =>
  exact outB_nd (fun v hv => by obtain ⟨i, hi, rfl⟩ := mem_at hv; exact ih i hi) (by decide)
 | non k b h1 => exact outB_nd (by simp) (by decide)
 | opt k b kb b' cc v h0 h1 h2 _ ih => exact outB_nd (fun u hu => by simp only [List.mem_singleton] at hu; subst hu; exact ih) (by decide)
 | recd k b t fs bs a a2 c c2 h0 h1 h2 h3 h4 h5 _ ih =>
  refine outB_nd (fun v hv => ?_) (by decide)
  obtain ⟨p, hp, rfl⟩ := List.mem_map.1 hv
  obtain ⟨i, hi, rfl⟩ := mem_at hp
  exact outB_nd (fun u hu => by simp only [List.mem_singleton] at hu; subst hu; exact ih i hi) (refT_W hw h0.1 (h5 i hi)).1
 | enm k b tgb t d h0 h1 h2 h3 => exact outB_nd (by simp) (refT_W hw h0.1 h1).1
 | uni k b tgb kb b' cc t d v hcc h0 h1 h2 h3 h4 _ ih => exact outB_nd (fun u hu => by simp only [List.mem_singleton] at hu; subst hu; exact ih) (refT_W hw h0.1 h1).1
theorem joinB_step {c : UInt8} {xs : List (List UInt8)} {i : Nat} (h : i < xs.length) : joinB c (xs.take (i + 1)) = if 0 < i then joinB c (xs.take i) ++ c :: nth xs i else nth xs i := by
 rw [take_nth h]
 by_cases hi : 0 < i
 ·rw [if_pos hi, joinB_snoc]
  rw [ne_eq, List.take_eq_nil_iff]
  rintro (h0 | h0)
  ·omega
  ·subst h0; simp at h
 ·have : i = 0 := by omega
  subst this; rfl
theorem c_outS {ts : List Ty} (hw : SchW ts) {v : V} {k : List UInt8} {b : Nat} (h : RepR G ts v k b) : v.tot ≤ 1000000000000 → PuG Try.prog 20 [Pt b 0] G (· = S v.out) := by
 induction h with
 | leaf w x k tx b h1 h2 =>
  intro _
  rcases h2 with ⟨rfl, rfl, rfl, _⟩ | ⟨rfl, rfl, rfl⟩ | ⟨rfl, rfl, rfl, _⟩
  all_goals
   refine jE [(0, _)] Try.func20 Try.ntmps20 fun B hB => ?_
   repeat' (first | (refine run (t := tb) 400 rfl ?_ ?_; (focus (repeat' (first | exact trivial | apply And.intro | omega | (simp only [List.length_append, List.length_cons, List.length_nil, Int.toNat_natCast]; omega))))) | (refine k_op rfl ?_; (refine jV (g_ldS rfl rfl (by assumption) rfl rfl) ?_)) | (refine k_ff rfl rfl ?_))
   refine jZ (vs := [_]) rfl ⟨rfl, trivial⟩ rfl ⟨rfl, rfl, ?_⟩
   rw [oneOf_one, V.out]; rfl
 | lst k b ks bs a c h1 h2 h3 hk ih =>
  intro ht
  rw [nd_tot] at ht
  have hb := outB_outs (ks := ks) fun v hv => by obtain ⟨i, hi, rfl⟩ := mem_at hv; exact outR hw (hk i hi)
  have hol := outs_len ks
  refine jE [(0, _)] Try.func20 Try.ntmps20 fun B hB => ?_
  repeat' (first | (refine run (t := tb) 400 rfl ?_ ?_; (focus (repeat' (first | exact trivial | apply And.intro | omega | (simp only [List.length_append, List.length_cons, List.length_nil, Int.toNat_natCast]; omega))))) | (refine k_op rfl ?_; (refine jV (g_ldS rfl rfl (by assumption) rfl rfl) ?_)) | (refine k_tt rfl rfl ?_))
  refine k_loop (ι := Nat) (fun i => i ≤ ks.length) (fun i => [(0, Pt b 0), (3, S (91 :: joinB 44 ((V.outs ks).take i))), (4, I i)]) (fun _ => G) (fun i => []) (fun i => ks.length - i) 0 ?_ (by repeat' constructor) rfl sRr (fun i Hi => ?_)
  ·exact Nat.zero_le _
  have hj1 := joinB_len 44 ((V.outs ks).take i)
  have hj2 := lensT_take (V.outs ks) i
  have hj3 : ((V.outs ks).take i).length ≤ ks.length := by rw [List.length_take]; omega
  by_cases hi : i < ks.length
  ·have hti := tot_nth hi
   have cx_out := ih i hi (by omega)
   have hou := outs_get hi
   have hxi : nth bs i = nth bs i := rfl
   have hob := outR hw (hk i hi)
   unfold OutB at hob
   have hst := joinB_step (c := 44) (xs := V.outs ks) (i := i) (by omega)
   rw [hou] at hst
   obtain ⟨kb, ko, kc, e, hs⟩ := h2.expl (by omega)
   simp only [Value.slice.injEq] at e
   obtain ⟨rfl, -, rfl⟩ := e
   by_cases h0 : 0 < i
   ·rw [if_pos h0] at hst
    repeat' (first | (refine run (t := tb) 400 rfl ?_ ?_; (focus (repeat' (first | exact trivial | apply And.intro | omega | (simp only [List.length_append, List.length_cons, List.length_nil, Int.toNat_natCast]; omega))))) | (refine k_op rfl ?_; first | refine jV (g_ldS rfl rfl (by assumption) rfl rfl) ?_ | (refine jV (g_ldR1x rfl rfl (by assumption) ?_ (by assumption) rfl) ?_; (focus ((omega); done))) | refine jV (g_lenL rfl) ?_ | (refine jV (g_iaddrN rfl rfl (by omega)) ?_) | (refine c_rt rfl rfl rfl cx_out rfl ?_)) | (refine k_tt rfl (dTt (by omega)) ?_))
    refine Nx.re (d := 3) (v' := S (91 :: joinB 44 ((V.outs ks).take (i + 1)))) rfl (congrArg (fun l => S l) (by rw [hst]; simp)) ?_
    exact k_rd (i + 1) (by omega) (by omega) (by repeat' constructor) rfl sRr
   ·rw [if_neg h0] at hst
    have hi0 : i = 0 := by omega
    subst hi0
    repeat' (first | (refine run (t := tb) 400 rfl ?_ ?_; (focus (repeat' (first | exact trivial | apply And.intro | omega | (simp only [List.length_append, List.length_cons, List.length_nil, Int.toNat_natCast]; omega))))) | (refine k_op rfl ?_; first | (refine jV (g_ldRFx rfl rfl (by assumption) ?_ (by assumption) rfl rfl) ?_; (focus ((omega); done))) | refine jV (g_ldS rfl rfl (by assumption) rfl rfl) ?_ | refine jV (g_lenL rfl) ?_ | (refine jV (g_iaddrN rfl rfl (by omega)) ?_) | (refine c_rt rfl rfl rfl cx_out rfl ?_)) | (refine k_tt rfl (dTt (by omega)) ?_) | (refine k_ff rfl rfl ?_))
    refine Nx.re (d := 3) (v' := S (91 :: joinB 44 ((V.outs ks).take (0 + 1)))) rfl (congrArg (fun l => S l) (by rw [hst]; rfl)) ?_
    exact k_rd (0 + 1) (by omega) (by omega) (by repeat' constructor) rfl sRr
  ·have hin : i = ks.length := by omega
   subst hin
   repeat' (first | (refine run (t := tb) 400 rfl ?_ ?_; (focus (repeat' (first | exact trivial | apply And.intro | (simp only [List.length_append, List.length_cons, List.length_nil, Int.toNat_natCast]; omega))))) | (refine k_op rfl ?_; first | refine jV (g_ldS rfl rfl (by assumption) rfl rfl) ?_ | refine jV (g_lenL rfl) ?_) | (refine k_ff rfl (dFf (by omega)) ?_))
   refine jZ (vs := [_]) rfl ⟨rfl, trivial⟩ rfl ⟨rfl, rfl, ?_⟩
   rw [oneOf_one, V.out, ← hol, List.take_length]; rfl
 | non k b h1 =>
  intro _
  refine jE [(0, _)] Try.func20 Try.ntmps20 fun B hB => ?_
  repeat' (first | (refine run (t := tb) 400 rfl ?_ ?_; (focus (repeat' (first | exact trivial | apply And.intro | omega | (simp only [List.length_append, List.length_cons, List.length_nil, Int.toNat_natCast]; omega))))) | (refine k_op rfl ?_; first | refine jV (g_ldS rfl rfl (by assumption) rfl rfl) ?_ | refine jV (g_lenL rfl) ?_) | (refine k_tt rfl rfl ?_) | (refine k_ff rfl rfl ?_))
  refine jZ (vs := [_]) rfl ⟨rfl, trivial⟩ rfl ⟨rfl, rfl, ?_⟩
  rfl
 | opt k b kb b' cc v h0 h1 h2 h3 ih =>
  intro ht
  simp only [nd_tot, V.tots] at ht
  have cx_out := ih (by omega)
  have hob := outR hw h3
  unfold OutB at hob
  refine jE [(0, _)] Try.func20 Try.ntmps20 fun B hB => ?_
  repeat' (first | (refine run (t := tb) 400 rfl ?_ ?_; (focus (repeat' (first | exact trivial | apply And.intro | omega | (simp only [List.length_append, List.length_cons, List.length_nil, Int.toNat_natCast]; omega))))) | (refine k_op rfl ?_; first | refine jV (g_ldS rfl rfl (by assumption) rfl rfl) ?_ | refine jV (g_lenL rfl) ?_ | (refine jV (g_iaddr rfl rfl (by omega)) ?_) | (refine c_rt rfl rfl rfl cx_out rfl ?_)) | (refine k_tt rfl rfl ?_) | (refine k_ff rfl rfl ?_))
  refine jZ (vs := [_]) rfl ⟨rfl, trivial⟩ rfl ⟨rfl, rfl, ?_⟩
  rw [oneOf_one, V.out]; rfl
 | recd k b t fs bs a a2 c c2 h0 h1 h2 h3 h4 h5 hk ih =>
  intro ht
  obtain ⟨r, rfl⟩ := refT_64 h0.1
  rw [nd_tot] at ht
  have hB1 : ∀ v ∈ fs.map (fun p : Fld × V => V.nd 61 [] p.1.tag [p.2]), OutB v := fun v hv => by
   obtain ⟨p, hp, rfl⟩ := List.mem_map.1 hv
   obtain ⟨i, hi, rfl⟩ := mem_at hp
   exact outB_nd (fun u hu => by simp only [List.mem_singleton] at hu; subst hu; exact outR hw (hk i hi)) (refT_W hw h0.1 (h5 i hi)).1
  have hb := outB_outs hB1
  have hml : (fs.map (fun p : Fld × V => V.nd 61 [] p.1.tag [p.2])).length = fs.length := by simp
  have hol := outs_len (fs.map (fun p : Fld × V => V.nd 61 [] p.1.tag [p.2]))
  have hnt : ∀ i, i < fs.length → nth (fs.map (fun p : Fld × V => V.nd 61 [] p.1.tag [p.2])) i = V.nd 61 [] (nth fs i).1.tag [(nth fs i).2] := fun i hi => by rw [nth_eq (by simpa using hi), nth_eq hi]; simp
  generalize hKS : fs.map (fun p : Fld × V => V.nd 61 [] p.1.tag [p.2]) = KS at *
  have cx_nmd : PuG Try.prog 35 [Pt b 0] G (· = S (V.out (.nd 82 [] 0 KS))) := by
   refine jE [(0, _)] Try.func35 Try.ntmps35 fun B hB => ?_
   repeat' (first | (refine jR ?_) | (refine k_op rfl ?_; (refine jV (g_ldS rfl rfl (by assumption) rfl rfl) ?_)) | (refine k_ff rfl rfl ?_))
   refine k_loop (ι := Nat) (fun i => i ≤ fs.length) (fun i => [(0, Pt b 0), (3, S (123 :: joinB 44 ((V.outs KS).take i))), (4, I i)]) (fun _ => G) (fun i => []) (fun i => fs.length - i) 0 ?_ (by repeat' constructor) rfl sRr (fun i Hi => ?_)
   ·exact Nat.zero_le _
   have hj1 := joinB_len 44 ((V.outs KS).take i)
   have hj2 := lensT_take (V.outs KS) i
   have hj3 : ((V.outs KS).take i).length ≤ fs.length := by rw [List.length_take]; omega
   by_cases hi : i < fs.length
   ·have hti := tot_nth (ks := KS) (i := i) (by omega)
    rw [hnt i hi] at hti
    simp only [nd_tot, V.tots] at hti
    have cx_out := ih i hi (by omega)
    have hou := outs_get (ks := KS) (i := i) (by omega)
    rw [hnt i hi, out_fld] at hou
    have hxi : nth bs i = nth bs i := rfl
    have htg := refT_W hw h0.1 (h5 i hi)
    have hdl := decI_len6' htg.1
    have hob := outR hw (hk i hi)
    unfold OutB at hob
    have hst := joinB_step (c := 44) (xs := V.outs KS) (i := i) (by omega)
    rw [hou] at hst
    have htn : nth (fs.map fun p : Fld × V => p.1.tag) i = (nth fs i).1.tag := by rw [nth_eq (by simpa using hi), nth_eq hi]; simp
    have htl : (fs.map fun p : Fld × V => p.1.tag).length = fs.length := by simp
    obtain ⟨tgb, to, tc, e, hs1⟩ := h2.expl (by omega)
    simp only [Value.slice.injEq] at e
    obtain ⟨rfl, -, rfl⟩ := e
    obtain ⟨kb, ko, kc, e, hs2⟩ := h3.expl (by omega)
    simp only [Value.slice.injEq] at e
    obtain ⟨rfl, -, rfl⟩ := e
    by_cases hp0 : 0 < i
    ·rw [if_pos hp0] at hst
     repeat' (first | (refine run (t := tb) 400 rfl ?_ ?_; (focus (repeat' (first | exact trivial | apply And.intro | omega | (simp only [List.length_append, List.length_cons, List.length_nil, Int.toNat_natCast]; omega))))) | (refine k_op rfl ?_; first | refine jV (g_ldS rfl rfl (by assumption) rfl rfl) ?_ | refine jV (g_lenL rfl) ?_) | (refine k_tt rfl (dTt (by omega)) ?_) | (refine k_any (s_any (id := 12) _ (fun _ h => h) mixed ?_); refine jT 12 [0, 1, 2, 3, 5, 11, 12, 13, 15] (bts 21 47151) ?_; (refine jG (bts 21 47167) 4 rfl (g_ldS rfl rfl (by assumption) rfl rfl) ?_); (refine jG (bts 21 47231) 6 rfl (g_iaddrN rfl rfl (by omega)) ?_); ((refine jG (bts 21 47359) 7 rfl (g_ldR1x rfl rfl (by assumption) ?_ (by assumption) rfl) ?_; (focus ((omega); done)))); (refine jG (bts 21 63743) 14 rfl (g_ldS rfl rfl (by assumption) rfl rfl) ?_); (refine jG (bts 21 129279) 16 rfl (g_iaddrN rfl rfl (by omega)) ?_); ((refine jG (bts 21 260351) 17 rfl (g_ldR1x rfl rfl (by assumption) ?_ (by assumption) rfl) ?_; (focus ((omega); done)))); refine jA 8 rfl ?_; (refine c_rt rfl rfl rfl (c_l6Dec (by omega)) rfl ?_); refine jS (bts 21 260607) ?_; refine jU 3 [9, 10] (bts 21 262143) ?_ ?_; (focus (repeat' (first | exact trivial | apply And.intro | (simp only [List.length_append, List.length_cons, List.length_nil, Int.toNat_natCast]; omega)))); refine jA 18 rfl ?_; (refine c_rt rfl rfl rfl cx_out rfl ?_); refine jS (bts 21 524287) ?_; refine jU 0 [19, 20] (bts 21 2097151) ?_ ?_; (focus (repeat' (first | exact trivial | apply And.intro | (simp only [List.length_append, List.length_cons, List.length_nil, Int.toNat_natCast]; omega)))); refine x_done (by kernel_rfl) (k_bk ?_)))
     all_goals
      refine Nx.re (d := 3) (v' := S (123 :: joinB 44 ((V.outs KS).take (i + 1)))) rfl (congrArg (fun l => S l) (by rw [hst]; simp)) ?_
      exact k_rd (i + 1) (by omega) (by omega) (by repeat' constructor) rfl sRr
    ·rw [if_neg hp0] at hst
     have hi0 : i = 0 := by omega
     subst hi0
     repeat' (first | refine jM ?_ | (refine k_op rfl ?_; first | refine jV (g_ldS rfl rfl (by assumption) rfl rfl) ?_ | refine jV (g_lenL rfl) ?_) | (refine k_tt rfl (dTt (by omega)) ?_) | (refine k_ff rfl rfl ?_) | (refine k_any (s_any (id := 12) _ (fun _ h => h) mixed ?_); refine jT 12 [0, 1, 2, 3, 5, 11, 12, 13, 15] (bts 21 47151) ?_; (refine jG (bts 21 47167) 4 rfl (g_ldS rfl rfl (by assumption) rfl rfl) ?_); (refine jG (bts 21 47231) 6 rfl (g_iaddrN rfl rfl (by omega)) ?_); ((refine jG (bts 21 47359) 7 rfl (g_ldR1x rfl rfl (by assumption) ?_ (by assumption) rfl) ?_; (focus ((omega); done)))); (refine jG (bts 21 63743) 14 rfl (g_ldS rfl rfl (by assumption) rfl rfl) ?_); (refine jG (bts 21 129279) 16 rfl (g_iaddrN rfl rfl (by omega)) ?_); ((refine jG (bts 21 260351) 17 rfl (g_ldRFx rfl rfl (by assumption) ?_ (by assumption) rfl rfl) ?_; (focus ((omega); done)))); refine jA 8 rfl ?_; (refine c_rt rfl rfl rfl (c_l6Dec (by omega)) rfl ?_); refine jS (bts 21 260607) ?_; refine jU 3 [9, 10] (bts 21 262143) ?_ ?_; (focus (repeat' (first | exact trivial | apply And.intro | (simp only [List.length_append, List.length_cons, List.length_nil, Int.toNat_natCast]; omega)))); refine jA 18 rfl ?_; (refine c_rt rfl rfl rfl cx_out rfl ?_); refine jS (bts 21 524287) ?_; refine jU 0 [19, 20] (bts 21 2097151) ?_ ?_; (focus (repeat' (first | exact trivial | apply And.intro | (simp only [List.length_append, List.length_cons, List.length_nil, Int.toNat_natCast]; omega)))); refine x_done (by kernel_rfl) (k_bk ?_)))
     all_goals
      refine Nx.re (d := 3) (v' := S (123 :: joinB 44 ((V.outs KS).take (0 + 1)))) rfl (congrArg (fun l => S l) (by rw [hst]; simp [joinB])) ?_
      exact k_rd (0 + 1) (by omega) (by omega) (by repeat' constructor) rfl sRr
   ·have hin : i = fs.length := by omega
    repeat' (first | (refine run (t := tb) 400 rfl ?_ ?_; (focus (repeat' (first | exact trivial | apply And.intro | (simp only [List.length_append, List.length_cons, List.length_nil, Int.toNat_natCast]; omega))))) | (refine k_op rfl ?_; first | refine jV (g_ldS rfl rfl (by assumption) rfl rfl) ?_ | refine jV (g_lenL rfl) ?_) | (refine k_ff rfl (dFf (by omega)) ?_))
    refine jZ (vs := [_]) rfl ⟨rfl, trivial⟩ rfl ⟨rfl, rfl, ?_⟩
    rw [oneOf_one, V.out, hin, ← hml, ← hol, List.take_length]; rfl
  refine jE [(0, _)] Try.func20 Try.ntmps20 fun B hB => ?_
  repeat' (first | (refine run (t := tb) 400 rfl ?_ ?_; (focus (repeat' (first | exact trivial | apply And.intro | omega | (simp only [List.length_append, List.length_cons, List.length_nil, Int.toNat_natCast]; omega))))) | (refine k_op rfl ?_; first | refine jV (g_ldS rfl rfl (by assumption) rfl rfl) ?_ | (refine c_rt rfl rfl rfl cx_nmd rfl ?_)) | (refine k_tt rfl rfl ?_) | (refine k_ff rfl rfl ?_))
  refine jZ (vs := [_]) rfl ⟨rfl, trivial⟩ rfl ⟨rfl, rfl, ?_⟩
  rfl
 | enm k b tgb t d h0 h1 h2 h3 =>
  intro _
  obtain ⟨r, rfl⟩ := refT_64 h0.1
  have htg := refT_W hw h0.1 h1
  have hdl := decI_len6' htg.1
  have cx_nmd : PuG Try.prog 35 [Pt b 0] G (· = S (V.out (.nd 69 [] d.tag []))) := by
   refine jE [(0, _)] Try.func35 Try.ntmps35 fun B hB => ?_
   repeat' (first | (refine run (t := tb) 400 rfl ?_ ?_; (focus (repeat' (first | exact trivial | apply And.intro | (simp only [List.length_append, List.length_cons, List.length_nil, Int.toNat_natCast]; omega))))) | (refine k_op rfl ?_; first | refine jV (g_ldS rfl rfl (by assumption) rfl rfl) ?_ | (refine jV (g_iaddr rfl rfl (by omega)) ?_) | (refine c_rt rfl rfl rfl (c_l6Dec (by omega)) rfl ?_)) | (refine k_tt rfl rfl ?_) | (refine k_ff rfl rfl ?_))
   refine jZ (vs := [_]) rfl ⟨rfl, trivial⟩ rfl ⟨rfl, rfl, ?_⟩
   rw [oneOf_one, V.out]; rfl
  refine jE [(0, _)] Try.func20 Try.ntmps20 fun B hB => ?_
  repeat' (first | (refine run (t := tb) 400 rfl ?_ ?_; (focus (repeat' (first | exact trivial | apply And.intro | omega | (simp only [List.length_append, List.length_cons, List.length_nil, Int.toNat_natCast]; omega))))) | (refine k_op rfl ?_; first | refine jV (g_ldS rfl rfl (by assumption) rfl rfl) ?_ | (refine c_rt rfl rfl rfl cx_nmd rfl ?_)) | (refine k_tt rfl rfl ?_) | (refine k_ff rfl rfl ?_))
  refine jZ (vs := [_]) rfl ⟨rfl, trivial⟩ rfl ⟨rfl, rfl, ?_⟩
  rfl
 | uni k b tgb kb b' cc t d v hcc h0 h1 h2 h3 h4 hk ih =>
  intro ht
  obtain ⟨r, rfl⟩ := refT_64 h0.1
  have htg := refT_W hw h0.1 h1
  have hdl := decI_len6' htg.1
  simp only [nd_tot, V.tots] at ht
  have cx_out := ih (by omega)
  have hob := outR hw hk
  unfold OutB at hob
  have cx_nmd : PuG Try.prog 35 [Pt b 0] G (· = S (V.out (.nd 85 [] d.tag [v]))) := by
   refine jE [(0, _)] Try.func35 Try.ntmps35 fun B hB => ?_
   repeat' (first | (refine jR ?_) | (refine k_op rfl ?_; (refine jV (g_ldS rfl rfl (by assumption) rfl rfl) ?_)) | (refine k_tt rfl rfl ?_) | (refine k_any (s_any (id := 3) _ (fun _ h => h) mixed ?_); refine jT 13 [0, 1, 2, 9, 10, 11] (bts 19 3591) ?_; (refine jG (bts 19 3599) 3 rfl (g_ldS rfl rfl (by assumption) rfl rfl) ?_); (refine jG (bts 19 3615) 4 rfl (g_iaddr rfl rfl (by omega)) ?_); (refine jG (bts 19 3647) 5 rfl (g_ldS rfl rfl (by assumption) rfl rfl) ?_); (refine jG (bts 19 7743) 12 rfl (g_ldS rfl rfl (by assumption) rfl rfl) ?_); (refine jG (bts 19 15935) 13 rfl (g_iaddr rfl rfl (by omega)) ?_); (refine jG (bts 19 32319) 14 rfl (g_ldS rfl rfl (by assumption) rfl rfl) ?_); refine jA 6 rfl ?_; (refine c_rt rfl rfl rfl (c_l6Dec (by omega)) rfl ?_); refine jS (bts 19 32383) ?_; refine jU 4 [7, 8] (bts 19 32767) ?_ ?_; (focus (repeat' (first | exact trivial | apply And.intro | (simp only [List.length_append, List.length_cons, List.length_nil, Int.toNat_natCast]; omega)))); refine jA 15 rfl ?_; (refine c_rt rfl rfl rfl cx_out rfl ?_); refine jS (bts 19 65535) ?_; refine jU 0 [16, 17, 18] (bts 19 524287) ?_ ?_; (focus (repeat' (first | exact trivial | apply And.intro | (simp only [List.length_append, List.length_cons, List.length_nil, Int.toNat_natCast]; omega)))); refine x_done (by kernel_rfl) (k_bk ?_)))
   all_goals refine jZ (vs := [_]) rfl ⟨rfl, trivial⟩ rfl ⟨rfl, rfl, ?_⟩
   all_goals (rw [oneOf_one, V.out]; simp [V.outs, outW, joinB])
  clear cx_out
  refine jE [(0, _)] Try.func20 Try.ntmps20 fun B hB => ?_
  repeat' (first | (refine run (t := tb) 400 rfl ?_ ?_; (focus (repeat' (first | exact trivial | apply And.intro | omega | (simp only [List.length_append, List.length_cons, List.length_nil, Int.toNat_natCast]; omega))))) | (refine k_op rfl ?_; first | refine jV (g_ldS rfl rfl (by assumption) rfl rfl) ?_ | (refine c_rt rfl rfl rfl cx_nmd rfl ?_)) | (refine k_tt rfl rfl ?_) | (refine k_ff rfl rfl ?_))
  refine jZ (vs := [_]) rfl ⟨rfl, trivial⟩ rfl ⟨rfl, rfl, ?_⟩
  rfl
end Go.E
namespace Go.E
set_option maxRecDepth 20000
set_option maxHeartbeats 2000000
open Go.Proofs
variable {G : Gh}
abbrev tPtr : TypeId := 47
abbrev tRd : TypeId := 73
def ReadC (n : Nat) (u : Value) (vs : List TyX) : Prop := ∀ (G : Gh) (k s : List UInt8), SchR G u vs → kindIn (tys vs) k = true → s.length ≤ 2000000 →
 FnS Try.prog 36 [Ag [u], S s, S k, I (n : Nat)] G (ReadP (tys vs) (rd (tys vs) n k s) k)
theorem c_listS {n : Nat} {u : Value} {vs : List TyX} {k s : List UInt8} (hR : ReadC n u vs) (h : SchR G u vs) (hk : kindIn (tys vs) k = true) (hs : s.length ≤ 2000000) (hn : n ≤ 1000) :
  FnS Try.prog 51 [Ag [u], S s, S (91 :: k), I (n + 1 : Nat)] G (ReadP (tys vs) (rdList (rd (tys vs) n k) (91 :: s)) (91 :: k)) := by
 have edn : ((n + 1 : Nat) : Int) - 1 = (n : Nat) := by omega
 by_cases h93 : ∃ s2, s = 93 :: s2
 ·obtain ⟨s2, rfl⟩ := h93
  refine jB [(0, _), (1, _), (2, _), (3, _)] Try.func51 Try.ntmps51 fun B hok hB hW => ?_
  repeat' (first | (refine run (t := tb) 400 rfl ?_ ?_; (focus (repeat' (first | exact trivial | apply And.intro | omega | (simp only [List.length_append, List.length_cons, List.length_nil, Int.toNat_natCast]; omega))))) | (refine k_op rfl ?_; first | refine c_bx rfl rfl rfl fun _ => ?_ | refine jV (g_bld rfl rfl) ?_ | (refine jV (g_pickT rfl rfl rfl) ?_)) | (refine k_gt rfl rfl rfl ?_) | (refine k_tt rfl rfl ?_) | (refine k_any (s_any (id := 3) _ (fun _ h => h) mixed ?_); refine jU 0 [0, 1, 2, 3, 4, 5] (bts 6 63) ?_ ?_; (focus (repeat' (first | exact trivial | apply And.intro | omega | (simp only [List.length_append, List.length_cons, List.length_nil, Int.toNat_natCast]; omega)))); refine x_done (by kernel_rfl) (k_bk ?_)))
  rename_i x4 x11
  refine Nx.sealC (b := x11) fun G2 hG2 hsy => ?_
  refine jZ (vs := [_, _, _]) rfl ⟨rfl, rfl, rfl, trivial⟩ rfl ⟨hG2, rfl, ?_⟩
  rw [oneOf_three]
  exact ⟨_, _, _, rfl, fun _ => ⟨.nd 91 [] 0 [], x11, rfl, rfl, .lst k x11 [] [] none 0 hsy ⟨rfl, .inl ⟨rfl, rfl⟩⟩ rfl (fun i hi => absurd hi (by simp))⟩, fun h => (by cases h)⟩
 have hRl : rdList (rd (tys vs) n k) (91 :: s) = (rdItems (rd (tys vs) n k) 20 s []).map fun x => (.nd 91 [] 0 x.1, x.2) := by
  unfold rdList
  dsimp only
  rw [if_pos (show (91 : UInt8).toNat = 91 from rfl)]
  cases s with
  | nil =>
   have : rd (tys vs) n k [] = none := by
    cases h : rd (tys vs) n k [] with
    | none => rfl
    | some x => have := rd_short h; simp at this
   simp [rdItems, this]
  | cons e r' =>
   dsimp only
   rw [if_neg]
   intro h; exact h93 ⟨r', by rw [show e = 93 from UInt8.toNat_inj.1 h]⟩
 have hs0 : s = [] ∨ s ≠ [] ∧ ¬ ((bt s (Int.toNat 0) : Nat) : Int) = 93 := by
  cases s with
  | nil => exact .inl rfl
  | cons e r' =>
   refine .inr ⟨by simp, fun h => h93 ⟨r', ?_⟩⟩
   have : bt (e :: r') (Int.toNat 0) = e.toNat := bt_zero e r'
   rw [show e = 93 from UInt8.toNat_inj.1 (show e.toNat = 93 by omega)]
 have hkl : k.length ≤ 1000 := by
  have := (kindOk_kOk (kindIn_ok hk)).2
  omega
 have hslen : s = [] ∨ 0 < s.length := by cases s <;> simp
 rcases hs0 with hs0 | ⟨hs0, hs1⟩
 all_goals
  have hslen2 : s ≠ [] → 0 < s.length := fun h => by rcases hslen with h' | h'; exact absurd h' h; exact h'
  try have hslen3 := hslen2 hs0
  refine jB [(0, _), (1, _), (2, _), (3, _)] Try.func51 Try.ntmps51 fun B hok hB hW => ?_
  repeat' (first | refine jM ?_ | (refine k_op rfl ?_; first | refine c_bx rfl rfl rfl fun _ => ?_ | refine jV (g_bld rfl rfl) ?_ | (refine jV (g_pickT rfl rfl rfl) ?_) | (refine jV (g_pickF rfl rfl rfl) ?_)) | (refine k_gt rfl rfl (dTt ‹_›) ?_) | (refine k_gf rfl rfl ?_ ?_; (focus ((simp [*]; done); done))) | (refine k_ff rfl (by first | rfl | (refine decide_eq_false ?_; (assumption))) ?_))
  rename_i x4 x11
  refine Nx.addNil tPtr 1 ?_
  refine k_loop (ι := List V × List Nat × Option Addr × Nat × List UInt8 × Gh) (fun q => ((q.2.1.length = q.1.length ∧ ∀ i, i < q.1.length → RepR q.2.2.2.2.2 (tys vs) (nth q.1 i) k (nth q.2.1 i)) ∧ Gh.le G q.2.2.2.2.2) ∧ rdItems (rd (tys vs) n k) 20 s [] = rdItems (rd (tys vs) n k) (20 - q.1.length) q.2.2.2.2.1 q.1 ∧ q.1.length ≤ 20 ∧ q.2.2.2.2.1.length ≤ s.length) (fun q => [(1, S q.2.2.2.2.1), (2, S (91 :: k)), (3, I (n + 1 : Nat)), (4, Pt x4 0), (11, Pt x11 0)]) (fun q => q.2.2.2.2.2) (fun q => [.acc (.slice q.2.2.1 q.1.length q.2.2.2.1) tPtr 1 q.1.length (rows ptR q.2.1), .blk x11 (.cells (List.toArray [S (91 :: k), S [], nilS, .slice q.2.2.1 q.1.length q.2.2.2.1]) tLv (0, 0)), .blk x4 (.cells (List.toArray [u]) tRd (0, 0))]) (fun q => 20 - q.1.length) ([], [], none, 0, s, G) ?_ (by repeat' constructor) rfl sRr (fun q Hq => ?_)
  ·exact ⟨⟨⟨rfl, fun i hi => absurd hi (by simp)⟩, Gh.le.refl _⟩, rfl, Nat.zero_le _, Nat.le_refl _⟩
  obtain ⟨ws, bs, a, cap, t, Gq⟩ := q
  dsimp only at Hq ⊢
  obtain ⟨⟨⟨hbl, hreps⟩, hgq⟩, hit, hwl, htl⟩ := Hq
  by_cases h20 : ws.length < 20
  case neg =>
   have e20 : 20 - ws.length = 0 := by omega
   repeat' (first | (refine jR ?_) | (refine k_op rfl ?_; first | refine jV (g_ld rfl rfl rfl) ?_ | refine jV (g_lenL rfl) ?_) | (refine k_ff rfl (dFf (by omega)) ?_))
   refine jZ (vs := [_, _, _]) rfl ⟨rfl, rfl, rfl, trivial⟩ rfl ⟨hgq, rfl, ?_⟩
   rw [oneOf_three]
   exact ⟨_, _, _, rfl, fun h => (by cases h), fun _ => by rw [hRl, hit, e20]; rfl⟩
  have cx_rd := hR Gq k t (h.mono hgq) hk (by omega)
  rw [← edn] at cx_rd
  repeat' (first | (refine jR ?_) | (refine k_op rfl ?_; first | refine jV (g_ld rfl rfl rfl) ?_ | refine jV (g_lenL rfl) ?_) | (refine k_tt rfl (dTt (by omega)) ?_))
  (refine k_any (s_any (id := 5) _ (fun _ h => h) mixed ?_); refine jU 9 [1, 2, 3, 4, 5] (bts 14 62) ?_ ?_; (focus (repeat' (first | exact trivial | apply And.intro | omega | (simp only [List.length_append, List.length_cons, List.length_nil, Int.toNat_natCast]; omega)))); (refine jG (bts 14 63) 0 rfl (g_ldA rfl rfl rfl rfl) ?_); refine jA 6 rfl ?_; (refine c_fns rfl rfl rfl cx_rd rfl ?_; rintro _ G hle ⟨q1, r1, ok1, rfl, hyes, hno⟩; skip); refine jS (bts 14 127) ?_; refine jT 0 [7, 8, 9, 10, 11, 12, 13] (bts 14 16383) ?_; refine x_done (by kernel_rfl) (k_bk ?_))
  have hgl := hgq.trans hle
  cases ok1 with
  | false =>
   have hnone : rdItems (rd (tys vs) n k) (20 - ws.length) t ws = none := items_none (.inl (hno rfl))
   repeat' (first | (refine jR ?_) | (refine k_op rfl ?_; (refine jV (g_pickT rfl rfl rfl) ?_)) | (refine k_gt rfl rfl rfl ?_) | (refine k_tt rfl rfl ?_))
   refine jZ (vs := [_, _, _]) rfl ⟨rfl, rfl, rfl, trivial⟩ rfl ⟨hgl, rfl, ?_⟩
   rw [oneOf_three]
   exact ⟨_, _, _, rfl, fun h => (by cases h), fun _ => by rw [hRl, hit, hnone]; rfl⟩
  | true =>
   obtain ⟨w, wb, rfl, hf, hrep⟩ := hyes rfl
   have hsh := rd_short hf
   cases r1 with
   | nil =>
    have hnone : rdItems (rd (tys vs) n k) (20 - ws.length) t ws = none := items_none (.inr ⟨w, hf⟩)
    repeat' (first | (refine jR ?_) | (refine k_op rfl ?_; first | (refine jV (g_pickT rfl rfl rfl) ?_) | (refine jV (g_pickF rfl rfl rfl) ?_)) | (refine k_gt rfl rfl rfl ?_) | (refine k_gf rfl rfl rfl ?_) | (refine k_tt rfl rfl ?_))
    refine jZ (vs := [_, _, _]) rfl ⟨rfl, rfl, rfl, trivial⟩ rfl ⟨hgl, rfl, ?_⟩
    rw [oneOf_three]
    exact ⟨_, _, _, rfl, fun h => (by cases h), fun _ => by rw [hRl, hit, hnone]; rfl⟩
   | cons e r2 =>
    have hstep := items_step (vs := ws) hf (show 0 < 20 - ws.length by omega)
    have he0 : bt (e :: r2) (Int.toNat 0) = e.toNat := bt_zero e r2
    simp only [List.length_cons] at hsh
    have hel : (e :: r2).length = r2.length + 1 := rfl
    have hrow : rows ptR bs ++ [Pt wb 0] = rows ptR (bs ++ [wb]) := (rows_snoc ptR bs wb).symm
    have hwl1 : (ws ++ [w]).length = ws.length + 1 := by simp
    have hbl1 : (bs ++ [wb]).length = (ws ++ [w]).length := by simp [hbl]
    have hrp : ∀ i, i < (ws ++ [w]).length → RepR G (tys vs) (nth (ws ++ [w]) i) k (nth (bs ++ [wb]) i) := fun i hi => by
     by_cases h1 : i < ws.length
     ·have e1 : nth (ws ++ [w]) i = nth ws i := by rw [nth_eq hi, nth_eq h1, List.getElem_append_left h1]
      have e2 : nth (bs ++ [wb]) i = nth bs i := by rw [nth_eq (by omega), nth_eq (by omega), List.getElem_append_left (by omega)]
      rw [e1, e2]; exact (hreps i h1).mono hle
     ·have h2 : i = ws.length := by omega
      have e1 : nth (ws ++ [w]) i = w := by rw [nth_eq hi]; simp [h2]
      have e2 : nth (bs ++ [wb]) i = wb := by rw [nth_eq (by omega)]; simp [h2, hbl]
      rw [e1, e2]; exact hrep
    by_cases h44 : e.toNat = 44
    ·rw [if_pos h44] at hstep
     have hn93 : ¬ e.toNat = 93 := by omega
     repeat' (first | refine jM ?_ | (refine k_op rfl ?_; first | (refine jV (g_pickF rfl rfl rfl) ?_) | refine jV (g_ld rfl rfl rfl) ?_ | refine c_bsl rfl rfl rfl rfl rfl rfl fun _ => ?_ | (refine c_apX rfl rfl rfl rfl rfl rfl rfl rfl rfl (by omega) fun _ _ => ?_) | refine c_st1 rfl rfl rfl rfl ?_) | (refine k_gf rfl rfl (by first | rfl | (refine decide_eq_false ?_; (omega))) ?_) | (refine k_ff rfl (by first | rfl | (refine decide_eq_false ?_; (omega))) ?_))
     rename_i y0 y1 yc
     rw [hrow]
     exact k_rd (ws ++ [w], bs ++ [wb], some ⟨y1, 0, none⟩, yc, r2, G) ⟨⟨⟨hbl1, hrp⟩, hgl⟩, (by dsimp only; rw [hit, hstep, hwl1, Nat.sub_sub]), (by dsimp only; omega), (by dsimp only; omega)⟩ (by dsimp only; omega) (by repeat' constructor) rfl (by rw [hwl1]; repeat (first | exact List.Sublist.refl _ | apply List.Sublist.cons_cons | apply List.Sublist.cons))
    ·rw [if_neg h44] at hstep
     by_cases h93' : e.toNat = 93
     ·rw [if_pos h93'] at hstep
      repeat' (first | refine jM ?_ | (refine k_op rfl ?_; first | (refine jV (g_pickT rfl rfl rfl) ?_) | (refine jV (g_pickF rfl rfl rfl) ?_) | refine jV (g_ld rfl rfl rfl) ?_ | refine c_bsl rfl rfl rfl rfl rfl rfl fun _ => ?_ | (refine c_apX rfl rfl rfl rfl rfl rfl rfl rfl rfl (by omega) fun _ _ => ?_) | refine c_st1 rfl rfl rfl rfl ?_) | (refine k_gt rfl rfl (dTt (by omega)) ?_) | (refine k_gf rfl rfl rfl ?_) | (refine k_tt rfl (dTt (by omega)) ?_) | (refine k_ff rfl (dFf (by omega)) ?_))
      rename_i y0 y1 yc
      rw [hrow]
      refine Nx.sealS (v := .slice (some ⟨y1, 0, none⟩) (ws.length + 1) yc) fun G2 hG2 hsl => ?_
      refine Nx.sealC (b := x11) fun G3 hG3 hsg => ?_
      refine jZ (vs := [_, _, _]) rfl ⟨rfl, rfl, rfl, trivial⟩ rfl ⟨((hgl.trans hG2).trans hG3), rfl, ?_⟩
      rw [oneOf_three]
      exact ⟨_, _, _, rfl, fun _ => ⟨.nd 91 [] 0 (ws ++ [w]), x11, rfl, by rw [hRl, hit, hstep]; rfl, .lst k x11 _ (bs ++ [wb]) (some ⟨y1, 0, none⟩) yc (by rw [hwl1]; exact hsg) (by rw [hwl1]; exact hsl.mono hG3) hbl1 (fun i hi => (hrp i hi).mono (hG2.trans hG3))⟩, fun h => (by cases h)⟩
     ·rw [if_neg h93'] at hstep
      repeat' (first | refine jM ?_ | (refine k_op rfl ?_; first | (refine jV (g_pickT rfl rfl rfl) ?_) | (refine jV (g_pickF rfl rfl rfl) ?_)) | (refine k_gt rfl rfl (dTt (by omega)) ?_) | (refine k_gf rfl rfl rfl ?_) | (refine k_tt rfl (dTt (by omega)) ?_))
      refine jZ (vs := [_, _, _]) rfl ⟨rfl, rfl, rfl, trivial⟩ rfl ⟨hgl, rfl, ?_⟩
      rw [oneOf_three]
      exact ⟨_, _, _, rfl, fun h => (by cases h), fun _ => by rw [hRl, hit, hstep]; rfl⟩
section
variable {P : Program} {n : Nat} {D : List Deferred} {E : Env} {M : World → Prop} {d : Option Nat} {ty : TypeId} {pos : String} {aft : Array Edge} {gd : Option (Nat × Bool)}
theorem g_ldB1 {T T0 : TypeId} {x : Operand} {desc : TypeDesc} {size bytes b m cap i : Nat} {zero : Value} {G0 : Gh} {L0 : List Own} {cs : List Int} {xs : List Value} {y : Int} [TI P T desc size bytes zero] [Kn M G0 L0] [h : AccB L0 b m cap T0 1 xs] (hx : ev E x = some (Pt b (0 + i * 1))) (ha : aggD desc = false) (hxs : xs = rows inR cs) (hi : i < cs.length) (hy : nth cs i = y) :
  Gives P n D E M ⟨d, .load T x, ty, pos, aft, gd⟩ (I y) := g_load hx ha (by
 have := (cells_acc (S := M) h.mem).go (i * 1 + 0) (I y) (by rw [hxs, rows_get hi (by omega), hy]; rfl)
 simpa using this)
end
def lastT (fs : List (Fld × V)) : Int := match fs.getLast? with
 | some p => p.1.tag
 | none => 0
def nd61 (fs : List (Fld × V)) : List V := fs.map fun p => .nd 61 [] p.1.tag [p.2]
theorem lastT_snoc (fs : List (Fld × V)) (p : Fld × V) : lastT (fs ++ [p]) = p.1.tag := by simp [lastT]
abbrev tPtr2 : TypeId := 47
abbrev tInt2 : TypeId := 3
abbrev tFd : TypeId := 87
abbrev tTyB : TypeId := 64
theorem c_recordS {n : Nat} {u : Value} {vs : List TyX} {x : TyX} {k s : List UInt8} (hR : ReadC n u vs) (h : SchR G u vs) (hw : SchW (tys vs)) (hx : x ∈ vs) (hrf : refT (tys vs) k = some x.2) (hso : x.2.sort = 82) (hs : s.length ≤ 2000000) (hn : n ≤ 1000) (hkl : k.length ≤ 1000) :
  FnS Try.prog 63 [Ag [u], S s, S k, Ag (tyF x), I (n + 1 : Nat)] G (ReadP (tys vs) (rdTyped (tys vs) (rd (tys vs) n) x.2 (123 :: s)) k) := by
 have edn : ((n + 1 : Nat) : Int) - 1 = (n : Nat) := by omega
 have hxt : x.2 ∈ tys vs := List.mem_map_of_mem hx
 have hTW := hw.ty _ hxt
 have hfl := hTW.len
 by_cases h125 : ∃ s2, s = 125 :: s2
 ·obtain ⟨s2, rfl⟩ := h125
  have hgood : rdTyped (tys vs) (rd (tys vs) n) x.2 (123 :: 125 :: s2) = some (.nd 82 [] 0 [], s2) := by
   unfold rdTyped
   dsimp only
   rw [if_pos hso, if_pos (show (123 : UInt8).toNat = 123 from rfl), if_pos (show (125 : UInt8).toNat = 125 from rfl)]
  refine jB [(0, _), (1, _), (2, _), (3, _), (4, _)] Try.func63 Try.ntmps63 fun B hok hB hW => ?_
  repeat' (first | (refine run (t := tb) 400 rfl ?_ ?_; (focus (repeat' (first | exact trivial | apply And.intro | omega | (simp only [List.length_append, List.length_cons, List.length_nil, Int.toNat_natCast]; omega))))) | (refine k_op rfl ?_; first | refine c_bx rfl rfl rfl fun _ => ?_ | refine jV (g_bld rfl rfl) ?_ | (refine jV (g_pickT rfl rfl rfl) ?_)) | (refine k_gt rfl rfl rfl ?_) | (refine k_tt rfl rfl ?_) | (refine k_any (s_any (id := 3) _ (fun _ h => h) mixed ?_); refine jU 0 [0, 1, 2, 3, 4, 5] (bts 6 63) ?_ ?_; (focus (repeat' (first | exact trivial | apply And.intro | omega | (simp only [List.length_append, List.length_cons, List.length_nil, Int.toNat_natCast]; omega)))); refine x_done (by kernel_rfl) (k_bk ?_)))
  rename_i x5 x8 x13
  refine Nx.sealC (b := x13) fun G2 hG2 hsy => ?_
  refine jZ (vs := [_, _, _]) rfl ⟨rfl, rfl, rfl, trivial⟩ rfl ⟨hG2, rfl, ?_⟩
  rw [oneOf_three]
  exact ⟨_, _, _, rfl, fun _ => ⟨.nd 82 [] 0 [], x13, rfl, hgood, .recd k x13 x.2 [] [] none none 0 0 ⟨hrf, hso⟩ hsy ⟨rfl, .inl ⟨rfl, rfl⟩⟩ ⟨rfl, .inl ⟨rfl, rfl⟩⟩ rfl (fun i hi => absurd hi (by simp)) (fun i hi => absurd hi (by simp))⟩, fun h => (by cases h)⟩
 have hRl : rdTyped (tys vs) (rd (tys vs) n) x.2 (123 :: s) = (rdFlds (tys vs) (rd (tys vs) n) x.2 (s.length + 1) 0 s []).map fun x => (.nd 82 [] 0 x.1, x.2) := by
  unfold rdTyped
  dsimp only
  rw [if_pos hso, if_pos (show (123 : UInt8).toNat = 123 from rfl)]
  cases s with
  | nil => rw [flds_none rdField_nil]; rfl
  | cons e r' =>
   dsimp only
   rw [if_neg]
   intro h; exact h125 ⟨r', by rw [show e = 125 from UInt8.toNat_inj.1 h]⟩
 have hs0 : s = [] ∨ s ≠ [] ∧ ¬ ((bt s (Int.toNat 0) : Nat) : Int) = 125 := by
  cases s with
  | nil => exact .inl rfl
  | cons e r' =>
   refine .inr ⟨by simp, fun h => h125 ⟨r', ?_⟩⟩
   have : bt (e :: r') (Int.toNat 0) = e.toNat := bt_zero e r'
   rw [show e = 125 from UInt8.toNat_inj.1 (show e.toNat = 125 by omega)]
 have hslen : s = [] ∨ 0 < s.length := by cases s <;> simp
 rcases hs0 with hs0 | ⟨hs0, hs1⟩
 ·subst hs0
  have cx_tg := c_tag (G := G) (u := u) (x := x) (s := []) (by simp) h.sl.one (h.fl x hx) (by omega)
  have e0 : numOf (([] : List UInt8).takeWhile isDg) 200 = none := by
   cases h : numOf (([] : List UInt8).takeWhile isDg) 200 with
   | none => rfl
   | some m =>
    have := (numOf_le h).2.1
    have h2 := decI_pos m
    rw [← this] at h2; simp at h2
  rw [e0] at cx_tg
  refine jB [(0, _), (1, _), (2, _), (3, _), (4, _)] Try.func63 Try.ntmps63 fun B hok hB hW => ?_
  repeat' (first | (refine jR ?_) | (refine k_op rfl ?_; first | refine c_bx rfl rfl rfl fun _ => ?_ | refine jV (g_bld rfl rfl) ?_ | (refine jV (g_pickF rfl rfl rfl) ?_)) | (refine k_gf rfl rfl rfl ?_) | (refine k_ff rfl rfl ?_))
  rename_i x5 x8 x13
  refine k_loop (ι := Unit) (fun i => True) (fun i => [(1, S []), (2, S k), (4, I (n + 1 : Nat)), (5, Pt x5 0), (8, Pt x8 0), (13, Pt x13 0)]) (fun _ => G) (fun i => [.blk x13 (.cells (List.toArray [S k, S [82], nilS, nilS]) tLv (0, 0)), .blk x8 (.cells (List.toArray [U8 x.2.sort, S x.2.name, slX x]) tTyB (0, 0)), .blk x5 (.cells (List.toArray [u]) tRd (0, 0))]) (fun i => 0) () ?_ (by repeat' constructor) rfl sRr (fun i Hi => ?_)
  ·trivial
  repeat' (first | (refine jR ?_) | (refine k_op rfl ?_; first | refine jV (g_ldA rfl rfl rfl rfl) ?_ | refine c_al rfl rfl fun _ => ?_ | refine c_stA rfl rfl rfl rfl rfl rfl ?_ | (refine c_pu rfl rfl rfl cx_tg rfl ?_; rintro _ ⟨nt, rfl, hnt⟩)) | (refine k_tt rfl rfl ?_) | (refine k_any (s_any (id := 5) _ (fun _ h => h) mixed ?_); refine jT 33 [0, 1, 2] (bts 36 7) ?_; (try (refine Nx.re (d := 43) (v' := Bo true) rfl (congrArg Value.bool rfl) ?_)); refine jT 31 [3, 4] (bts 36 31) ?_; (refine jG (bts 36 63) 5 rfl (g_pickT rfl rfl rfl) ?_); refine jT 29 [6] (bts 36 127) ?_; (try (refine Nx.re (d := 47) (v' := Bo true) rfl (congrArg Value.bool rfl) ?_)); refine jT 26 [7, 8, 9] (bts 36 1023) ?_; (refine jG (bts 36 2047) 10 rfl (g_pickT rfl rfl rfl) ?_); refine jT 24 [11] (bts 36 4095) ?_; (try (refine Nx.re (d := 52) (v' := Bo true) rfl (congrArg Value.bool rfl) ?_)); refine jT 21 [12, 13, 14] (bts 36 32767) ?_; (refine jN (bts 36 65535) 15 rfl ?_); (refine jN (bts 36 131071) 16 rfl ?_); refine jT 17 [17, 18] (bts 36 524287) ?_; (try (fail)); refine jT 10 [19, 20, 21, 23, 24, 25, 31] (bts 36 2210398207) ?_; (refine jN (bts 36 2214592511) 22 rfl ?_); (refine jN (bts 36 2281701375) 26 rfl ?_); (refine jN (bts 36 2415919103) 27 rfl ?_); refine jT 6 [28] (bts 36 2684354559) ?_; (refine jN (bts 36 3221225471) 29 rfl ?_); (refine jN (bts 36 4294967295) 30 rfl ?_); (refine jN (bts 36 8589934591) 32 rfl ?_); refine jT 2 [33] (bts 36 17179869183) ?_; (refine jN (bts 36 34359738367) 34 rfl ?_); (refine jG (bts 36 68719476735) 35 rfl (g_pickT rfl rfl rfl) ?_); refine x_done (by kernel_rfl) (k_bk ?_)))
  all_goals refine jZ (vs := [_, _, _]) rfl ⟨rfl, rfl, rfl, trivial⟩ rfl ⟨Gh.le.refl _, rfl, ?_⟩
  all_goals (rw [oneOf_three]; exact ⟨_, _, _, rfl, fun h => (by cases h), fun _ => by rw [hRl, flds_none rdField_nil]; rfl⟩)
 ·have hslen3 : 0 < s.length := List.length_pos_iff.2 hs0
  refine jB [(0, _), (1, _), (2, _), (3, _), (4, _)] Try.func63 Try.ntmps63 fun B hok hB hW => ?_
  repeat' (first | refine jM ?_ | (refine k_op rfl ?_; first | refine c_bx rfl rfl rfl fun _ => ?_ | refine jV (g_bld rfl rfl) ?_ | (refine jV (g_pickT rfl rfl rfl) ?_)) | (refine k_gt rfl rfl (dTt ‹_›) ?_) | (refine k_ff rfl (dFf ‹_›) ?_))
  rename_i x5 x8 x13
  refine Nx.addNil tInt2 1 (Nx.addNil tPtr2 1 ?_)
  refine k_loop (ι := List (Fld × V) × List Nat × Option Addr × Nat × Option Addr × Nat × List UInt8 × Nat × Gh) (fun q => ((q.2.1.length = q.1.length ∧ (∀ i, i < q.1.length → (nth q.1 i).1 ∈ x.2.fields) ∧ ∀ i, i < q.1.length → RepR q.2.2.2.2.2.2.2.2 (tys vs) (nth q.1 i).2 (nth q.1 i).1.kind (nth q.2.1 i)) ∧ Gh.le G q.2.2.2.2.2.2.2.2) ∧ (rdFlds (tys vs) (rd (tys vs) n) x.2 (s.length + 1) 0 s [] = rdFlds (tys vs) (rd (tys vs) n) x.2 q.2.2.2.2.2.2.2.1 (lastT q.1) q.2.2.2.2.2.2.1 (nd61 q.1) ∧ q.2.2.2.2.2.2.1.length < q.2.2.2.2.2.2.2.1) ∧ q.2.2.2.2.2.2.1.length ≤ s.length ∧ q.1.length + q.2.2.2.2.2.2.1.length ≤ s.length) (fun q => [(1, S q.2.2.2.2.2.2.1), (2, S k), (4, I (n + 1 : Nat)), (5, Pt x5 0), (8, Pt x8 0), (13, Pt x13 0)]) (fun q => q.2.2.2.2.2.2.2.2) (fun q => [.acc (.slice q.2.2.2.2.1 q.1.length q.2.2.2.2.2.1) tPtr2 1 q.1.length (rows ptR q.2.1), .acc (.slice q.2.2.1 q.1.length q.2.2.2.1) tInt2 1 q.1.length (rows inR (q.1.map fun p => p.1.tag)), .blk x13 (.cells (List.toArray [S k, S [82], .slice q.2.2.1 q.1.length q.2.2.2.1, .slice q.2.2.2.2.1 q.1.length q.2.2.2.2.2.1]) tLv (0, 0)), .blk x8 (.cells (List.toArray [U8 x.2.sort, S x.2.name, slX x]) tTyB (0, 0)), .blk x5 (.cells (List.toArray [u]) tRd (0, 0))]) (fun q => q.2.2.2.2.2.2.1.length) ([], [], none, 0, none, 0, s, s.length + 1, G) ?_ (by repeat' constructor) rfl sRr (fun q Hq => ?_)
  ·exact ⟨⟨⟨rfl, fun i hi => absurd hi (by simp), fun i hi => absurd hi (by simp)⟩, Gh.le.refl _⟩, ⟨rfl, Nat.lt_succ_self _⟩, Nat.le_refl _, by simp⟩
  obtain ⟨fs, bs, a1, c1, a2, c2, t, m, Gq⟩ := q
  dsimp only at Hq ⊢
  obtain ⟨⟨⟨hbl, hfm, hreps⟩, hgq⟩, ⟨hit, htm⟩, htl, hft⟩ := Hq
  have cx_tg := c_tag (G := Gq) (u := u) (x := x) (s := t) (by omega) h.sl.one ((h.mono hgq).fl x hx) (by omega)
  repeat' (first | (refine jR ?_) | (refine k_op rfl ?_; first | refine jV (g_ldA rfl rfl rfl rfl) ?_ | refine c_al rfl rfl fun _ => ?_ | refine c_stA rfl rfl rfl rfl rfl rfl ?_ | (refine c_pu rfl rfl rfl cx_tg rfl ?_; rintro _ ⟨nt, rfl, hnt⟩)))
  have hnone : ∀ {v : Value} {G' : Gh} {r : List UInt8}, rdFlds (tys vs) (rd (tys vs) n) x.2 m (lastT fs) t (nd61 fs) = none → v = Tu [.pointer none, S r, Bo false] → ReadP (tys vs) (rdTyped (tys vs) (rd (tys vs) n) x.2 (123 :: s)) k v G' := fun h1 h2 => ⟨_, _, _, h2, fun h => (by cases h), fun _ => by rw [hRl, hit, h1]; rfl⟩
  cases hb16 : (numOf (t.takeWhile isDg) 200).isSome && (fldT x.2.fields nt).isSome with
  | false =>
   have hno : rdField (rd (tys vs) n) x.2 t = none := by
    cases hm : numOf (t.takeWhile isDg) 200 with
    | none => exact field_none (.inl hm)
    | some m0 =>
     refine field_none (.inr ⟨m0, hm, ?_⟩)
     rw [hm] at hb16
     rw [← hnt m0 hm]
     cases hf : fldT x.2.fields nt with
     | none => rfl
     | some d => rw [hf] at hb16; cases hb16
   (refine k_any (s_any (id := 5) _ (fun _ h => h) mixed ?_); refine jT 33 [0, 1, 2] (bts 36 7) ?_; (try (refine Nx.re (d := 43) (v' := Bo true) rfl (congrArg Value.bool rfl) ?_)); refine jT 31 [3, 4] (bts 36 31) ?_; (refine jG (bts 36 63) 5 rfl (g_pickT rfl rfl rfl) ?_); refine jT 29 [6] (bts 36 127) ?_; (try (refine Nx.re (d := 47) (v' := Bo true) rfl (congrArg Value.bool rfl) ?_)); refine jT 26 [7, 8, 9] (bts 36 1023) ?_; (refine jG (bts 36 2047) 10 rfl (g_pickT rfl rfl rfl) ?_); refine jT 24 [11] (bts 36 4095) ?_; (try (refine Nx.re (d := 52) (v' := Bo true) rfl (congrArg Value.bool rfl) ?_)); refine jT 21 [12, 13, 14] (bts 36 32767) ?_; (refine jN (bts 36 65535) 15 rfl ?_); (refine jN (bts 36 131071) 16 rfl ?_); refine jT 17 [17, 18] (bts 36 524287) ?_; (try (fail)); refine jT 10 [19, 20, 21, 23, 24, 25, 31] (bts 36 2210398207) ?_; (refine jN (bts 36 2214592511) 22 rfl ?_); (refine jN (bts 36 2281701375) 26 rfl ?_); (refine jN (bts 36 2415919103) 27 rfl ?_); refine jT 6 [28] (bts 36 2684354559) ?_; (refine jN (bts 36 3221225471) 29 rfl ?_); (refine jN (bts 36 4294967295) 30 rfl ?_); (refine jN (bts 36 8589934591) 32 rfl ?_); refine jT 2 [33] (bts 36 17179869183) ?_; (refine jN (bts 36 34359738367) 34 rfl ?_); (refine jG (bts 36 68719476735) 35 rfl (g_pickT rfl rfl rfl) ?_); refine x_done (by kernel_rfl) (k_bk ?_))
   repeat' (first | (refine jR ?_) | (refine k_tt rfl rfl ?_))
   all_goals refine jZ (vs := [_, _, _]) rfl ⟨rfl, rfl, rfl, trivial⟩ rfl ⟨hgq, rfl, ?_⟩
   all_goals exact hnone (flds_none hno) rfl
  | true =>
   simp only [Bool.and_eq_true] at hb16
   obtain ⟨hb1, hb2⟩ := hb16
   obtain ⟨m0, hm⟩ := Option.isSome_iff_exists.1 hb1
   obtain ⟨d, hd⟩ := Option.isSome_iff_exists.1 hb2
   have hnm := hnt m0 hm
   subst hnm
   rw [hd]
   simp only [Option.getD_some]
   have hdm : d ∈ x.2.fields := List.mem_of_find?_eq_some hd
   have hdt : d.tag = nt := by have := List.find?_some hd; simpa using this
   have hwl := while_len isDg t
   cases hdw : t.dropWhile isDg with
   | nil =>
    have hno : rdField (rd (tys vs) n) x.2 t = none := field_noeq hm (fun s2 h => by rw [hdw] at h; cases h)
    (refine k_any (s_any (id := 5) _ (fun _ h => h) mixed ?_); refine jT 33 [0, 1, 2] (bts 36 7) ?_; (try (refine Nx.re (d := 43) (v' := Bo false) rfl (congrArg Value.bool rfl) ?_)); refine jT 31 [3, 4] (bts 36 31) ?_; (refine jG (bts 36 63) 5 rfl (g_pickF rfl rfl rfl) ?_); refine jT 29 [6] (bts 36 127) ?_; (try (refine Nx.re (d := 47) (v' := Bo true) rfl (congrArg Value.bool rfl) ?_)); refine jT 26 [7, 8, 9] (bts 36 1023) ?_; (refine jG (bts 36 2047) 10 rfl (g_pickT rfl rfl rfl) ?_); refine jT 24 [11] (bts 36 4095) ?_; (try (refine Nx.re (d := 52) (v' := Bo true) rfl (congrArg Value.bool rfl) ?_)); refine jT 21 [12, 13, 14] (bts 36 32767) ?_; (refine jN (bts 36 65535) 15 rfl ?_); (refine jN (bts 36 131071) 16 rfl ?_); refine jT 17 [17, 18] (bts 36 524287) ?_; (try (fail)); refine jT 10 [19, 20, 21, 23, 24, 25, 31] (bts 36 2210398207) ?_; (refine jN (bts 36 2214592511) 22 rfl ?_); (refine jN (bts 36 2281701375) 26 rfl ?_); (refine jN (bts 36 2415919103) 27 rfl ?_); refine jT 6 [28] (bts 36 2684354559) ?_; (refine jN (bts 36 3221225471) 29 rfl ?_); (refine jN (bts 36 4294967295) 30 rfl ?_); (refine jN (bts 36 8589934591) 32 rfl ?_); refine jT 2 [33] (bts 36 17179869183) ?_; (refine jN (bts 36 34359738367) 34 rfl ?_); (refine jG (bts 36 68719476735) 35 rfl (g_pickT rfl rfl rfl) ?_); refine x_done (by kernel_rfl) (k_bk ?_))
    repeat' (first | (refine jR ?_) | (refine k_tt rfl rfl ?_))
    all_goals refine jZ (vs := [_, _, _]) rfl ⟨rfl, rfl, rfl, trivial⟩ rfl ⟨hgq, rfl, ?_⟩
    all_goals exact hnone (flds_none hno) rfl
   | cons e r2 =>
    have he0 : bt (e :: r2) (Int.toNat 0) = e.toNat := bt_zero e r2
    have hel : (e :: r2).length = r2.length + 1 := rfl
    by_cases h61 : e.toNat = 61
    case neg =>
     have hno : rdField (rd (tys vs) n) x.2 t = none := field_noeq hm (fun s2 h => by rw [hdw] at h; simp only [List.cons.injEq] at h; exact h61 (by rw [h.1]; rfl))
     (refine k_any (s_any (id := 5) _ (fun _ h => h) mixed ?_); refine jT 33 [0, 1, 2] (bts 36 7) ?_; (try (refine Nx.re (d := 43) (v' := Bo false) rfl (congrArg Value.bool rfl) ?_)); refine jT 31 [3, 4] (bts 36 31) ?_; (refine jG (bts 36 63) 5 rfl (g_pickF rfl rfl rfl) ?_); refine jT 29 [6] (bts 36 127) ?_; (try (refine Nx.re (d := 47) (v' := Bo false) rfl (congrArg Value.bool rfl) ?_)); refine jU 26 [7, 8, 9] (bts 36 1023) ?_ ?_; (focus (repeat' (first | exact trivial | apply And.intro | omega))); (refine jG (bts 36 2047) 10 rfl (g_pickF rfl rfl rfl) ?_); refine jT 24 [11] (bts 36 4095) ?_; (try ((refine Nx.re (d := 52) (v' := Bo true) rfl (congrArg Value.bool (dTt (by omega))) ?_))); refine jT 21 [12, 13, 14] (bts 36 32767) ?_; (refine jN (bts 36 65535) 15 rfl ?_); (refine jN (bts 36 131071) 16 rfl ?_); refine jT 17 [17, 18] (bts 36 524287) ?_; (try (fail)); refine jT 10 [19, 20, 21, 23, 24, 25, 31] (bts 36 2210398207) ?_; (refine jN (bts 36 2214592511) 22 rfl ?_); (refine jN (bts 36 2281701375) 26 rfl ?_); (refine jN (bts 36 2415919103) 27 rfl ?_); refine jT 6 [28] (bts 36 2684354559) ?_; (refine jN (bts 36 3221225471) 29 rfl ?_); (refine jN (bts 36 4294967295) 30 rfl ?_); (refine jN (bts 36 8589934591) 32 rfl ?_); refine jT 2 [33] (bts 36 17179869183) ?_; (refine jN (bts 36 34359738367) 34 rfl ?_); (refine jG (bts 36 68719476735) 35 rfl (g_pickT rfl rfl rfl) ?_); refine x_done (by kernel_rfl) (k_bk ?_))
     repeat' (first | (refine jR ?_) | (refine k_tt rfl rfl ?_))
     all_goals refine jZ (vs := [_, _, _]) rfl ⟨rfl, rfl, rfl, trivial⟩ rfl ⟨hgq, rfl, ?_⟩
     all_goals exact hnone (flds_none hno) rfl
    have he61 : e = 61 := UInt8.toNat_inj.1 h61
    have hfs := field_some (f := rd (tys vs) n) (t := x.2) (s := t) hm hd (by rw [hdw, he61])
    have hm0 : 0 < m := by omega
    have hflt : (fs.map fun p : Fld × V => p.1.tag).length = fs.length := by simp
    have hdt1 := ((hTW.fld d hdm).tag).1
    have hlast0 : fs.length = 0 → lastT fs = 0 := fun h0 => by rw [List.length_eq_zero_iff.1 h0]; rfl
    have hlast1 : 0 < fs.length → nth (fs.map fun p : Fld × V => p.1.tag) (((fs.length : Nat) : Int) - 1).toNat = lastT fs := fun h0 => by
     have e1 : (((fs.length : Nat) : Int) - 1).toNat = fs.length - 1 := by omega
     rw [e1, nth_eq (by rw [hflt]; omega)]
     unfold lastT
     rw [List.getLast?_eq_getElem?, List.getElem?_eq_getElem (by omega)]
     simp
    rename_i x14
    have hf0 : fs.length = 0 ∨ 0 < fs.length := by omega
    by_cases hlt : d.tag ≤ lastT fs
    ·have hpos : 0 < fs.length := by
      rcases hf0 with h0 | h0
      ·have := hlast0 h0; omega
      ·exact h0
     have hyl := hlast1 hpos
     have hno : rdFlds (tys vs) (rd (tys vs) n) x.2 m (lastT fs) t (nd61 fs) = none := by
      cases hy : rd (tys vs) n d.kind r2 with
      | none => exact flds_none (by rw [hfs, hy]; rfl)
      | some y =>
       obtain ⟨w, r3⟩ := y
       rw [flds_step (d := d) (v := w) (r := r3) (by rw [hfs, hy]; rfl) hm0, if_pos (.inl hlt)]
     refine Nx.shp (v := .slice a1 fs.length c1) (.tail _ (.tail _ (.head _))) fun hsh => ?_
     obtain ⟨tb1, tc1, e1⟩ := hsh.pos (by omega)
     simp only [Value.slice.injEq] at e1
     obtain ⟨rfl, -, rfl⟩ := e1
     (refine k_any (s_any (id := 5) _ (fun _ h => h) mixed ?_); refine jT 33 [0, 1, 2] (bts 36 7) ?_; (try (refine Nx.re (d := 43) (v' := Bo false) rfl (congrArg Value.bool rfl) ?_)); refine jT 31 [3, 4] (bts 36 31) ?_; (refine jG (bts 36 63) 5 rfl (g_pickF rfl rfl rfl) ?_); refine jT 29 [6] (bts 36 127) ?_; (try (refine Nx.re (d := 47) (v' := Bo false) rfl (congrArg Value.bool rfl) ?_)); refine jU 26 [7, 8, 9] (bts 36 1023) ?_ ?_; (focus (repeat' (first | exact trivial | apply And.intro | omega))); (refine jG (bts 36 2047) 10 rfl (g_pickF rfl rfl rfl) ?_); refine jT 24 [11] (bts 36 4095) ?_; (try ((refine Nx.re (d := 52) (v' := Bo false) rfl (congrArg Value.bool (dFf (by omega))) ?_))); refine jT 21 [12, 13, 14] (bts 36 32767) ?_; (refine jG (bts 36 65535) 15 rfl (g_ld rfl rfl rfl) ?_); (refine jG (bts 36 131071) 16 rfl (g_lenL rfl) ?_); refine jT 17 [17, 18] (bts 36 524287) ?_; (try ((refine Nx.re (d := 59) (v' := Bo true) rfl (congrArg Value.bool (dTt (by omega))) ?_))); refine jT 10 [19, 20, 21, 23, 24, 25, 31] (bts 36 2210398207) ?_; (refine jG (bts 36 2214592511) 22 rfl (g_ld rfl rfl rfl) ?_); (refine jG (bts 36 2281701375) 26 rfl (g_ld rfl rfl rfl) ?_); (refine jG (bts 36 2415919103) 27 rfl (g_lenL rfl) ?_); refine jU 6 [28] (bts 36 2684354559) ?_ ?_; (focus (repeat' (first | exact trivial | apply And.intro | omega))); (refine jG (bts 36 3221225471) 29 rfl (g_iaddr rfl rfl (by omega)) ?_); ((refine jG (bts 36 4294967295) 30 rfl (g_ldB1 rfl rfl rfl ?_ (by assumption)) ?_; (focus ((omega); done)))); (refine jG (bts 36 8589934591) 32 rfl (g_ld rfl rfl rfl) ?_); refine jT 2 [33] (bts 36 17179869183) ?_; (refine jG (bts 36 34359738367) 34 rfl (g_pickT rfl rfl rfl) ?_); (refine jG (bts 36 68719476735) 35 rfl (g_pickF rfl rfl rfl) ?_); refine x_done (by kernel_rfl) (k_bk ?_))
     repeat' (first | (refine jR ?_) | (refine k_tt rfl (dTt ‹_›) ?_))
     all_goals refine jZ (vs := [_, _, _]) rfl ⟨rfl, rfl, rfl, trivial⟩ rfl ⟨hgq, rfl, ?_⟩
     all_goals exact hnone hno rfl
    have hSq := h.mono hgq
    have hdk : kindIn (tys vs) d.kind = true := kind_in hw hxt (by omega) hdm
    rw [hdw, List.length_cons] at hwl
    have cx_rd := hR Gq d.kind r2 hSq hdk (by omega)
    rw [← edn] at cx_rd
    rcases hf0 with hf0 | hf0
    rotate_left
    have hyl := hlast1 hf0
    refine Nx.shp (v := .slice a1 fs.length c1) (.tail _ (.tail _ (.head _))) fun hsh => ?_
    obtain ⟨tb1, tc1, e1⟩ := hsh.pos (by omega)
    simp only [Value.slice.injEq] at e1
    obtain ⟨rfl, -, rfl⟩ := e1
    all_goals
     (refine k_any (s_any (id := 5) _ (fun _ h => h) mixed ?_); refine jT 33 [0, 1, 2] (bts 36 7) ?_; (try (refine Nx.re (d := 43) (v' := Bo false) rfl (congrArg Value.bool rfl) ?_)); refine jT 31 [3, 4] (bts 36 31) ?_; (refine jG (bts 36 63) 5 rfl (g_pickF rfl rfl rfl) ?_); refine jT 29 [6] (bts 36 127) ?_; (try (refine Nx.re (d := 47) (v' := Bo false) rfl (congrArg Value.bool rfl) ?_)); refine jU 26 [7, 8, 9] (bts 36 1023) ?_ ?_; (focus (repeat' (first | exact trivial | apply And.intro | omega))); (refine jG (bts 36 2047) 10 rfl (g_pickF rfl rfl rfl) ?_); refine jT 24 [11] (bts 36 4095) ?_; (try ((refine Nx.re (d := 52) (v' := Bo false) rfl (congrArg Value.bool (dFf (by omega))) ?_))); refine jT 21 [12, 13, 14] (bts 36 32767) ?_; (refine jG (bts 36 65535) 15 rfl (g_ld rfl rfl rfl) ?_); (refine jG (bts 36 131071) 16 rfl (g_lenL rfl) ?_); refine jT 17 [17, 18] (bts 36 524287) ?_; (try (first | (refine Nx.re (d := 59) (v' := Bo true) rfl (congrArg Value.bool (dTt (by omega))) ?_) | (refine Nx.re (d := 59) (v' := Bo false) rfl (congrArg Value.bool (dFf (by omega))) ?_))); refine jT 10 [19, 20, 21, 23, 24, 25, 31] (bts 36 2210398207) ?_; (first | refine jG (bts 36 2214592511) 22 rfl (g_ld rfl rfl rfl) ?_ | refine jN (bts 36 2214592511) 22 rfl ?_); (first | refine jG (bts 36 2281701375) 26 rfl (g_ld rfl rfl rfl) ?_ | refine jN (bts 36 2281701375) 26 rfl ?_); (first | refine jG (bts 36 2415919103) 27 rfl (g_lenL rfl) ?_ | refine jN (bts 36 2415919103) 27 rfl ?_); refine jU 6 [28] (bts 36 2684354559) ?_ ?_; (focus (repeat' (first | exact trivial | apply And.intro | omega))); (first | (refine jG (bts 36 3221225471) 29 rfl (g_iaddr rfl rfl (by omega)) ?_) | refine jN (bts 36 3221225471) 29 rfl ?_); (first | (refine jG (bts 36 4294967295) 30 rfl (g_ldB1 rfl rfl rfl ?_ (by assumption)) ?_; (focus ((omega); done))) | refine jN (bts 36 4294967295) 30 rfl ?_); (first | refine jG (bts 36 8589934591) 32 rfl (g_ld rfl rfl rfl) ?_ | refine jN (bts 36 8589934591) 32 rfl ?_); refine jT 2 [33] (bts 36 17179869183) ?_; (first | (refine jG (bts 36 34359738367) 34 rfl (g_pickT rfl rfl rfl) ?_) | (refine jG (bts 36 34359738367) 34 rfl (g_pickF rfl rfl rfl) ?_)); (refine jG (bts 36 68719476735) 35 rfl (g_pickF rfl rfl rfl) ?_); refine x_done (by kernel_rfl) (k_bk ?_))
     repeat' (first | (refine jR ?_) | (refine k_ff rfl (by first | rfl | (refine decide_eq_false ?_; (assumption))) ?_))
     (refine k_any (s_any (id := 7) _ (fun _ h => h) mixed ?_); refine jU 10 [1, 2, 3, 5, 6] (bts 15 110) ?_ ?_; (focus (repeat' (first | exact trivial | apply And.intro | omega))); (refine jG (bts 15 111) 0 rfl (g_ldA rfl rfl rfl rfl) ?_); (refine jG (bts 15 127) 4 rfl (g_ld rfl rfl rfl) ?_); refine jA 7 rfl ?_; (refine c_fns rfl rfl rfl cx_rd rfl ?_; rintro _ G hle ⟨q1, r1, ok1, rfl, hyes, hno⟩; skip); refine jS (bts 15 255) ?_; refine jT 0 [8, 9, 10, 11, 12, 13, 14] (bts 15 32767) ?_; refine x_done (by kernel_rfl) (k_bk ?_))
     repeat' (refine jR ?_)
     have hgl := hgq.trans hle
     cases ok1 with
     | false =>
      have hno2 : rdField (rd (tys vs) n) x.2 t = none := by rw [hfs, hno rfl]; rfl
      (refine k_any (s_any (id := 8) _ (fun _ h => h) mixed ?_); refine jT 22 [0, 1, 2] (bts 25 7) ?_; (try (refine Nx.re (d := 92) (v' := Bo true) rfl (congrArg Value.bool rfl) ?_)); refine jT 20 [3, 5] (bts 25 47) ?_; (refine jN (bts 25 111) 6 rfl ?_); (refine jN (bts 25 239) 7 rfl ?_); (refine jN (bts 25 255) 4 rfl ?_); (refine jN (bts 25 511) 8 rfl ?_); refine jT 15 [9] (bts 25 1023) ?_; (refine jG (bts 25 2047) 10 rfl (g_pickT rfl rfl rfl) ?_); refine jT 13 [11] (bts 25 4095) ?_; (try (refine Nx.re (d := 101) (v' := Bo true) rfl (congrArg Value.bool rfl) ?_)); refine jT 11 [12, 13] (bts 25 16383) ?_; (refine jG (bts 25 32767) 14 rfl (g_pickT rfl rfl rfl) ?_); refine jT 9 [15] (bts 25 65535) ?_; (try (refine Nx.re (d := 105) (v' := Bo true) rfl (congrArg Value.bool rfl) ?_)); refine jT 5 [16, 17, 18, 19] (bts 25 1048575) ?_; (try (fail)); refine jT 2 [20, 21, 22] (bts 25 8388607) ?_; (refine jN (bts 25 16777215) 23 rfl ?_); (refine jG (bts 25 33554431) 24 rfl (g_pickT rfl rfl rfl) ?_); refine x_done (by kernel_rfl) (k_bk ?_))
      repeat' (first | (refine jR ?_) | (refine k_tt rfl rfl ?_))
      all_goals refine jZ (vs := [_, _, _]) rfl ⟨rfl, rfl, rfl, trivial⟩ rfl ⟨hgl, rfl, ?_⟩
      all_goals exact hnone (flds_none hno2) rfl
     | true =>
      obtain ⟨w, wb, rfl, hf, hrep⟩ := hyes rfl
      have hsh := rd_short hf
      have htt := rd_tot _ _ _ _ hf
      dsimp only at htt hsh
      have hob := outR hw hrep
      unfold OutB at hob
      have cx_out := c_outS hw hrep (by omega)
      have cx_sta := c_standS (f := d) (h.mono hgl) hw hdk
      have hfd : rdField (rd (tys vs) n) x.2 t = some ((d, w), r1) := by rw [hfs, hf]; rfl
      have hst := flds_step (ts := tys vs) (vs := nd61 fs) (last := lastT fs) hfd hm0
      by_cases heq : w.out = standF (tys vs) d
      ·rw [if_pos (.inr heq)] at hst
       (refine k_any (s_any (id := 8) _ (fun _ h => h) mixed ?_); refine jT 22 [0, 1, 2] (bts 25 7) ?_; (try (refine Nx.re (d := 92) (v' := Bo false) rfl (congrArg Value.bool rfl) ?_)); refine jT 20 [3, 5] (bts 25 47) ?_; (refine jG (bts 25 111) 6 rfl (g_ld rfl rfl rfl) ?_); (refine jG (bts 25 239) 7 rfl (g_ldA rfl rfl rfl rfl) ?_); (refine jA 4 rfl ?_; (refine c_rt rfl rfl rfl cx_out rfl ?_); refine jS (bts 25 255) ?_); (refine jA 8 rfl ?_; (refine c_rt rfl rfl rfl cx_sta rfl ?_); refine jS (bts 25 511) ?_); refine jT 15 [9] (bts 25 1023) ?_; (refine jG (bts 25 2047) 10 rfl (g_pickF rfl rfl rfl) ?_); refine jT 13 [11] (bts 25 4095) ?_; (try (refine Nx.re (d := 101) (v' := Bo true) rfl (congrArg Value.bool (dTt ‹_›)) ?_)); refine jT 11 [12, 13] (bts 25 16383) ?_; (refine jG (bts 25 32767) 14 rfl (g_pickT rfl rfl rfl) ?_); refine jT 9 [15] (bts 25 65535) ?_; (try (refine Nx.re (d := 105) (v' := Bo true) rfl (congrArg Value.bool rfl) ?_)); refine jT 5 [16, 17, 18, 19] (bts 25 1048575) ?_; (try (fail)); refine jT 2 [20, 21, 22] (bts 25 8388607) ?_; (refine jN (bts 25 16777215) 23 rfl ?_); (refine jG (bts 25 33554431) 24 rfl (g_pickT rfl rfl rfl) ?_); refine x_done (by kernel_rfl) (k_bk ?_))
       repeat' (first | (refine jR ?_) | (refine k_tt rfl rfl ?_))
       all_goals refine jZ (vs := [_, _, _]) rfl ⟨rfl, rfl, rfl, trivial⟩ rfl ⟨hgl, rfl, ?_⟩
       all_goals exact hnone hst rfl
      rw [if_neg (fun h => by rcases h with h | h; exact hlt h; exact heq h)] at hst
      cases r1 with
      | nil =>
       (refine k_any (s_any (id := 8) _ (fun _ h => h) mixed ?_); refine jT 22 [0, 1, 2] (bts 25 7) ?_; (try (refine Nx.re (d := 92) (v' := Bo false) rfl (congrArg Value.bool rfl) ?_)); refine jT 20 [3, 5] (bts 25 47) ?_; (refine jG (bts 25 111) 6 rfl (g_ld rfl rfl rfl) ?_); (refine jG (bts 25 239) 7 rfl (g_ldA rfl rfl rfl rfl) ?_); (refine jA 4 rfl ?_; (refine c_rt rfl rfl rfl cx_out rfl ?_); refine jS (bts 25 255) ?_); (refine jA 8 rfl ?_; (refine c_rt rfl rfl rfl cx_sta rfl ?_); refine jS (bts 25 511) ?_); refine jT 15 [9] (bts 25 1023) ?_; (refine jG (bts 25 2047) 10 rfl (g_pickF rfl rfl rfl) ?_); refine jT 13 [11] (bts 25 4095) ?_; (try (refine Nx.re (d := 101) (v' := Bo false) rfl (congrArg Value.bool (dFf ‹_›)) ?_)); refine jT 11 [12, 13] (bts 25 16383) ?_; (refine jG (bts 25 32767) 14 rfl (g_pickF rfl rfl rfl) ?_); refine jT 9 [15] (bts 25 65535) ?_; (try (refine Nx.re (d := 105) (v' := Bo true) rfl (congrArg Value.bool rfl) ?_)); refine jT 5 [16, 17, 18, 19] (bts 25 1048575) ?_; (try (fail)); refine jT 2 [20, 21, 22] (bts 25 8388607) ?_; (refine jN (bts 25 16777215) 23 rfl ?_); (refine jG (bts 25 33554431) 24 rfl (g_pickT rfl rfl rfl) ?_); refine x_done (by kernel_rfl) (k_bk ?_))
       repeat' (first | (refine jR ?_) | (refine k_tt rfl rfl ?_))
       all_goals refine jZ (vs := [_, _, _]) rfl ⟨rfl, rfl, rfl, trivial⟩ rfl ⟨hgl, rfl, ?_⟩
       all_goals exact hnone hst rfl
      | cons e2 r3 =>
       have he20 : bt (e2 :: r3) (Int.toNat 0) = e2.toNat := bt_zero e2 r3
       have hel2 : (e2 :: r3).length = r3.length + 1 := rfl
       have hl' : (fs ++ [(d, w)]).length = fs.length + 1 := by simp
       have hbl' : (bs ++ [wb]).length = (fs ++ [(d, w)]).length := by simp [hbl]
       have hnth : ∀ i, i < (fs ++ [(d, w)]).length → (i < fs.length ∧ nth (fs ++ [(d, w)]) i = nth fs i ∧ nth (bs ++ [wb]) i = nth bs i) ∨ (nth (fs ++ [(d, w)]) i = (d, w) ∧ nth (bs ++ [wb]) i = wb) := fun i hi => by
        by_cases h1 : i < fs.length
        ·exact .inl ⟨h1, by rw [nth_eq hi, nth_eq h1, List.getElem_append_left h1], by rw [nth_eq (by omega), nth_eq (by omega), List.getElem_append_left (by omega)]⟩
        ·have h2 : i = fs.length := by omega
         exact .inr ⟨by rw [nth_eq hi]; simp [h2], by rw [nth_eq (by omega)]; simp [h2, hbl]⟩
       have hfm' : ∀ i, i < (fs ++ [(d, w)]).length → (nth (fs ++ [(d, w)]) i).1 ∈ x.2.fields := fun i hi => by
        rcases hnth i hi with ⟨h1, h2, _⟩ | ⟨h2, _⟩
        ·rw [h2]; exact hfm i h1
        ·rw [h2]; exact hdm
       have hreps' : ∀ i, i < (fs ++ [(d, w)]).length → RepR G (tys vs) (nth (fs ++ [(d, w)]) i).2 (nth (fs ++ [(d, w)]) i).1.kind (nth (bs ++ [wb]) i) := fun i hi => by
        rcases hnth i hi with ⟨h1, h2, h3⟩ | ⟨h2, h3⟩
        ·rw [h2, h3]; exact (hreps i h1).mono hle
        ·rw [h2, h3]; exact hrep
       have hrow1 : rows inR (fs.map fun p => p.1.tag) ++ [I d.tag] = rows inR ((fs ++ [(d, w)]).map fun p => p.1.tag) := by rw [List.map_append]; exact (rows_snoc inR _ d.tag).symm
       have hrow2 : rows ptR bs ++ [Pt wb 0] = rows ptR (bs ++ [wb]) := (rows_snoc ptR bs wb).symm
       have hnd : nd61 (fs ++ [(d, w)]) = nd61 fs ++ [.nd 61 [] d.tag [w]] := by simp [nd61]
       dsimp only at hst
       by_cases h44 : e2.toNat = 44
       ·rw [if_pos h44] at hst
        have hn93 : ¬ e2.toNat = 125 := by omega
        (refine k_any (s_any (id := 8) _ (fun _ h => h) mixed ?_); refine jT 22 [0, 1, 2] (bts 25 7) ?_; (try (refine Nx.re (d := 92) (v' := Bo false) rfl (congrArg Value.bool rfl) ?_)); refine jT 20 [3, 5] (bts 25 47) ?_; (refine jG (bts 25 111) 6 rfl (g_ld rfl rfl rfl) ?_); (refine jG (bts 25 239) 7 rfl (g_ldA rfl rfl rfl rfl) ?_); (refine jA 4 rfl ?_; (refine c_rt rfl rfl rfl cx_out rfl ?_); refine jS (bts 25 255) ?_); (refine jA 8 rfl ?_; (refine c_rt rfl rfl rfl cx_sta rfl ?_); refine jS (bts 25 511) ?_); refine jT 15 [9] (bts 25 1023) ?_; (refine jG (bts 25 2047) 10 rfl (g_pickF rfl rfl rfl) ?_); refine jT 13 [11] (bts 25 4095) ?_; (try (refine Nx.re (d := 101) (v' := Bo false) rfl (congrArg Value.bool (dFf ‹_›)) ?_)); refine jT 11 [12, 13] (bts 25 16383) ?_; (refine jG (bts 25 32767) 14 rfl (g_pickF rfl rfl rfl) ?_); refine jT 9 [15] (bts 25 65535) ?_; (try (refine Nx.re (d := 105) (v' := Bo false) rfl (congrArg Value.bool rfl) ?_)); refine jU 5 [16, 17, 18, 19] (bts 25 1048575) ?_ ?_; (focus (repeat' (first | exact trivial | apply And.intro | omega))); (try ((refine Nx.re (d := 109) (v' := Bo false) rfl (congrArg Value.bool (dFf (by omega))) ?_))); refine jT 2 [20, 21, 22] (bts 25 8388607) ?_; (refine jG (bts 25 16777215) 23 rfl (g_pickF rfl rfl rfl) ?_); (refine jG (bts 25 33554431) 24 rfl (g_pickF rfl rfl rfl) ?_); refine x_done (by kernel_rfl) (k_bk ?_))
        repeat' (first | (refine jR ?_) | (refine k_ff rfl rfl ?_))
        (refine k_any (s_any (id := 10) [.blk x14 (.cells (List.toArray [I d.tag, S d.name, S d.kind, S d.stand]) tFd (0, 0))] (by intro y hy; simp only [List.mem_cons, List.not_mem_nil, or_false] at hy ⊢; simp [hy]) mixed ?_); refine jU 7 [0, 1, 2, 3, 5] (bts 12 47) ?_ ?_; (focus (repeat' (exact trivial))); (refine jG (bts 12 111) 6 rfl (g_ld rfl rfl rfl) ?_); refine x_all [4, 7] (by kernel_rfl) (by decide) ⟨?_, ?_, trivial⟩; (focus (refine x_opg rfl rfl ?_; (refine jV (g_ld rfl rfl rfl) ?_); refine jK (bts 12 127) ?_; refine jA 7 rfl ?_; (refine c_bsl rfl rfl rfl rfl rfl rfl fun _ => ?_); refine jK (bts 12 255) ?_; refine jA 8 rfl ?_; ((refine c_apX rfl rfl rfl rfl rfl rfl rfl rfl rfl ?_ fun _ _ => ?_; (focus ((omega); done)))); refine jK (bts 12 511) ?_; refine jU 1 [9, 10] (bts 12 2047) ?_ ?_; (focus (repeat' (exact trivial))); refine jA 11 rfl ?_; (refine c_st1 rfl rfl rfl rfl ?_); refine jK (bts 12 4095) ?_; refine x_done (by kernel_rfl) (k_bk ?_))); rotate_left 1; (focus (refine x_opg rfl rfl ?_; (refine c_bsl rfl rfl rfl rfl rfl rfl fun _ => ?_); refine jK (bts 12 239) ?_; refine jA 4 rfl ?_; (refine jV (g_ld rfl rfl rfl) ?_); refine jK (bts 12 255) ?_; refine jA 8 rfl ?_; ((refine c_apX rfl rfl rfl rfl rfl rfl rfl rfl rfl ?_ fun _ _ => ?_; (focus ((omega); done)))); refine jK (bts 12 511) ?_; refine jU 1 [9, 10] (bts 12 2047) ?_ ?_; (focus (repeat' (exact trivial))); refine jA 11 rfl ?_; (refine c_st1 rfl rfl rfl rfl ?_); refine jK (bts 12 4095) ?_; refine x_done (by kernel_rfl) (k_bk ?_))); rotate_left 1)
        all_goals repeat' (first | refine jM ?_ | (refine k_op rfl ?_; first | refine jV (g_ld rfl rfl rfl) ?_ | refine c_st1 rfl rfl rfl rfl ?_ | refine c_bsl rfl rfl rfl rfl rfl rfl fun _ => ?_ | (refine c_apX rfl rfl rfl rfl rfl rfl rfl rfl rfl (by omega) fun _ _ => ?_)) | (refine k_ff rfl (dFf (by omega)) ?_))
        all_goals
         rename_i _ y1 yc1 _ y2 yc2
         rw [hrow1, hrow2]
         exact k_rd (fs ++ [(d, w)], bs ++ [wb], some ⟨y1, 0, none⟩, yc1, some ⟨y2, 0, none⟩, yc2, r3, m - 1, G) ⟨⟨⟨hbl', hfm', hreps'⟩, hgl⟩, ⟨(by dsimp only; rw [hit, hst, lastT_snoc, hnd]), (by dsimp only; omega)⟩, (by dsimp only; omega), (by dsimp only; omega)⟩ (by dsimp only; omega) (by repeat' constructor) rfl (by rw [hl']; repeat (first | exact List.Sublist.refl _ | apply List.Sublist.cons_cons | apply List.Sublist.cons))
       ·rw [if_neg h44] at hst
        by_cases h125' : e2.toNat = 125
        ·rw [if_pos h125'] at hst
         (refine k_any (s_any (id := 8) _ (fun _ h => h) mixed ?_); refine jT 22 [0, 1, 2] (bts 25 7) ?_; (try (refine Nx.re (d := 92) (v' := Bo false) rfl (congrArg Value.bool rfl) ?_)); refine jT 20 [3, 5] (bts 25 47) ?_; (refine jG (bts 25 111) 6 rfl (g_ld rfl rfl rfl) ?_); (refine jG (bts 25 239) 7 rfl (g_ldA rfl rfl rfl rfl) ?_); (refine jA 4 rfl ?_; (refine c_rt rfl rfl rfl cx_out rfl ?_); refine jS (bts 25 255) ?_); (refine jA 8 rfl ?_; (refine c_rt rfl rfl rfl cx_sta rfl ?_); refine jS (bts 25 511) ?_); refine jT 15 [9] (bts 25 1023) ?_; (refine jG (bts 25 2047) 10 rfl (g_pickF rfl rfl rfl) ?_); refine jT 13 [11] (bts 25 4095) ?_; (try (refine Nx.re (d := 101) (v' := Bo false) rfl (congrArg Value.bool (dFf ‹_›)) ?_)); refine jT 11 [12, 13] (bts 25 16383) ?_; (refine jG (bts 25 32767) 14 rfl (g_pickF rfl rfl rfl) ?_); refine jT 9 [15] (bts 25 65535) ?_; (try (refine Nx.re (d := 105) (v' := Bo false) rfl (congrArg Value.bool rfl) ?_)); refine jU 5 [16, 17, 18, 19] (bts 25 1048575) ?_ ?_; (focus (repeat' (first | exact trivial | apply And.intro | omega))); (try ((refine Nx.re (d := 109) (v' := Bo true) rfl (congrArg Value.bool (dTt (by omega))) ?_))); refine jU 2 [20, 21, 22] (bts 25 8388607) ?_ ?_; (focus (repeat' (first | exact trivial | apply And.intro | omega))); (refine jG (bts 25 16777215) 23 rfl (g_pickT rfl rfl rfl) ?_); (refine jG (bts 25 33554431) 24 rfl (g_pickF rfl rfl rfl) ?_); refine x_done (by kernel_rfl) (k_bk ?_))
         repeat' (first | (refine jR ?_) | (refine k_ff rfl (dFf (by omega)) ?_))
         (refine k_any (s_any (id := 10) [.blk x14 (.cells (List.toArray [I d.tag, S d.name, S d.kind, S d.stand]) tFd (0, 0))] (by intro y hy; simp only [List.mem_cons, List.not_mem_nil, or_false] at hy ⊢; simp [hy]) mixed ?_); refine jU 7 [0, 1, 2, 3, 5] (bts 12 47) ?_ ?_; (focus (repeat' (exact trivial))); (refine jG (bts 12 111) 6 rfl (g_ld rfl rfl rfl) ?_); refine x_all [4, 7] (by kernel_rfl) (by decide) ⟨?_, ?_, trivial⟩; (focus (refine x_opg rfl rfl ?_; (refine jV (g_ld rfl rfl rfl) ?_); refine jK (bts 12 127) ?_; refine jA 7 rfl ?_; (refine c_bsl rfl rfl rfl rfl rfl rfl fun _ => ?_); refine jK (bts 12 255) ?_; refine jA 8 rfl ?_; ((refine c_apX rfl rfl rfl rfl rfl rfl rfl rfl rfl ?_ fun _ _ => ?_; (focus ((omega); done)))); refine jK (bts 12 511) ?_; refine jU 1 [9, 10] (bts 12 2047) ?_ ?_; (focus (repeat' (exact trivial))); refine jA 11 rfl ?_; (refine c_st1 rfl rfl rfl rfl ?_); refine jK (bts 12 4095) ?_; refine x_done (by kernel_rfl) (k_bk ?_))); rotate_left 1; (focus (refine x_opg rfl rfl ?_; (refine c_bsl rfl rfl rfl rfl rfl rfl fun _ => ?_); refine jK (bts 12 239) ?_; refine jA 4 rfl ?_; (refine jV (g_ld rfl rfl rfl) ?_); refine jK (bts 12 255) ?_; refine jA 8 rfl ?_; ((refine c_apX rfl rfl rfl rfl rfl rfl rfl rfl rfl ?_ fun _ _ => ?_; (focus ((omega); done)))); refine jK (bts 12 511) ?_; refine jU 1 [9, 10] (bts 12 2047) ?_ ?_; (focus (repeat' (exact trivial))); refine jA 11 rfl ?_; (refine c_st1 rfl rfl rfl rfl ?_); refine jK (bts 12 4095) ?_; refine x_done (by kernel_rfl) (k_bk ?_))); rotate_left 1)
         all_goals repeat' (first | refine jM ?_ | (refine k_op rfl ?_; first | refine jV (g_ld rfl rfl rfl) ?_ | refine c_st1 rfl rfl rfl rfl ?_ | refine c_bsl rfl rfl rfl rfl rfl rfl fun _ => ?_ | (refine c_apX rfl rfl rfl rfl rfl rfl rfl rfl rfl (by omega) fun _ _ => ?_)) | (refine k_tt rfl (dTt (by omega)) ?_))
         all_goals
          rename_i _ y1 yc1 _ y2 yc2
          rw [hrow1, hrow2]
          refine Nx.sealS (v := .slice (some ⟨y1, 0, none⟩) (fs.length + 1) yc1) fun G2 hG2 hs1 => ?_
          refine Nx.sealS (v := .slice (some ⟨y2, 0, none⟩) (fs.length + 1) yc2) fun G3 hG3 hs2 => ?_
          refine Nx.sealC (b := x13) fun G4 hG4 hsg => ?_
          refine jZ (vs := [_, _, _]) rfl ⟨rfl, rfl, rfl, trivial⟩ rfl ⟨(((hgl.trans hG2).trans hG3).trans hG4), rfl, ?_⟩
          rw [oneOf_three]
          exact ⟨_, _, _, rfl, fun _ => ⟨.nd 82 [] 0 (nd61 (fs ++ [(d, w)])), x13, rfl, (by rw [hRl, hit, hst, hnd]; rfl), .recd k x13 x.2 (fs ++ [(d, w)]) (bs ++ [wb]) (some ⟨y1, 0, none⟩) (some ⟨y2, 0, none⟩) yc1 yc2 ⟨hrf, hso⟩ (by rw [hl']; exact hsg) (by rw [hl']; exact (hs1.mono hG3).mono hG4) (by rw [hl']; exact hs2.mono hG4) hbl' hfm' (fun i hi => (hreps' i hi).mono ((hG2.trans hG3).trans hG4))⟩, fun h => (by cases h)⟩
        ·rw [if_neg h125'] at hst
         (refine k_any (s_any (id := 8) _ (fun _ h => h) mixed ?_); refine jT 22 [0, 1, 2] (bts 25 7) ?_; (try (refine Nx.re (d := 92) (v' := Bo false) rfl (congrArg Value.bool rfl) ?_)); refine jT 20 [3, 5] (bts 25 47) ?_; (refine jG (bts 25 111) 6 rfl (g_ld rfl rfl rfl) ?_); (refine jG (bts 25 239) 7 rfl (g_ldA rfl rfl rfl rfl) ?_); (refine jA 4 rfl ?_; (refine c_rt rfl rfl rfl cx_out rfl ?_); refine jS (bts 25 255) ?_); (refine jA 8 rfl ?_; (refine c_rt rfl rfl rfl cx_sta rfl ?_); refine jS (bts 25 511) ?_); refine jT 15 [9] (bts 25 1023) ?_; (refine jG (bts 25 2047) 10 rfl (g_pickF rfl rfl rfl) ?_); refine jT 13 [11] (bts 25 4095) ?_; (try (refine Nx.re (d := 101) (v' := Bo false) rfl (congrArg Value.bool (dFf ‹_›)) ?_)); refine jT 11 [12, 13] (bts 25 16383) ?_; (refine jG (bts 25 32767) 14 rfl (g_pickF rfl rfl rfl) ?_); refine jT 9 [15] (bts 25 65535) ?_; (try (refine Nx.re (d := 105) (v' := Bo false) rfl (congrArg Value.bool rfl) ?_)); refine jU 5 [16, 17, 18, 19] (bts 25 1048575) ?_ ?_; (focus (repeat' (first | exact trivial | apply And.intro | omega))); (try ((refine Nx.re (d := 109) (v' := Bo true) rfl (congrArg Value.bool (dTt (by omega))) ?_))); refine jU 2 [20, 21, 22] (bts 25 8388607) ?_ ?_; (focus (repeat' (first | exact trivial | apply And.intro | omega))); (refine jG (bts 25 16777215) 23 rfl (g_pickT rfl rfl rfl) ?_); (refine jG (bts 25 33554431) 24 rfl (g_pickF rfl rfl rfl) ?_); refine x_done (by kernel_rfl) (k_bk ?_))
         repeat' (first | (refine jR ?_) | (refine k_tt rfl (dTt (by omega)) ?_))
         all_goals refine jZ (vs := [_, _, _]) rfl ⟨rfl, rfl, rfl, trivial⟩ rfl ⟨hgl, rfl, ?_⟩
         all_goals exact hnone hst rfl
end Go.E
namespace Go.E
set_option maxRecDepth 20000
set_option maxHeartbeats 2000000
open Go.Proofs
variable {G : Gh}
theorem typed_none {ts : List Ty} {f : List UInt8 → List UInt8 → Option (V × List UInt8)} {t : Ty} {e : UInt8} {s : List UInt8} (h : t.sort = 82 ∧ ¬ e.toNat = 123 ∨ t.sort = 69 ∧ ¬ e.toNat = 35 ∨ t.sort = 85 ∧ ¬ e.toNat = 60) : rdTyped ts f t (e :: s) = none := by
 unfold rdTyped
 dsimp only
 rcases h with ⟨h1, h2⟩ | ⟨h1, h2⟩ | ⟨h1, h2⟩
 ·rw [if_pos h1, if_neg h2]
 ·rw [if_neg (by omega), if_pos h1, if_neg h2]
 ·rw [if_neg (by omega), if_neg (by omega), if_neg h2]
theorem c_namX {n : Nat} {u : Value} {vs : List TyX} {x : TyX} {k s : List UInt8} {e : UInt8} (hu : u.oneCell' = true) (cx_rf : PuG Try.prog 49 [u, S k] G (· = Tu [Ag [U8 x.2.sort, S x.2.name, slX x], Bo true])) (hso : x.2.sort = 82 ∧ ¬ e.toNat = 123 ∨ x.2.sort = 69 ∧ ¬ e.toNat = 35 ∨ x.2.sort = 85 ∧ ¬ e.toNat = 60) (hs : s.length ≤ 2000000) (hn : n ≤ 1000) :
  FnS Try.prog 52 [Ag [u], S (e :: s), S k, I (n + 1 : Nat)] G (ReadP (tys vs) (rdTyped (tys vs) (rd (tys vs) n) x.2 (e :: s)) k) := by
 have hno := typed_none (ts := tys vs) (f := rd (tys vs) n) (s := s) hso
 have he0 : bt (e :: s) (Int.toNat 0) = e.toNat := bt_zero e s
 have hel : (e :: s).length = s.length + 1 := rfl
 rcases hso with ⟨h1, h2⟩ | ⟨h1, h2⟩ | ⟨h1, h2⟩
 all_goals
  have h1' : (x.2.sort : Int) = 82 ∨ (x.2.sort : Int) = 69 ∨ (x.2.sort : Int) = 85 := by omega
  refine jB [(0, _), (1, _), (2, _), (3, _)] Try.func52 Try.ntmps52 fun B hok hB hW => ?_
  repeat' (first | refine jM ?_ | (refine k_op rfl ?_; first | refine c_bx rfl rfl rfl fun _ => ?_ | refine jV (g_ld rfl rfl rfl) ?_ | refine c_al rfl rfl fun _ => ?_ | refine c_stA rfl rfl rfl rfl rfl rfl ?_ | (refine jV (g_pickT rfl rfl rfl) ?_) | (refine jV (g_pickF rfl rfl rfl) ?_) | (refine c_rt rfl rfl rfl cx_rf rfl ?_)) | (refine k_gt rfl rfl (dTt (by omega)) ?_) | (refine k_gf rfl rfl (dFf (by omega)) ?_) | (refine k_ff rfl (by first | rfl | (refine decide_eq_false ?_; (omega))) ?_))
  all_goals refine jZ (vs := [_, _, _]) rfl ⟨rfl, rfl, rfl, trivial⟩ rfl ⟨Gh.le.refl _, rfl, ?_⟩
  all_goals (rw [oneOf_three]; exact ⟨_, _, _, rfl, fun h => (by cases h), fun _ => hno⟩)
theorem c_namR {n : Nat} {u : Value} {vs : List TyX} {x : TyX} {k s : List UInt8} (hR : ReadC n u vs) (h : SchR G u vs) (hw : SchW (tys vs)) (hx : x ∈ vs) (hrf : refT (tys vs) k = some x.2) (cx_rf : PuG Try.prog 49 [u, S k] G (· = Tu [Ag [U8 x.2.sort, S x.2.name, slX x], Bo true])) (hso : x.2.sort = 82) (hs : s.length ≤ 1999999) (hn : n ≤ 1000) (hkl : k.length ≤ 1000) :
  FnS Try.prog 52 [Ag [u], S (123 :: s), S k, I (n + 1 : Nat)] G (ReadP (tys vs) (rdTyped (tys vs) (rd (tys vs) n) x.2 (123 :: s)) k) := by
 have cx_rc := c_recordS (s := s) hR h hw hx hrf hso (by omega) hn hkl
 have he0 : bt (123 :: s) (Int.toNat 0) = 123 := bt_zero 123 s
 have hel : (123 :: s).length = s.length + 1 := rfl
 have h1' : (x.2.sort : Int) = 82 := by omega
 refine jB [(0, _), (1, _), (2, _), (3, _)] Try.func52 Try.ntmps52 fun B hok hB hW => ?_
 repeat' (first | refine jM ?_ | (refine k_op rfl ?_; first | refine c_bx rfl rfl rfl fun _ => ?_ | refine jV (g_ld rfl rfl rfl) ?_ | refine c_al rfl rfl fun _ => ?_ | refine c_stA rfl rfl rfl rfl rfl rfl ?_ | (refine jV (g_pickT rfl rfl rfl) ?_) | (refine c_rt rfl rfl rfl cx_rf rfl ?_)) | (refine k_gt rfl rfl (dTt ‹_›) ?_) | (refine k_tt rfl rfl ?_) | (refine k_any (s_any (id := 3) _ (fun _ h => h) mixed ?_); refine jU 9 [1, 2, 3, 5] (bts 13 46) ?_ ?_; (focus (repeat' (first | exact trivial | apply And.intro | omega))); (refine jG (bts 13 47) 0 rfl (g_ldA rfl rfl rfl rfl) ?_); (refine jG (bts 13 63) 4 rfl (g_ldA rfl rfl rfl rfl) ?_); refine jA 6 rfl ?_; (refine c_fns rfl rfl rfl cx_rc rfl ?_; rintro _ G hle ⟨q1, r1, ok1, rfl, hyes, hno⟩; skip); refine jS (bts 13 127) ?_; refine jT 0 [7, 8, 9, 10, 11, 12] (bts 13 8191) ?_; refine x_done (by kernel_rfl) (k_bk ?_)))
 refine jZ (vs := [_, _, _]) rfl ⟨rfl, rfl, rfl, trivial⟩ rfl ⟨hle, rfl, ?_⟩
 rw [oneOf_three]
 exact ⟨_, _, _, rfl, hyes, hno⟩
theorem c_namE {n : Nat} {u : Value} {vs : List TyX} {x : TyX} {k s : List UInt8} (h : SchR G u vs) (hw : SchW (tys vs)) (hx : x ∈ vs) (hrf : refT (tys vs) k = some x.2) (cx_rf : PuG Try.prog 49 [u, S k] G (· = Tu [Ag [U8 x.2.sort, S x.2.name, slX x], Bo true])) (hso : x.2.sort = 69) (hs : s.length ≤ 1999999) (hn : n ≤ 1000) :
  FnS Try.prog 52 [Ag [u], S (35 :: s), S k, I (n + 1 : Nat)] G (ReadP (tys vs) (rdTyped (tys vs) (rd (tys vs) n) x.2 (35 :: s)) k) := by
 have hxt : x.2 ∈ tys vs := List.mem_map_of_mem hx
 have hTW := hw.ty _ hxt
 have hfl := hTW.len
 have cx_tg := c_tag (G := G) (u := u) (x := x) (s := s) (by omega) h.sl.one (h.fl x hx) (by omega)
 have he0 : bt (35 :: s) (Int.toNat 0) = 35 := bt_zero 35 s
 have hel : (35 :: s).length = s.length + 1 := rfl
 have h1' : (x.2.sort : Int) = 69 := by omega
 have hRT : rdTyped (tys vs) (rd (tys vs) n) x.2 (35 :: s) = match rdNum 200 s with
   | none => none
   | some (n, r) => if (fldT x.2.fields n).isSome = true then some (.nd 69 [] n [], r) else none := by
  unfold rdTyped
  dsimp only
  rw [if_neg (by omega), if_pos hso, if_pos (show (35 : UInt8).toNat = 35 from rfl)]
  cases rdNum 200 s <;> rfl
 unfold rdNum at hRT
 simp only [tyF] at cx_tg
 refine jB [(0, _), (1, _), (2, _), (3, _)] Try.func52 Try.ntmps52 fun B hok hB hW => ?_
 repeat' (first | refine jM ?_ | (refine k_op rfl ?_; first | refine c_bx rfl rfl rfl fun _ => ?_ | refine jV (g_ld rfl rfl rfl) ?_ | refine c_al rfl rfl fun _ => ?_ | refine c_stA rfl rfl rfl rfl rfl rfl ?_ | (refine jV (g_pickT rfl rfl rfl) ?_) | (refine jV (g_pickF rfl rfl rfl) ?_) | refine c_bsl rfl rfl rfl rfl rfl rfl fun _ => ?_ | refine jV (g_bld rfl rfl) ?_ | (refine c_rt rfl rfl rfl cx_rf rfl ?_)) | (refine k_gt rfl rfl (dTt ‹_›) ?_) | (refine k_gf rfl rfl (dFf (by omega)) ?_) | (refine k_tt rfl rfl ?_) | (refine k_ff rfl rfl ?_) | (refine k_any (s_any (id := 5) _ (fun _ h => h) mixed ?_); refine jU 11 [1, 2] (bts 13 6) ?_ ?_; (focus (repeat' (first | exact trivial | apply And.intro | omega))); (refine jG (bts 13 7) 0 rfl (g_ldA rfl rfl rfl rfl) ?_); (refine jG (bts 13 15) 3 rfl (g_ldA rfl rfl rfl rfl) ?_); refine x_all [4, 9] (by kernel_rfl) (by decide) ⟨?_, ?_, trivial⟩; (focus (refine x_opg rfl rfl ?_; (refine c_pu rfl rfl rfl cx_tg rfl ?_; rintro _ ⟨nt, rfl, hnt⟩); refine jK (bts 13 31) ?_; refine jU 4 [5, 6, 7, 8] (bts 13 511) ?_ ?_; (focus (repeat' (exact trivial))); refine jA 9 rfl ?_; (refine c_al rfl rfl fun _ => ?_); refine jK (bts 13 1023) ?_; refine jA 10 rfl ?_; (refine c_stA rfl rfl rfl rfl rfl rfl ?_); refine jK (bts 13 2047) ?_; refine jU 0 [11, 12] (bts 13 8191) ?_ ?_; (focus (repeat' (exact trivial))); refine x_done (by kernel_rfl) (k_bk ?_))); rotate_left 1; (focus (refine x_opg rfl rfl ?_; (refine c_al rfl rfl fun _ => ?_); refine jK (bts 13 527) ?_; refine jA 4 rfl ?_; (refine c_pu rfl rfl rfl cx_tg rfl ?_; rintro _ ⟨nt, rfl, hnt⟩); refine jK (bts 13 543) ?_; refine jU 3 [5, 6, 7, 8] (bts 13 1023) ?_ ?_; (focus (repeat' (exact trivial))); refine jA 10 rfl ?_; (refine c_stA rfl rfl rfl rfl rfl rfl ?_); refine jK (bts 13 2047) ?_; refine jU 0 [11, 12] (bts 13 8191) ?_ ?_; (focus (repeat' (exact trivial))); refine x_done (by kernel_rfl) (k_bk ?_))); rotate_left 1))
 all_goals
  rename_i y y8
  refine Nx.sealC (b := y) fun G2 hG2 hsy => ?_
  refine Nx.sealC (b := y8) fun G3 hG3 hsg => ?_
  refine jZ (vs := [_, _, _]) rfl ⟨rfl, rfl, rfl, trivial⟩ rfl ⟨(hG2.trans hG3), rfl, ?_⟩
  rw [oneOf_three]
  refine ⟨_, _, _, rfl, fun hb => ?_, fun hb => ?_⟩
  ·simp only [Bool.and_eq_true] at hb
   obtain ⟨hb1, hb2⟩ := hb
   obtain ⟨m0, hm⟩ := Option.isSome_iff_exists.1 hb1
   obtain ⟨d, hd⟩ := Option.isSome_iff_exists.1 hb2
   have hnm := hnt m0 hm
   subst hnm
   rw [hd] at hsy
   simp only [Option.getD_some] at hsy
   have hdm : d ∈ x.2.fields := List.mem_of_find?_eq_some hd
   have hdt : d.tag = nt := by have := List.find?_some hd; simpa using this
   exact ⟨.nd 69 [] d.tag [], y8, rfl, by rw [hRT, hm]; dsimp only [Option.map_some]; rw [hd, hdt]; rfl, .enm k y8 y x.2 d ⟨hrf, hso⟩ hdm hsg (hsy.mono hG3)⟩
  ·rw [hRT]
   cases hm : numOf (s.takeWhile isDg) 200 with
   | none => rfl
   | some m0 =>
    have hnm := hnt m0 hm
    subst hnm
    rw [hm] at hb
    dsimp only [Option.map_some]
    rw [if_neg]
    intro h2
    rw [h2] at hb; cases hb
theorem c_namU {n : Nat} {u : Value} {vs : List TyX} {x : TyX} {k s : List UInt8} (hR : ReadC n u vs) (h : SchR G u vs) (hw : SchW (tys vs)) (hx : x ∈ vs) (hrf : refT (tys vs) k = some x.2) (cx_rf : PuG Try.prog 49 [u, S k] G (· = Tu [Ag [U8 x.2.sort, S x.2.name, slX x], Bo true])) (hso : x.2.sort = 85) (hs : s.length ≤ 1999999) (hn : n ≤ 1000) :
  FnS Try.prog 52 [Ag [u], S (60 :: s), S k, I (n + 1 : Nat)] G (ReadP (tys vs) (rdTyped (tys vs) (rd (tys vs) n) x.2 (60 :: s)) k) := by
 have edn : ((n + 1 : Nat) : Int) - 1 = (n : Nat) := by omega
 have hxt : x.2 ∈ tys vs := List.mem_map_of_mem hx
 have hTW := hw.ty _ hxt
 have hfl := hTW.len
 have cx_tg := c_tag (G := G) (u := u) (x := x) (s := s) (by omega) h.sl.one (h.fl x hx) (by omega)
 have he0 : bt (60 :: s) (Int.toNat 0) = 60 := bt_zero 60 s
 have hel : (60 :: s).length = s.length + 1 := rfl
 have h1' : (x.2.sort : Int) = 85 := by omega
 have hRT : rdTyped (tys vs) (rd (tys vs) n) x.2 (60 :: s) = match rdField (rd (tys vs) n) x.2 s with
   | none => none
   | some ((d, v), r) => match r with
    | [] => none
    | c' :: r' => if c'.toNat = 62 then some (.nd 85 [] d.tag [v], r') else none := by
  unfold rdTyped
  dsimp only
  rw [if_neg (by omega), if_neg (by omega), if_pos (show (60 : UInt8).toNat = 60 from rfl)]
  cases rdField (rd (tys vs) n) x.2 s <;> rfl
 simp only [tyF] at cx_tg
 refine jB [(0, _), (1, _), (2, _), (3, _)] Try.func52 Try.ntmps52 fun B hok hB hW => ?_
 repeat' (first | refine jM ?_ | (refine k_op rfl ?_; first | refine c_bx rfl rfl rfl fun _ => ?_ | refine jV (g_ld rfl rfl rfl) ?_ | refine c_al rfl rfl fun _ => ?_ | refine c_stA rfl rfl rfl rfl rfl rfl ?_ | (refine jV (g_pickT rfl rfl rfl) ?_) | (refine jV (g_pickF rfl rfl rfl) ?_) | (refine c_rt rfl rfl rfl cx_rf rfl ?_)) | (refine k_gt rfl rfl (dTt ‹_›) ?_) | (refine k_gf rfl rfl (dFf (by omega)) ?_) | (refine k_tt rfl rfl ?_) | (refine k_ff rfl rfl ?_))
 (refine k_any (s_any (id := 8) _ (fun _ h => h) mixed ?_); refine jU 11 [1, 2] (bts 13 6) ?_ ?_; (focus (repeat' (first | exact trivial | apply And.intro | omega))); (refine jG (bts 13 7) 0 rfl (g_ldA rfl rfl rfl rfl) ?_); (refine jG (bts 13 15) 3 rfl (g_ldA rfl rfl rfl rfl) ?_); refine x_all [4, 9] (by kernel_rfl) (by decide) ⟨?_, ?_, trivial⟩; (focus (refine x_opg rfl rfl ?_; (refine c_pu rfl rfl rfl cx_tg rfl ?_; rintro _ ⟨nt, rfl, hnt⟩); refine jK (bts 13 31) ?_; refine jU 4 [5, 6, 7, 8] (bts 13 511) ?_ ?_; (focus (repeat' (exact trivial))); refine jA 9 rfl ?_; (refine c_al rfl rfl fun _ => ?_); refine jK (bts 13 1023) ?_; refine jA 10 rfl ?_; (refine c_stA rfl rfl rfl rfl rfl rfl ?_); refine jK (bts 13 2047) ?_; refine jU 0 [11, 12] (bts 13 8191) ?_ ?_; (focus (repeat' (exact trivial))); refine x_done (by kernel_rfl) (k_bk ?_))); rotate_left 1; (focus (refine x_opg rfl rfl ?_; (refine c_al rfl rfl fun _ => ?_); refine jK (bts 13 527) ?_; refine jA 4 rfl ?_; (refine c_pu rfl rfl rfl cx_tg rfl ?_; rintro _ ⟨nt, rfl, hnt⟩); refine jK (bts 13 543) ?_; refine jU 3 [5, 6, 7, 8] (bts 13 1023) ?_ ?_; (focus (repeat' (exact trivial))); refine jA 10 rfl ?_; (refine c_stA rfl rfl rfl rfl rfl rfl ?_); refine jK (bts 13 2047) ?_; refine jU 0 [11, 12] (bts 13 8191) ?_ ?_; (focus (repeat' (exact trivial))); refine x_done (by kernel_rfl) (k_bk ?_))); rotate_left 1)
 all_goals
  have hnone : ∀ {v : Value} {G' : Gh} {r : List UInt8}, rdField (rd (tys vs) n) x.2 s = none → v = Tu [.pointer none, S r, Bo false] → ReadP (tys vs) (rdTyped (tys vs) (rd (tys vs) n) x.2 (60 :: s)) k v G' := fun h1 h2 => ⟨_, _, _, h2, fun h => (by cases h), fun _ => by rw [hRT, h1]⟩
  cases hb16 : (numOf (s.takeWhile isDg) 200).isSome && (fldT x.2.fields nt).isSome with
  | false =>
   have hno : rdField (rd (tys vs) n) x.2 s = none := by
    cases hm : numOf (s.takeWhile isDg) 200 with
    | none => exact field_none (.inl hm)
    | some m0 =>
     refine field_none (.inr ⟨m0, hm, ?_⟩)
     rw [hm] at hb16
     rw [← hnt m0 hm]
     cases hf : fldT x.2.fields nt with
     | none => rfl
     | some d => rw [hf] at hb16; cases hb16
   repeat' (first | (refine jR ?_) | (refine k_op rfl ?_; (refine jV (g_pickT rfl rfl rfl) ?_)) | (refine k_gt rfl rfl rfl ?_) | (refine k_tt rfl rfl ?_))
   all_goals refine jZ (vs := [_, _, _]) rfl ⟨rfl, rfl, rfl, trivial⟩ rfl ⟨Gh.le.refl _, rfl, ?_⟩
   all_goals exact hnone hno rfl
  | true =>
   simp only [Bool.and_eq_true] at hb16
   obtain ⟨hb1, hb2⟩ := hb16
   obtain ⟨m0, hm⟩ := Option.isSome_iff_exists.1 hb1
   obtain ⟨d, hd⟩ := Option.isSome_iff_exists.1 hb2
   have hnm := hnt m0 hm
   subst hnm
   rw [hd]
   simp only [Option.getD_some]
   have hdm : d ∈ x.2.fields := List.mem_of_find?_eq_some hd
   have hwl := while_len isDg s
   cases hdw : s.dropWhile isDg with
   | nil =>
    have hno : rdField (rd (tys vs) n) x.2 s = none := field_noeq hm (fun s2 h => by rw [hdw] at h; cases h)
    repeat' (first | (refine jR ?_) | (refine k_op rfl ?_; first | (refine jV (g_pickT rfl rfl rfl) ?_) | (refine jV (g_pickF rfl rfl rfl) ?_)) | (refine k_gt rfl rfl rfl ?_) | (refine k_gf rfl rfl rfl ?_) | (refine k_tt rfl rfl ?_))
    all_goals refine jZ (vs := [_, _, _]) rfl ⟨rfl, rfl, rfl, trivial⟩ rfl ⟨Gh.le.refl _, rfl, ?_⟩
    all_goals exact hnone hno rfl
   | cons e r2 =>
    have he20 : bt (e :: r2) (Int.toNat 0) = e.toNat := bt_zero e r2
    have hel2 : (e :: r2).length = r2.length + 1 := rfl
    by_cases h61 : e.toNat = 61
    case neg =>
     have hno : rdField (rd (tys vs) n) x.2 s = none := field_noeq hm (fun s2 h => by rw [hdw] at h; simp only [List.cons.injEq] at h; exact h61 (by rw [h.1]; rfl))
     repeat' (first | refine jM ?_ | (refine k_op rfl ?_; (refine jV (g_pickF rfl rfl rfl) ?_)) | (refine k_gf rfl rfl rfl ?_) | (refine k_tt rfl (dTt (by omega)) ?_))
     all_goals refine jZ (vs := [_, _, _]) rfl ⟨rfl, rfl, rfl, trivial⟩ rfl ⟨Gh.le.refl _, rfl, ?_⟩
     all_goals exact hnone hno rfl
    have he61 : e = 61 := UInt8.toNat_inj.1 h61
    have hfs := field_some (f := rd (tys vs) n) (t := x.2) (s := s) hm hd (by rw [hdw, he61])
    have hdk : kindIn (tys vs) d.kind = true := kind_in hw hxt (by omega) hdm
    rw [hdw, List.length_cons] at hwl
    have cx_rd := hR G d.kind r2 h hdk (by omega)
    rw [← edn] at cx_rd
    repeat' (first | refine jM ?_ | (refine k_op rfl ?_; (refine jV (g_pickF rfl rfl rfl) ?_)) | (refine k_gf rfl rfl rfl ?_) | (refine k_ff rfl (dFf (by omega)) ?_))
    (refine k_any (s_any (id := 11) _ (fun _ h => h) mixed ?_); refine jU 10 [1, 2, 3, 5, 6] (bts 15 110) ?_ ?_; (focus (repeat' (first | exact trivial | apply And.intro | omega))); (refine jG (bts 15 111) 0 rfl (g_ldA rfl rfl rfl rfl) ?_); (refine jG (bts 15 127) 4 rfl (g_ld rfl rfl rfl) ?_); refine jA 7 rfl ?_; (refine c_fns rfl rfl rfl cx_rd rfl ?_; rintro _ G hle ⟨q1, r1, ok1, rfl, hyes, hno⟩; skip); refine jS (bts 15 255) ?_; refine jT 0 [8, 9, 10, 11, 12, 13, 14] (bts 15 32767) ?_; refine x_done (by kernel_rfl) (k_bk ?_))
    cases ok1 with
    | false =>
     have hno2 : rdField (rd (tys vs) n) x.2 s = none := by rw [hfs, hno rfl]; rfl
     repeat' (first | (refine jR ?_) | (refine k_op rfl ?_; (refine jV (g_pickT rfl rfl rfl) ?_)) | (refine k_gt rfl rfl rfl ?_) | (refine k_tt rfl rfl ?_))
     all_goals refine jZ (vs := [_, _, _]) rfl ⟨rfl, rfl, rfl, trivial⟩ rfl ⟨hle, rfl, ?_⟩
     all_goals exact hnone hno2 rfl
    | true =>
     obtain ⟨w, wb, rfl, hf, hrep⟩ := hyes rfl
     have hfd : rdField (rd (tys vs) n) x.2 s = some ((d, w), r1) := by rw [hfs, hf]; rfl
     rw [hfd] at hRT
     dsimp only at hRT
     cases r1 with
     | nil =>
      repeat' (first | (refine jR ?_) | (refine k_op rfl ?_; first | (refine jV (g_pickT rfl rfl rfl) ?_) | (refine jV (g_pickF rfl rfl rfl) ?_)) | (refine k_gt rfl rfl rfl ?_) | (refine k_gf rfl rfl rfl ?_) | (refine k_tt rfl rfl ?_))
      all_goals refine jZ (vs := [_, _, _]) rfl ⟨rfl, rfl, rfl, trivial⟩ rfl ⟨hle, rfl, ?_⟩
      all_goals (rw [oneOf_three]; exact ⟨_, _, _, rfl, fun h => (by cases h), fun _ => hRT⟩)
     | cons e3 r3 =>
      have he30 : bt (e3 :: r3) (Int.toNat 0) = e3.toNat := bt_zero e3 r3
      have hel3 : (e3 :: r3).length = r3.length + 1 := rfl
      dsimp only at hRT
      by_cases h62 : e3.toNat = 62
      case neg =>
       rw [if_neg h62] at hRT
       repeat' (first | refine jM ?_ | (refine k_op rfl ?_; (refine jV (g_pickF rfl rfl rfl) ?_)) | (refine k_gf rfl rfl rfl ?_) | (refine k_tt rfl (dTt (by omega)) ?_))
       all_goals refine jZ (vs := [_, _, _]) rfl ⟨rfl, rfl, rfl, trivial⟩ rfl ⟨hle, rfl, ?_⟩
       all_goals (rw [oneOf_three]; exact ⟨_, _, _, rfl, fun h => (by cases h), fun _ => hRT⟩)
      rw [if_pos h62] at hRT
      repeat' (first | refine jM ?_ | (refine k_op rfl ?_; (refine jV (g_pickF rfl rfl rfl) ?_)) | (refine k_gf rfl rfl rfl ?_) | (refine k_ff rfl (dFf (by omega)) ?_))
      (refine k_any (s_any (id := 14) _ (fun _ h => h) mixed ?_); refine jU 8 [0, 1, 4, 8, 9] (bts 13 787) ?_ ?_; (focus (repeat' (first | exact trivial | apply And.intro | omega))); (refine jG (bts 13 791) 2 rfl (g_ld rfl rfl rfl) ?_); refine x_all [3, 5] (by kernel_rfl) (by decide) ⟨?_, ?_, trivial⟩; (focus (refine x_opg rfl rfl ?_; (refine c_bsl rfl rfl rfl rfl rfl rfl fun _ => ?_); refine jS (bts 13 799) ?_; refine jA 5 rfl ?_; (refine c_bsl rfl rfl rfl rfl rfl rfl fun _ => ?_); refine jS (bts 13 831) ?_; (refine jG (bts 13 895) 6 rfl (g_bld rfl rfl) ?_); refine jA 7 rfl ?_; (refine c_bx rfl rfl rfl fun _ => ?_); refine jS (bts 13 1023) ?_; refine jU 0 [10, 11, 12] (bts 13 8191) ?_ ?_; (focus (repeat' (exact trivial))); refine x_done (by kernel_rfl) (k_bk ?_))); rotate_left 1; (focus (refine x_opg rfl rfl ?_; (refine c_bsl rfl rfl rfl rfl rfl rfl fun _ => ?_); refine jS (bts 13 823) ?_; refine jA 3 rfl ?_; (refine c_bsl rfl rfl rfl rfl rfl rfl fun _ => ?_); refine jS (bts 13 831) ?_; (refine jG (bts 13 895) 6 rfl (g_bld rfl rfl) ?_); refine jA 7 rfl ?_; (refine c_bx rfl rfl rfl fun _ => ?_); refine jS (bts 13 1023) ?_; refine jU 0 [10, 11, 12] (bts 13 8191) ?_ ?_; (focus (repeat' (exact trivial))); refine x_done (by kernel_rfl) (k_bk ?_))); rotate_left 1)
      all_goals repeat' (refine jR ?_)
      all_goals
       rename_i y1 y2 y8
       refine Nx.sealC (b := y1) fun G2 hG2 hs1 => ?_
       refine Nx.sealC (b := y2) fun G3 hG3 hs2 => ?_
       refine Nx.sealC (b := y8) fun G4 hG4 hsg => ?_
       refine jZ (vs := [_, _, _]) rfl ⟨rfl, rfl, rfl, trivial⟩ rfl ⟨(((hle.trans hG2).trans hG3).trans hG4), rfl, ?_⟩
       rw [oneOf_three]
       first | exact ⟨_, _, _, rfl, fun _ => ⟨.nd 85 [] d.tag [w], y8, rfl, hRT, .uni k y8 y1 y2 wb 1 x.2 d w (Nat.le_refl _) ⟨hrf, hso⟩ hdm hsg (hs1.mono (hG3.trans hG4)) (hs2.mono hG4) (hrep.mono ((hG2.trans hG3).trans hG4))⟩, fun h => (by cases h)⟩ | exact ⟨_, _, _, rfl, fun _ => ⟨.nd 85 [] d.tag [w], y8, rfl, hRT, .uni k y8 y2 y1 wb 1 x.2 d w (Nat.le_refl _) ⟨hrf, hso⟩ hdm hsg (hs2.mono hG4) (hs1.mono (hG3.trans hG4)) (hrep.mono ((hG2.trans hG3).trans hG4))⟩, fun h => (by cases h)⟩
theorem rd_nil {ts : List Ty} {n : Nat} {k : List UInt8} : rd ts n k [] = none := by
 cases h : rd ts n k [] with
 | none => rfl
 | some x => have := rd_short h; simp at this
theorem c_read0 {n : Nat} {u : Value} {vs : List TyX} {k s : List UInt8} (hc : s = [] ∨ n = 0) (hn : n ≤ 1000) : FnS Try.prog 36 [Ag [u], S s, S k, I (n : Nat)] G (ReadP (tys vs) (rd (tys vs) n k s) k) := by
 have hno : rd (tys vs) n k s = none := by
  rcases hc with rfl | rfl
  ·exact rd_nil
  ·rfl
 by_cases hs : s = []
 ·refine jB [(0, _), (1, _), (2, _), (3, _)] Try.func36 Try.ntmps36 fun B hok hB hW => ?_
  repeat' (first | (refine jR ?_) | (refine k_op rfl ?_; first | refine c_bx rfl rfl rfl fun _ => ?_ | (refine jV (g_pickT rfl rfl rfl) ?_)) | (refine k_gt rfl rfl (dTt ‹_›) ?_) | (refine k_tt rfl rfl ?_))
  refine jZ (vs := [_, _, _]) rfl ⟨rfl, rfl, rfl, trivial⟩ rfl ⟨Gh.le.refl _, rfl, ?_⟩
  rw [oneOf_three]
  exact ⟨_, _, _, rfl, fun h => (by cases h), fun _ => hno⟩
 ·have hn0 : n = 0 := by
   rcases hc with h | h
   ·exact absurd h hs
   ·exact h
  refine jB [(0, _), (1, _), (2, _), (3, _)] Try.func36 Try.ntmps36 fun B hok hB hW => ?_
  repeat' (first | (refine jR ?_) | (refine k_op rfl ?_; first | refine c_bx rfl rfl rfl fun _ => ?_ | (refine jV (g_pickF rfl rfl rfl) ?_)) | (refine k_gf rfl rfl (dFf ‹_›) ?_) | (refine k_tt rfl (dTt (by omega)) ?_))
  refine jZ (vs := [_, _, _]) rfl ⟨rfl, rfl, rfl, trivial⟩ rfl ⟨Gh.le.refl _, rfl, ?_⟩
  rw [oneOf_three]
  exact ⟨_, _, _, rfl, fun h => (by cases h), fun _ => hno⟩
theorem c_readL {n : Nat} {u : Value} {vs : List TyX} {k s : List UInt8} {e : UInt8} (hR : ReadC n u vs) (h : SchR G u vs) (hk : kindIn (tys vs) (91 :: k) = true) (hs : s.length ≤ 1999999) (hn : n ≤ 999) :
  FnS Try.prog 36 [Ag [u], S (e :: s), S (91 :: k), I (n + 1 : Nat)] G (ReadP (tys vs) (rd (tys vs) (n + 1) (91 :: k) (e :: s)) (91 :: k)) := by
 have hrd : rd (tys vs) (n + 1) (91 :: k) (e :: s) = rdList (rd (tys vs) n k) (e :: s) := by rw [rd]; exact rdK_list rfl
 have he0 : bt (e :: s) (Int.toNat 0) = e.toNat := bt_zero e s
 have hel : (e :: s).length = s.length + 1 := rfl
 have hk0 : bt (91 :: k) (Int.toNat 0) = 91 := bt_zero 91 k
 have hkl2 : (91 :: k).length = k.length + 1 := rfl
 by_cases h91 : e.toNat = 91
 ·obtain rfl := u8_eq h91 (by decide)
  have cx_ls := c_listS (s := s) hR h (kindIn_tail (.inl rfl) hk) (by omega) (by omega)
  refine jB [(0, _), (1, _), (2, _), (3, _)] Try.func36 Try.ntmps36 fun B hok hB hW => ?_
  repeat' (first | refine jM ?_ | (refine k_op rfl ?_; first | refine c_bx rfl rfl rfl fun _ => ?_ | (refine jV (g_pickF rfl rfl rfl) ?_)) | (refine k_gf rfl rfl rfl ?_) | (refine k_tt rfl rfl ?_) | (refine k_ff rfl rfl ?_) | (refine k_any (s_any (id := 7) _ (fun _ h => h) mixed ?_); refine jU 8 [1, 2, 3, 4] (bts 12 30) ?_ ?_; (focus (repeat' (first | exact trivial | apply And.intro | omega))); (refine jG (bts 12 31) 0 rfl (g_ldA rfl rfl rfl rfl) ?_); refine jA 5 rfl ?_; (refine c_fns rfl rfl rfl cx_ls rfl ?_; rintro _ G hle ⟨q1, r1, ok1, rfl, hyes, hno⟩; skip); refine jS (bts 12 63) ?_; refine jT 0 [6, 7, 8, 9, 10, 11] (bts 12 4095) ?_; refine x_done (by kernel_rfl) (k_bk ?_)))
  refine jZ (vs := [_, _, _]) rfl ⟨rfl, rfl, rfl, trivial⟩ rfl ⟨hle, rfl, ?_⟩
  rw [oneOf_three, hrd]
  exact ⟨_, _, _, rfl, hyes, hno⟩
 ·have hno : rdList (rd (tys vs) n k) (e :: s) = none := by unfold rdList; dsimp only; rw [if_neg h91]
  refine jB [(0, _), (1, _), (2, _), (3, _)] Try.func36 Try.ntmps36 fun B hok hB hW => ?_
  repeat' (first | refine jM ?_ | (refine k_op rfl ?_; first | refine c_bx rfl rfl rfl fun _ => ?_ | (refine jV (g_pickF rfl rfl rfl) ?_)) | (refine k_gf rfl rfl rfl ?_) | (refine k_tt rfl (by first | rfl | (refine decide_eq_true ?_; (omega))) ?_) | (refine k_ff rfl rfl ?_))
  refine jZ (vs := [_, _, _]) rfl ⟨rfl, rfl, rfl, trivial⟩ rfl ⟨Gh.le.refl _, rfl, ?_⟩
  rw [oneOf_three, hrd]
  exact ⟨_, _, _, rfl, fun h => (by cases h), fun _ => hno⟩
theorem c_readO {n : Nat} {u : Value} {vs : List TyX} {k s : List UInt8} {e : UInt8} (hR : ReadC n u vs) (h : SchR G u vs) (hk : kindIn (tys vs) (63 :: k) = true) (hs : s.length ≤ 1999999) (hn : n ≤ 999) :
  FnS Try.prog 36 [Ag [u], S (e :: s), S (63 :: k), I (n + 1 : Nat)] G (ReadP (tys vs) (rd (tys vs) (n + 1) (63 :: k) (e :: s)) (63 :: k)) := by
 have edn : ((n + 1 : Nat) : Int) - 1 = (n : Nat) := by omega
 have hrd : rd (tys vs) (n + 1) (63 :: k) (e :: s) = if e.toNat = 45 then some (.nd 63 [] 0 [], s) else if e.toNat = 43 then (rd (tys vs) n k s).map fun x => (.nd 63 [] 0 [x.1], x.2) else none := by
  rw [rd]; unfold rdK
  dsimp only
  rw [if_neg (show ¬ (63 : UInt8).toNat = 91 by decide), if_pos (show (63 : UInt8).toNat = 63 from rfl)]
 have he0 : bt (e :: s) (Int.toNat 0) = e.toNat := bt_zero e s
 have hel : (e :: s).length = s.length + 1 := rfl
 have hk0 : bt (63 :: k) (Int.toNat 0) = 63 := bt_zero 63 k
 have hkl2 : (63 :: k).length = k.length + 1 := rfl
 rw [hrd]
 by_cases h45 : e.toNat = 45
 ·rw [if_pos h45]
  refine jB [(0, _), (1, _), (2, _), (3, _)] Try.func36 Try.ntmps36 fun B hok hB hW => ?_
  repeat' (first | refine jM ?_ | (refine k_op rfl ?_; first | refine c_bx rfl rfl rfl fun _ => ?_ | (refine jV (g_pickF rfl rfl rfl) ?_)) | (refine k_gf rfl rfl rfl ?_) | (refine k_tt rfl (by first | rfl | (refine decide_eq_true ?_; (omega))) ?_) | (refine k_ff rfl rfl ?_) | (refine k_any (s_any (id := 10) _ (fun _ h => h) mixed ?_); refine jU 5 [0, 3, 4] (bts 8 25) ?_ ?_; (focus (repeat' (first | exact trivial | apply And.intro | omega))); (refine jG (bts 8 27) 1 rfl (g_bld rfl rfl) ?_); refine jA 2 rfl ?_; (refine c_bx rfl rfl rfl fun _ => ?_); refine jS (bts 8 31) ?_; refine jT 0 [5, 6, 7] (bts 8 255) ?_; refine x_done (by kernel_rfl) (k_bk ?_)))
  rename_i y
  refine Nx.sealC (b := y) fun G2 hG2 hsy => ?_
  refine jZ (vs := [_, _, _]) rfl ⟨rfl, rfl, rfl, trivial⟩ rfl ⟨hG2, rfl, ?_⟩
  rw [oneOf_three]
  exact ⟨_, _, _, rfl, fun _ => ⟨_, y, rfl, rfl, .non k y hsy⟩, fun h => (by cases h)⟩
 rw [if_neg h45]
 by_cases h43 : e.toNat = 43
 ·rw [if_pos h43]
  have cx_rd := hR G k s h (kindIn_tail (.inr rfl) hk) (by omega)
  rw [← edn] at cx_rd
  refine jB [(0, _), (1, _), (2, _), (3, _)] Try.func36 Try.ntmps36 fun B hok hB hW => ?_
  repeat' (first | refine jM ?_ | (refine k_op rfl ?_; first | refine c_bx rfl rfl rfl fun _ => ?_ | (refine jV (g_pickF rfl rfl rfl) ?_) | refine jV (g_bld rfl rfl) ?_ | refine c_bsl rfl rfl rfl rfl rfl rfl fun _ => ?_) | (refine k_gf rfl rfl rfl ?_) | (refine k_tt rfl rfl ?_) | (refine k_ff rfl (by first | rfl | (refine decide_eq_false ?_; (omega))) ?_) | (refine k_any (s_any (id := 13) _ (fun _ h => h) mixed ?_); refine jU 9 [1, 2, 3, 4, 5, 6] (bts 15 126) ?_ ?_; (focus (repeat' (first | exact trivial | apply And.intro | omega))); (refine jG (bts 15 127) 0 rfl (g_ldA rfl rfl rfl rfl) ?_); refine jA 7 rfl ?_; (refine c_fns rfl rfl rfl cx_rd rfl ?_; rintro _ G hle ⟨q1, r1, ok1, rfl, hyes, hno⟩; skip); refine jS (bts 15 255) ?_; refine jT 0 [8, 9, 10, 11, 12, 13, 14] (bts 15 32767) ?_; refine x_done (by kernel_rfl) (k_bk ?_)))
  rename_i y1 y8
  refine Nx.sealC (b := y1) fun G2 hG2 hs1 => ?_
  refine Nx.sealC (b := y8) fun G3 hG3 hsg => ?_
  refine jZ (vs := [_, _, _]) rfl ⟨rfl, rfl, rfl, trivial⟩ rfl ⟨((hle.trans hG2).trans hG3), rfl, ?_⟩
  rw [oneOf_three]
  refine ⟨_, _, _, rfl, fun hb => ?_, fun hb => by rw [hno hb]; rfl⟩
  obtain ⟨w, wb, rfl, hf, hrep⟩ := hyes hb
  exact ⟨.nd 63 [] 0 [w], y8, rfl, by rw [hf]; rfl, .opt k y8 y1 wb 1 w (Nat.le_refl _) hsg (hs1.mono hG3) (hrep.mono (hG2.trans hG3))⟩
 ·rw [if_neg h43]
  refine jB [(0, _), (1, _), (2, _), (3, _)] Try.func36 Try.ntmps36 fun B hok hB hW => ?_
  repeat' (first | refine jM ?_ | (refine k_op rfl ?_; first | refine c_bx rfl rfl rfl fun _ => ?_ | (refine jV (g_pickF rfl rfl rfl) ?_)) | (refine k_gf rfl rfl rfl ?_) | (refine k_tt rfl (by first | rfl | (refine decide_eq_true ?_; (omega))) ?_) | (refine k_ff rfl (by first | rfl | (refine decide_eq_false ?_; (omega))) ?_))
  refine jZ (vs := [_, _, _]) rfl ⟨rfl, rfl, rfl, trivial⟩ rfl ⟨Gh.le.refl _, rfl, ?_⟩
  rw [oneOf_three]
  exact ⟨_, _, _, rfl, fun h => (by cases h), fun _ => rfl⟩
theorem c_readA {n : Nat} {u : Value} {vs : List TyX} {k s : List UInt8} {e : UInt8} {t : Ty} (hR : ReadC n u vs) (h : SchR G u vs) (hw : SchW (tys vs)) (hk : kindIn (tys vs) k = true) (hrf : refT (tys vs) k = some t) (hs : s.length ≤ 1999999) (hn : n ≤ 999) :
  FnS Try.prog 36 [Ag [u], S (e :: s), S k, I (n + 1 : Nat)] G (ReadP (tys vs) (rd (tys vs) (n + 1) k (e :: s)) k) := by
 obtain ⟨r, rfl⟩ := refT_64 hrf
 have hkk := kindOk_kOk (kindIn_ok hk)
 have hrd : rd (tys vs) (n + 1) (64 :: r) (e :: s) = rdTyped (tys vs) (rd (tys vs) n) t (e :: s) := by
  rw [rd]; unfold rdK
  dsimp only
  rw [if_neg (show ¬ (64 : UInt8).toNat = 91 by decide), if_neg (show ¬ (64 : UInt8).toNat = 63 by decide), hrf]
 have hvl : vs.length ≤ 8 := by have := hw.len; unfold tys at this; simpa using this
 have href := refV_ty vs (64 :: r)
 have cx_rf := c_ref (k := 64 :: r) h (by omega) hkk.1 (by omega)
 rcases hr : refV vs (64 :: r) with _ | x
 ·rw [hr, hrf] at href; cases href
 rw [hr] at href cx_rf
 have htx : x.2 = t := by rw [hrf] at href; exact Option.some.inj href
 subst htx
 have hx := refV_mem hr
 have cx_na : FnS Try.prog 52 [Ag [u], S (e :: s), S (64 :: r), I (n + 1 : Nat)] G (ReadP (tys vs) (rdTyped (tys vs) (rd (tys vs) n) x.2 (e :: s)) (64 :: r)) := by
  have hso := (hw.ty _ (List.mem_map_of_mem hx)).sort
  by_cases h1 : x.2.sort = 82 ∧ e.toNat = 123
  ·obtain rfl := u8_eq h1.2 (by decide)
   exact c_namR hR h hw hx hrf cx_rf h1.1 hs (by omega) (by omega)
  by_cases h2 : x.2.sort = 69 ∧ e.toNat = 35
  ·obtain rfl := u8_eq h2.2 (by decide)
   exact c_namE h hw hx hrf cx_rf h2.1 hs (by omega)
  by_cases h3 : x.2.sort = 85 ∧ e.toNat = 60
  ·obtain rfl := u8_eq h3.2 (by decide)
   exact c_namU hR h hw hx hrf cx_rf h3.1 hs (by omega)
  refine c_namX h.sl.one cx_rf ?_ (by omega) (by omega)
  rcases hso with h4 | h4 | h4 <;> omega
 have hel : (e :: s).length = s.length + 1 := rfl
 have hk0 : bt (64 :: r) (Int.toNat 0) = 64 := bt_zero 64 r
 have hkl2 : (64 :: r).length = r.length + 1 := rfl
 refine jB [(0, _), (1, _), (2, _), (3, _)] Try.func36 Try.ntmps36 fun B hok hB hW => ?_
 repeat' (first | refine jM ?_ | (refine k_op rfl ?_; first | refine c_bx rfl rfl rfl fun _ => ?_ | (refine jV (g_pickF rfl rfl rfl) ?_) | refine jV (g_ldA rfl rfl rfl rfl) ?_ | (refine c_fns rfl rfl rfl cx_na rfl ?_; rintro _ G hle ⟨q1, r1, ok1, rfl, hyes, hno⟩; skip)) | (refine k_gf rfl rfl rfl ?_) | (refine k_tt rfl rfl ?_) | (refine k_ff rfl rfl ?_))
 refine jZ (vs := [_, _, _]) rfl ⟨rfl, rfl, rfl, trivial⟩ rfl ⟨hle, rfl, ?_⟩
 rw [oneOf_three, hrd]
 exact ⟨_, _, _, rfl, hyes, hno⟩
theorem c_readP {n : Nat} {u : Value} {vs : List TyX} {s : List UInt8} {c e : UInt8} (hu : u.oneCell' = true) (hc : c = 110 ∨ c = 116 ∨ c = 102) (hr : refT (tys vs) [c] = none) (hs : s.length ≤ 1999999) (hn : n ≤ 999) :
  FnS Try.prog 36 [Ag [u], S (e :: s), S [c], I (n + 1 : Nat)] G (ReadP (tys vs) (rd (tys vs) (n + 1) [c] (e :: s)) [c]) := by
 have hrd := rd_plain (ts := tys vs) (n := n) (s := e :: s) hc hr
 have hel : (e :: s).length = s.length + 1 := rfl
 have cx_pl : FnS Try.prog 53 [Ag [u], S (e :: s), S [c]] G (ReadP (tys vs) (rd (tys vs) (n + 1) [c] (e :: s)) [c]) := by
  rw [hrd]
  rcases hc with rfl | rfl | rfl
  ·rw [if_pos rfl]; exact c_plainN hu (by omega)
  ·rw [if_neg (by decide), if_pos rfl]; exact c_plainT hu (by omega) (by simp)
  ·rw [if_neg (by decide), if_neg (by decide)]; exact c_plainF hu (by omega)
 clear hrd
 rcases hc with rfl | rfl | rfl
 all_goals
  refine jB [(0, _), (1, _), (2, _), (3, _)] Try.func36 Try.ntmps36 fun B hok hB hW => ?_
  repeat' (first | (refine run (t := tb) 400 rfl ?_ ?_; (focus (repeat' (first | exact trivial | apply And.intro | omega | (simp only [List.length_append, List.length_cons, List.length_nil, Int.toNat_natCast]; omega))))) | (refine k_op rfl ?_; first | refine c_bx rfl rfl rfl fun _ => ?_ | (refine jV (g_pickF rfl rfl rfl) ?_) | refine jV (g_ldA rfl rfl rfl rfl) ?_ | (refine c_fns rfl rfl rfl cx_pl rfl ?_; rintro _ G hle ⟨q1, r1, ok1, rfl, hyes, hno⟩; skip)) | (refine k_gf rfl rfl rfl ?_) | (refine k_ff rfl rfl ?_))
  refine jZ (vs := [_, _, _]) rfl ⟨rfl, rfl, rfl, trivial⟩ rfl ⟨hle, rfl, ?_⟩
  rw [oneOf_three]
  exact ⟨_, _, _, rfl, hyes, hno⟩
theorem readC_all {u : Value} {vs : List TyX} (hw : SchW (tys vs)) : ∀ n, n ≤ 1000 → ReadC n u vs
 | 0, _ => fun G k s _ _ _ => c_read0 (.inr rfl) (by omega)
 | n + 1, hn => fun G k s h hk hs => by
  have hR := readC_all (u := u) (vs := vs) hw n (by omega)
  match s, hs with
  | [], _ => exact c_read0 (.inl rfl) hn
  | e :: s, hs =>
   simp only [List.length_cons] at hs
   match k, hk with
   | [], hk => cases hk
   | c :: k, hk =>
    by_cases h1 : c.toNat = 91
    ·obtain rfl := u8_eq h1 (by decide)
     exact c_readL hR h hk (by omega) (by omega)
    by_cases h2 : c.toNat = 63
    ·obtain rfl := u8_eq h2 (by decide)
     exact c_readO hR h hk (by omega) (by omega)
    have h91 : ¬ (c.toNat = 91 ∨ c.toNat = 63) := fun h => by rcases h with h | h <;> omega
    cases hr : refT (tys vs) (c :: k) with
    | some t => exact c_readA hR h hw hk hr (by omega) (by omega)
    | none =>
     rcases plain_kinds hk h91 hr with e1 | e1 | e1
     all_goals
      simp only [List.cons.injEq] at e1
      obtain ⟨rfl, rfl⟩ := e1
      exact c_readP h.sl.one (by simp) hr (by omega) (by omega)
theorem c_l4Of0 {s k w : List UInt8} (h : s.length ≤ 1048576 ∧ k.length ≤ 1048576 ∧ w.length ≤ 1048576) (hno : givenV s k w = none) : FnS Try.prog 21 [S s, S k, S w] G (fun v _ => ∃ u q, v = Tu [u, .pointer q, Bo false]) := by
 by_cases hk : kindS s k = true
 case neg =>
  have hk2 : kindS s k = false := by simpa using hk
  have cx_lk1 : ∀ G, FnS Try.prog 18 [S s, S k] G (fun v _ => ∃ u, v = Tu [u, Bo false]) := fun G => by
   refine (c_l3Kind (G := G) (s := s) (k := k) (by omega) (by omega)).mono ?_
   rintro v G' L' ⟨h1, h2, u, vs, rfl, _⟩
   exact ⟨h1, h2, u, by rw [hk2]⟩
  refine jB [(0, _), (1, _), (2, _)] Try.func21 Try.ntmps21 fun B hok hB hW => ?_
  repeat' (first | (refine jR ?_) | (refine k_op rfl ?_; first | (refine jV (g_pickT rfl rfl rfl) ?_) | (refine c_fns rfl rfl rfl (cx_lk1 _) rfl ?_; rintro _ G hle ⟨u1, rfl⟩; skip)) | (refine k_gt rfl rfl rfl ?_) | (refine k_tt rfl rfl ?_))
  all_goals refine jZ (vs := [_, _, _]) rfl ⟨rfl, rfl, rfl, trivial⟩ rfl ⟨hle, rfl, ?_⟩
  all_goals exact ⟨_, _, rfl⟩
 obtain ⟨ts, hs, hki, hw⟩ := kindS_some2 hk
 have hvo : valOf ts k w = none := by unfold givenV at hno; rw [hs] at hno; dsimp only at hno; rwa [if_pos hki] at hno
 have cx_lka : ∀ G, FnS Try.prog 18 [S s, S k] G (fun v G' => ∃ a c vs, v = Tu [.slice a vs.length c, Bo true] ∧ SchR G' (.slice a vs.length c) vs ∧ tys vs = ts) := fun G => by
  refine (c_l3Kind (G := G) (s := s) (k := k) (by omega) (by omega)).mono ?_
  rintro v G' L' ⟨h1, h2, u, vs, rfl, h4, _, h6⟩
  obtain ⟨_, ⟨rfl, h0⟩ | ⟨b, o, cap, rfl, _, _⟩⟩ := h4.sl
  ·exact ⟨h1, h2, none, 0, vs, by rw [hk, h0], by rw [h0]; exact h4, h6 ts hs hki⟩
  ·exact ⟨h1, h2, _, cap, vs, by rw [hk], h4, h6 ts hs hki⟩
 by_cases hl : w.length ≤ 400
 case neg =>
  refine jB [(0, _), (1, _), (2, _)] Try.func21 Try.ntmps21 fun B hok hB hW => ?_
  repeat' (first | (refine jR ?_) | (refine k_op rfl ?_; first | (refine jV (g_pickF rfl rfl rfl) ?_) | (refine c_fns rfl rfl rfl (cx_lka _) rfl ?_; rintro _ G hle ⟨av1, cv1, vs1, rfl, hR1, hT1⟩; skip)) | (refine k_gf rfl rfl rfl ?_) | (refine k_tt rfl (dTt (by omega)) ?_))
  all_goals refine jZ (vs := [_, _, _]) rfl ⟨rfl, rfl, rfl, trivial⟩ rfl ⟨hle, rfl, ?_⟩
  all_goals exact ⟨_, _, rfl⟩
 refine jB [(0, _), (1, _), (2, _)] Try.func21 Try.ntmps21 fun B hok hB hW => ?_
 repeat' (first | (refine jR ?_) | (refine k_op rfl ?_; first | (refine jV (g_pickF rfl rfl rfl) ?_) | refine jV (g_bld rfl rfl) ?_ | (refine c_fns rfl rfl rfl (cx_lka _) rfl ?_; rintro _ G hle ⟨av1, cv1, vs1, rfl, hR1, hT1⟩; skip)) | (refine k_gf rfl rfl rfl ?_) | (refine k_ff rfl (dFf (by omega)) ?_))
 have hR := readC_all (u := .slice av1 vs1.length cv1) (vs := vs1) (by rw [hT1]; exact hw) 12 (by omega) G k w hR1 (by rw [hT1]; exact hki) (by omega)
 obtain ⟨f, hf⟩ : ∃ f, f = rd (tys vs1) 12 k w := ⟨_, rfl⟩
 rw [← hf] at hR
 have cx_rd := hR
 clear hR
 repeat' (first | (refine jR ?_) | (refine k_op rfl ?_; first | (refine jV (g_pickT rfl rfl rfl) ?_) | (refine jV (g_pickF rfl rfl rfl) ?_) | (refine c_fns rfl rfl rfl cx_rd rfl ?_; rintro _ G hle ⟨q1, r1, ok1, rfl, hyes, hno⟩; skip)) | refine k_gb rfl rfl (fun _ => ?_) (fun _ => ?_))
 all_goals rename_i hok
 ·have hr : decide (r1 = []) = false := decide_eq_false fun h => by
   obtain ⟨v, b, _, h2, _⟩ := hyes hok
   unfold valOf at hvo
   rw [if_pos hl, ← hT1, ← hf, h2, h] at hvo
   cases hvo
  refine jZ (vs := [_, _, _]) rfl ⟨rfl, rfl, rfl, trivial⟩ rfl ⟨(Gh.le.trans (by assumption) hle), rfl, ?_⟩
  exact ⟨_, _, by rw [hr]; rfl⟩
 ·refine jZ (vs := [_, _, _]) rfl ⟨rfl, rfl, rfl, trivial⟩ rfl ⟨(Gh.le.trans (by assumption) hle), rfl, ?_⟩
  exact ⟨_, _, rfl⟩
theorem c_l4Of1 {s k w : List UInt8} {v : V} {ts : List Ty} (h : s.length ≤ 1048576 ∧ k.length ≤ 1048576 ∧ w.length ≤ 1048576) (hs : schemaOf s = some ts) (hki : kindIn ts k = true) (hvo : valOf ts k w = some v) :
  FnS Try.prog 21 [S s, S k, S w] G (fun r G' => ∃ u b, r = Tu [u, Pt b 0, Bo true] ∧ RepR G' ts v k b) := by
 have hw := schemaOf_w hs
 have hk : kindS s k = true := by unfold kindS; rw [hs]; exact hki
 have hl : w.length ≤ 400 := by
  by_cases hl : w.length ≤ 400
  ·exact hl
  ·unfold valOf at hvo; rw [if_neg hl] at hvo; cases hvo
 have h12 : rd ts 12 k w = some (v, []) := by
  unfold valOf at hvo
  rw [if_pos hl] at hvo
  split at hvo
  ·rename_i v' hv; rw [hv]; exact congrArg (fun x => some (x, [])) (Option.some.inj hvo)
  ·cases hvo
 have cx_lka : ∀ G, FnS Try.prog 18 [S s, S k] G (fun v G' => ∃ a c vs, v = Tu [.slice a vs.length c, Bo true] ∧ SchR G' (.slice a vs.length c) vs ∧ tys vs = ts) := fun G => by
  refine (c_l3Kind (G := G) (s := s) (k := k) (by omega) (by omega)).mono ?_
  rintro v G' L' ⟨h1, h2, u, vs, rfl, h4, _, h6⟩
  obtain ⟨_, ⟨rfl, h0⟩ | ⟨b, o, cap, rfl, _, _⟩⟩ := h4.sl
  ·exact ⟨h1, h2, none, 0, vs, by rw [hk, h0], by rw [h0]; exact h4, h6 ts hs hki⟩
  ·exact ⟨h1, h2, _, cap, vs, by rw [hk], h4, h6 ts hs hki⟩
 refine jB [(0, _), (1, _), (2, _)] Try.func21 Try.ntmps21 fun B hok hB hW => ?_
 repeat' (first | (refine jR ?_) | (refine k_op rfl ?_; first | (refine jV (g_pickF rfl rfl rfl) ?_) | refine jV (g_bld rfl rfl) ?_ | (refine c_fns rfl rfl rfl (cx_lka _) rfl ?_; rintro _ G hle ⟨av1, cv1, vs1, rfl, hR1, hT1⟩; skip)) | (refine k_gf rfl rfl rfl ?_) | (refine k_ff rfl (dFf (by omega)) ?_))
 subst hT1
 have cx_rd : FnS Try.prog 36 [Ag [.slice av1 vs1.length cv1], S w, S k, I (12 : Nat)] G (fun r G' => ∃ b, r = Tu [Pt b 0, S [], Bo true] ∧ RepR G' (tys vs1) v k b) := by
  refine (readC_all (u := .slice av1 vs1.length cv1) (vs := vs1) hw 12 (by omega) G k w hR1 hki (by omega)).mono ?_
  rintro r G' L' ⟨h1, h2, q, rest, ok, rfl, h3, h4⟩
  cases ok with
  | false => rw [h12] at h4; cases h4 rfl
  | true =>
   obtain ⟨v', b, rfl, h5, h6⟩ := h3 rfl
   rw [h12] at h5
   simp only [Option.some.injEq, Prod.mk.injEq] at h5
   obtain ⟨rfl, rfl⟩ := h5
   exact ⟨h1, h2, b, rfl, h6⟩
 refine k_op rfl ?_
 refine c_fns rfl rfl rfl cx_rd rfl ?_
 rintro _ G2 hle2 ⟨b, rfl, hrep⟩
 repeat' (first | (refine jR ?_) | (refine k_op rfl ?_; (refine jV (g_pickT rfl rfl rfl) ?_)) | (refine k_gt rfl rfl rfl ?_))
 refine jZ (vs := [_, _, _]) rfl ⟨rfl, rfl, rfl, trivial⟩ rfl ⟨(Gh.le.trans hle hle2), rfl, ?_⟩
 exact ⟨_, b, rfl, hrep⟩
theorem stepsOf_snoc {x : List UInt8} : ∀ {xs : List (List UInt8)} {ps : List Int}, stepsOf xs = some ps → stepsOf (xs ++ [x]) = (numOf x 999999).map fun n => ps ++ [n]
 | [], ps, h => by
  simp only [stepsOf, Option.some.injEq] at h; subst h
  simp only [List.nil_append, stepsOf]
  cases numOf x 999999 <;> rfl
 | y :: ys, ps, h => by
  unfold stepsOf at h
  cases hn : numOf y 999999 with
  | none => rw [hn] at h; cases h
  | some n =>
   rw [hn] at h
   dsimp only at h
   cases hs : stepsOf ys with
   | none => rw [hs] at h; cases h
   | some q =>
    rw [hs] at h
    simp only [Option.map_some, Option.some.injEq] at h
    subst h
    rw [List.cons_append]
    unfold stepsOf
    rw [hn]
    dsimp only
    rw [stepsOf_snoc hs]
    cases numOf x 999999 <;> rfl
theorem stepsOf_no {x : List UInt8} {ys : List (List UInt8)} (h : numOf x 999999 = none) : ∀ {xs : List (List UInt8)}, stepsOf (xs ++ x :: ys) = none
 | [] => by simp only [List.nil_append, stepsOf, h]
 | y :: xs => by
  rw [List.cons_append]
  unfold stepsOf
  cases numOf y 999999 with
  | none => rfl
  | some n => dsimp only; rw [stepsOf_no h]; rfl
abbrev tIntP : TypeId := 3
def StepsP (s : List UInt8) (v : Value) (G : Gh) : Prop := ∃ a c n, v = Tu [.slice a n c, Bo (pathOf s).isSome] ∧ ∀ p, pathOf s = some p → n = p.length ∧ SlV G (.slice a n c) 1 p.length (rows inR p)
theorem pathOf_ne {s : List UInt8} (h : s ≠ []) : pathOf s = match stepsOf (cut 47 s) with
  | some p => if p.length ≤ 8 then some p else none
  | none => none := by
 unfold pathOf; rw [if_neg h]
 all_goals (cases stepsOf (cut 47 s) <;> rfl)
theorem pathOf_bad {s : List UInt8} (h : s ≠ []) {i : Nat} (hi : i < (cut 47 s).length) (hn : numOf (nth (cut 47 s) i) 999999 = none) : pathOf s = none := by
 rw [pathOf_ne h]
 have e : cut 47 s = (cut 47 s).take i ++ nth (cut 47 s) i :: (cut 47 s).drop (i + 1) := by
  rw [nth_eq hi, List.getElem_cons_drop, List.take_append_drop]
 rw [e, stepsOf_no hn]
theorem c_stepsS {s : List UInt8} (h : s.length ≤ 1048576) : FnS Try.prog 23 [S s] G (StepsP s) := by
 by_cases h0 : s = []
 ·subst h0
  refine jB [(0, _)] Try.func23 Try.ntmps23 fun B hok hB hW => ?_
  repeat' (first | (refine jR ?_) | (refine k_op rfl ?_; (refine c_bsl rfl rfl rfl rfl rfl rfl fun _ => ?_)) | (refine k_tt rfl rfl ?_))
  rename_i x
  refine Nx.blkAcc (m := 0) (sz := 1) .here rfl ?_
  refine Nx.sealS (v := .slice (some ⟨x, 0, none⟩) 0 0) fun G2 hG2 hsl => ?_
  refine jZ (vs := [_, _]) rfl ⟨rfl, rfl, trivial⟩ rfl ⟨hG2, rfl, ?_⟩
  exact ⟨_, _, _, rfl, fun p hp => by
   obtain rfl : p = [] := by unfold pathOf at hp; simpa using hp.symm
   exact ⟨rfl, hsl⟩⟩
 have cx_cutS : FnS Try.prog 41 [S s, U8 47] G (fun v G' => SlV G' v 1 (cut 47 s).length (rows strF (cut 47 s))) := c_l3CutS (k := 47) (by omega)
 have hcl := cut_count (k := 47) (s := s)
 have hbad := fun {i : Nat} => pathOf_bad h0 (i := i)
 have hpo := pathOf_ne h0
 have hxl : ∀ i, i < (cut 47 s).length → (nth (cut 47 s) i).length ≤ 100000000 := fun i hi => by
  have := cut_len (nth_mem hi)
  omega
 generalize cut 47 s = xs at *
 refine jB [(0, _)] Try.func23 Try.ntmps23 fun B hok hB hW => ?_
 repeat' (first | (refine jR ?_) | (refine k_op rfl ?_; first | refine c_bsl rfl rfl rfl rfl rfl rfl fun _ => ?_ | (refine c_fns rfl rfl rfl cx_cutS rfl ?_; rintro _ G hle hcut; skip)) | (refine k_ff rfl (dFf ‹_›) ?_))
 rename_i x _
 obtain ⟨la, lc, rfl⟩ := hcut.sl
 refine Nx.blkAcc (m := 0) (sz := 1) .here rfl ?_
 refine k_loop (ι := List Int × Option Addr × Nat × Nat) (fun j => (j.1.length = j.2.2.2 ∧ j.2.2.2 ≤ xs.length) ∧ stepsOf (xs.take j.2.2.2) = some j.1) (fun j => [(4, .slice j.2.1 j.1.length j.2.2.1), (5, .slice la xs.length lc), (6, I j.2.2.2)]) (fun _ => G) (fun j => [.acc (.slice j.2.1 j.1.length j.2.2.1) tIntP 1 j.1.length (rows inR j.1)]) (fun j => xs.length - j.2.2.2) ([], some ⟨x, 0, none⟩, 0, 0) ?_ (by repeat' constructor) rfl sRr (fun j Hj => ?_)
 ·exact ⟨⟨rfl, Nat.zero_le _⟩, rfl⟩
 obtain ⟨ps, a, c, i⟩ := j
 dsimp only at Hj ⊢
 obtain ⟨⟨hpl, hi0⟩, hst⟩ := Hj
 by_cases hi : i < xs.length
 ·obtain ⟨bl, ol, cl, e, hsx⟩ := hcut.expl (by omega)
  simp only [Value.slice.injEq] at e
  obtain ⟨rfl, -, rfl⟩ := e
  have hxl1 := hxl i hi
  cases hn : numOf (nth xs i) 999999 with
  | none =>
   have hno := hbad hi hn
   have hns : (!(numOf (nth xs i) 999999).isSome) = true := by rw [hn]; rfl
   repeat' (first | (refine jR ?_) | (refine k_op rfl ?_; first | refine jV (g_lenL rfl) ?_ | (refine jV (g_iaddrN rfl rfl (by omega)) ?_) | (refine jV (g_ldRS rfl rfl (by assumption) ?_) ?_; (focus ((omega); done))) | (refine c_pu rfl rfl rfl (c_l3Num (by omega)) rfl ?_; rintro _ ⟨n, rfl, hnum⟩)) | (refine k_tt rfl (by first | assumption | (refine decide_eq_true ?_; (omega))) ?_))
   all_goals refine jZ (vs := [_, _]) rfl ⟨rfl, rfl, trivial⟩ rfl ⟨hle, rfl, ?_⟩
   all_goals exact ⟨_, _, _, by rw [hno]; rfl, fun p hp => by rw [hno] at hp; cases hp⟩
  | some m =>
   have hns : (!(numOf (nth xs i) 999999).isSome) = false := by rw [hn]; rfl
   repeat' (first | refine jM ?_ | (refine k_op rfl ?_; first | refine c_bsl rfl rfl rfl rfl rfl rfl fun _ => ?_ | refine jV (g_lenL rfl) ?_ | (refine jV (g_iaddrN rfl rfl (by omega)) ?_) | (refine jV (g_ldRS rfl rfl (by assumption) ?_) ?_; (focus ((omega); done))) | (refine c_apX rfl rfl rfl rfl rfl rfl rfl rfl rfl (by omega) fun _ _ => ?_) | (refine c_pu rfl rfl rfl (c_l3Num (by omega)) rfl ?_; rintro _ ⟨n, rfl, hnum⟩)) | (refine k_tt rfl (dTt (by omega)) ?_) | (refine k_ff rfl ‹_› ?_))
   rename_i y1 yc
   have hmn := hnum m hn
   subst hmn
   have hst2 : stepsOf (xs.take (i + 1)) = some (ps ++ [n]) := by rw [take_nth hi, stepsOf_snoc hst, hn]; rfl
   have hl1 : (ps ++ [n]).length = ps.length + 1 := by simp
   rw [show rows inR ps ++ [I n] = rows inR (ps ++ [n]) from (rows_snoc inR ps n).symm]
   exact k_rd (ps ++ [n], some ⟨y1, 0, none⟩, yc, i + 1) ⟨⟨by dsimp only; omega, by dsimp only; omega⟩, hst2⟩ (by dsimp only; omega) (by rw [hl1]; repeat (first | exact trivial | refine ⟨rfl, ?_⟩)) rfl (by rw [hl1]; repeat (first | exact List.nil_sublist _ | apply List.Sublist.cons_cons))
 ·rw [List.take_of_length_le (by omega)] at hst
  rw [hst] at hpo
  dsimp only at hpo
  repeat' (first | (refine jR ?_) | (refine k_op rfl ?_; (refine jV (g_lenL rfl) ?_)) | (refine k_ff rfl (dFf (by omega)) ?_))
  refine Nx.sealS (v := .slice a ps.length c) fun G2 hG2 hsl => ?_
  refine jZ (vs := [_, _]) rfl ⟨rfl, rfl, trivial⟩ rfl ⟨hle.trans hG2, rfl, ?_⟩
  have e8 : decide (((xs.length : Nat) : Int) ≤ 8) = (pathOf s).isSome := by
   rw [hpo]
   by_cases h8 : ps.length ≤ 8
   ·rw [if_pos h8]; exact decide_eq_true (by omega)
   ·rw [if_neg h8]; exact decide_eq_false (by omega)
  refine ⟨_, _, _, by rw [e8]; rfl, fun p hp => ?_⟩
  rw [hpo] at hp
  split at hp
  ·simp only [Option.some.injEq] at hp; subst hp; exact ⟨rfl, hsl⟩
  ·cases hp
theorem refT_p {ts : List Ty} {c : UInt8} {r : List UInt8} (h : c.toNat ≠ 64) : refT ts (c :: r) = none := by
 cases h2 : refT ts (c :: r) with
 | none => rfl
 | some t => exact (refT_no h2 rfl h).elim
theorem first_at {p : Nat → Prop} {n : Nat} (h : ∃ j, j < n ∧ p j) : ∃ j, j < n ∧ p j ∧ ∀ i, i < j → ¬ p i := by
 obtain ⟨j, hj, hp⟩ := h
 induction j using Nat.strongRecOn with
 | _ j ih =>
  by_cases hc : ∃ i, i < j ∧ p i
  ·obtain ⟨i, hi, hpi⟩ := hc
   exact ih i hi (by omega) hpi
  ·exact ⟨j, hj, hp, fun i hi hpi => hc ⟨i, hi, hpi⟩⟩
theorem toldV_at {f : Fld} : ∀ {fs : List (Fld × V)} {j : Nat}, j < fs.length → (nth fs j).1.tag = f.tag → (∀ i, i < j → (nth fs i).1.tag ≠ f.tag) → toldV f (fs.map fldV) = some (nth fs j).2
 | [], j, hj, _, _ => by simp at hj
 | p :: fs, 0, _, ht, _ => by
  rw [List.map_cons, toldV, if_pos (show (fldV p).tag = f.tag from ht)]; rfl
 | p :: fs, j + 1, hj, ht, hno => by
  rw [List.map_cons, toldV, if_neg (show ¬ (fldV p).tag = f.tag from hno 0 (by omega))]
  exact toldV_at (fs := fs) (j := j) (by simpa using hj) ht fun i hi => hno (i + 1) (by omega)
theorem toldV_no {f : Fld} : ∀ {fs : List (Fld × V)}, (∀ i, i < fs.length → (nth fs i).1.tag ≠ f.tag) → toldV f (fs.map fldV) = none
 | [], _ => rfl
 | p :: fs, h => by
  rw [List.map_cons, toldV, if_neg (show ¬ (fldV p).tag = f.tag from h 0 (by simp))]
  exact toldV_no fun i hi => h (i + 1) (by simpa using hi)
theorem valOf_rd {ts : List Ty} {k w : List UInt8} {v : V} (h : valOf ts k w = some v) : rd ts 12 k w = some (v, []) ∧ w.length ≤ 400 := by
 unfold valOf at h
 split at h
 ·rename_i hl
  split at h
  ·rename_i v' hv; rw [hv]; exact ⟨congrArg (fun x => some (x, [])) (Option.some.inj h), hl⟩
  ·cases h
 ·cases h
theorem c_atY {b j : Nat} {k : List UInt8} {tg : List Int} {bs : List Nat} {a a2 : Option Addr} {c c2 : Nat} {n : Int} (hl : bs.length = tg.length) (h9 : tg.length ≤ 100000) (hs : Seg G b 0 [S k, S [82], .slice a tg.length c, .slice a2 tg.length c2]) (h1 : SlV G (.slice a tg.length c) 1 tg.length (rows inR tg)) (h2 : SlV G (.slice a2 tg.length c2) 1 tg.length (rows ptR bs)) (hj : j < tg.length) (hjn : nth tg j = n) (hno : ∀ i, i < j → nth tg i ≠ n) :
  PuG Try.prog 55 [Pt b 0, I n] G (· = Tu [Pt (nth bs j) 0, Bo true]) := by
 obtain ⟨xb, xo, xc, e, hs1⟩ := h1.expl (by omega)
 simp only [Value.slice.injEq] at e
 obtain ⟨rfl, -, rfl⟩ := e
 obtain ⟨zb, zo, zc, e, hs2⟩ := h2.expl (by omega)
 simp only [Value.slice.injEq] at e
 obtain ⟨rfl, -, rfl⟩ := e
 refine jE [(0, _), (1, _)] Try.func55 Try.ntmps55 fun B hB => ?_
 repeat' (refine jR ?_)
 refine k_loop (ι := Nat) (fun i => i ≤ j) (fun i => [(0, Pt b 0), (1, I n), (6, I i)]) (fun _ => G) (fun i => []) (fun i => j - i) 0 ?_ (by repeat' constructor) rfl sRr (fun i Hi => ?_)
 ·exact Nat.zero_le _
 have hxi : nth bs i = nth bs i := rfl
 have hti : nth tg i = nth tg i := rfl
 by_cases hij : i = j
 ·subst hij
  repeat' (first | (refine jR ?_) | (refine k_op rfl ?_; first | refine jV (g_ldS rfl rfl (by assumption) rfl rfl) ?_ | (refine jV (g_ldR1x rfl rfl (by assumption) ?_ (by assumption) rfl) ?_; (focus ((omega); done))) | refine jV (g_lenL rfl) ?_ | (refine jV (g_pickT rfl rfl rfl) ?_) | (refine jV (g_iaddrN rfl rfl (by omega)) ?_)) | (refine k_gt rfl rfl (dTt (by omega)) ?_) | (refine k_tt rfl (by first | rfl | (refine decide_eq_true ?_; (rfl))) ?_))
  all_goals refine jZ (vs := [_, _]) rfl ⟨rfl, rfl, trivial⟩ rfl ⟨rfl, rfl, ?_⟩
  all_goals rfl
 ·have h3 := hno i (by omega)
  repeat' (first | refine jM ?_ | (refine k_op rfl ?_; first | refine jV (g_ldS rfl rfl (by assumption) rfl rfl) ?_ | (refine jV (g_ldR1x rfl rfl (by assumption) ?_ (by assumption) rfl) ?_; (focus ((omega); done))) | refine jV (g_lenL rfl) ?_ | (refine jV (g_pickT rfl rfl rfl) ?_) | (refine jV (g_iaddrN rfl rfl (by omega)) ?_)) | (refine k_gt rfl rfl (dTt (by omega)) ?_) | (refine k_tt rfl rfl ?_) | (refine k_ff rfl (dFf ‹_›) ?_))
  exact k_rd (i + 1) (show i + 1 ≤ j by have : i ≤ j := Hi; omega) (by have : i ≤ j := Hi; omega) (by repeat' constructor) rfl sRr
theorem c_atN {b : Nat} {k : List UInt8} {tg : List Int} {a a2 : Option Addr} {c c2 : Nat} {n : Int} (h9 : tg.length ≤ 100000) (hs : Seg G b 0 [S k, S [82], .slice a tg.length c, .slice a2 tg.length c2]) (h1 : SlV G (.slice a tg.length c) 1 tg.length (rows inR tg)) (hno : ∀ i, i < tg.length → nth tg i ≠ n) :
  PuG Try.prog 55 [Pt b 0, I n] G (· = Tu [.pointer none, Bo false]) := by
 refine jE [(0, _), (1, _)] Try.func55 Try.ntmps55 fun B hB => ?_
 repeat' (refine jR ?_)
 refine k_loop (ι := Nat) (fun i => i ≤ tg.length) (fun i => [(0, Pt b 0), (1, I n), (6, I i)]) (fun _ => G) (fun i => []) (fun i => tg.length - i) 0 ?_ (by repeat' constructor) rfl sRr (fun i Hi => ?_)
 ·exact Nat.zero_le _
 by_cases hi : i < tg.length
 ·obtain ⟨xb, xo, xc, e, hs1⟩ := h1.expl (by omega)
  simp only [Value.slice.injEq] at e
  obtain ⟨rfl, -, rfl⟩ := e
  have h3 := hno i hi
  have hti : nth tg i = nth tg i := rfl
  repeat' (first | refine jM ?_ | (refine k_op rfl ?_; first | refine jV (g_ldS rfl rfl (by assumption) rfl rfl) ?_ | (refine jV (g_ldR1x rfl rfl (by assumption) ?_ (by assumption) rfl) ?_; (focus ((omega); done))) | refine jV (g_lenL rfl) ?_ | (refine jV (g_pickT rfl rfl rfl) ?_) | (refine jV (g_iaddrN rfl rfl (by omega)) ?_)) | (refine k_gt rfl rfl (dTt (by omega)) ?_) | (refine k_tt rfl rfl ?_) | (refine k_ff rfl (dFf ‹_›) ?_))
  exact k_rd (i + 1) (by omega) (by omega) (by repeat' constructor) rfl sRr
 ·repeat' (first | (refine jR ?_) | (refine k_op rfl ?_; first | refine jV (g_ldS rfl rfl (by assumption) rfl rfl) ?_ | refine jV (g_lenL rfl) ?_ | (refine jV (g_pickF rfl rfl rfl) ?_)) | (refine k_gf rfl rfl (dFf (by omega)) ?_) | (refine k_ff rfl rfl ?_))
  all_goals refine jZ (vs := [_, _]) rfl ⟨rfl, rfl, trivial⟩ rfl ⟨rfl, rfl, ?_⟩
  all_goals rfl
theorem c_l4Record {u : Value} {x : TyX} {k : List UInt8} {n : Int} (hu : u.oneCell' = true) (hf : SlV G (slX x) 4 x.2.fields.length (rows fldF x.2.fields)) (hl : x.2.fields.length ≤ 1000) (cx_rf : PuG Try.prog 49 [u, S k] G (· = Tu [Ag [U8 x.2.sort, S x.2.name, slX x], Bo true])) (hso : x.2.sort = 82) :
  PuG Try.prog 54 [u, S k, I n] G (· = Tu [Ag (fldF ((fldT x.2.fields n).getD zF)), Bo (fldT x.2.fields n).isSome]) := by
 have cx_fld := c_fieldS (tag := n) hf hl
 obtain ⟨⟨a, ca⟩, ⟨so, nm, fs⟩⟩ := x
 dsimp only at hso cx_fld cx_rf ⊢
 subst hso
 dsimp only [slX] at cx_fld cx_rf ⊢
 cases hg : fldT fs n with
 | none =>
  rw [hg] at cx_fld
  simp only [Option.getD_none, Option.isSome_none] at cx_fld ⊢
  refine jE [(0, _), (1, _), (2, _)] Try.func54 Try.ntmps54 fun B hB => ?_
  repeat' (first | (refine jR ?_) | (refine k_op rfl ?_; first | refine c_al rfl rfl fun _ => ?_ | refine c_stA rfl rfl rfl rfl rfl rfl ?_ | refine jV (g_ldA rfl rfl rfl rfl) ?_ | (refine c_rt rfl rfl rfl cx_rf rfl ?_) | (refine c_rt rfl rfl rfl cx_fld rfl ?_)) | (refine k_any (s_anyD (id := 3) (tt := 6) rfl mixed ?_); refine jU 10 [1, 2] (bts 12 6) ?_ ?_; (focus (repeat' (exact trivial))); (try (refine Nx.re (d := 26) (v' := Bo true) rfl (congrArg Value.bool rfl) ?_)); refine jU 9 [3] (bts 12 14) ?_ ?_; (focus (repeat' (exact trivial))); (refine jG (bts 12 15) 0 rfl (g_ldA rfl rfl rfl rfl) ?_); ((refine jG (bts 12 31) 4 rfl (g_pickT rfl rfl ?_) ?_; (focus ((rfl); done)))); refine jU 6 [5] (bts 12 63) ?_ ?_; (focus (repeat' (exact trivial))); (try (refine Nx.re (d := 29) (v' := Bo false) rfl (congrArg Value.bool rfl) ?_)); refine jU 5 [6] (bts 12 127) ?_ ?_; (focus (repeat' (exact trivial))); (refine jN (bts 12 255) 7 rfl ?_); refine jU 3 [8] (bts 12 511) ?_ ?_; (focus (repeat' (exact trivial))); ((refine jG (bts 12 1023) 9 rfl (g_pickF rfl rfl ?_) ?_; (focus ((rfl); done)))); refine jA 10 rfl ?_; (refine c_stA rfl rfl rfl rfl rfl rfl ?_); refine jK (bts 12 2047) ?_; refine jU 0 [11] (bts 12 4095) ?_ ?_; (focus (repeat' (exact trivial))); refine x_done (by kernel_rfl) (k_bk ?_)))
  all_goals refine jZ (vs := [_, _]) rfl ⟨rc_A rfl rfl rfl rfl, rfl, trivial⟩ rfl ⟨rfl, rfl, ?_⟩
  all_goals rfl
 | some f =>
  rw [hg] at cx_fld
  simp only [Option.getD_some, Option.isSome_some] at cx_fld ⊢
  refine jE [(0, _), (1, _), (2, _)] Try.func54 Try.ntmps54 fun B hB => ?_
  repeat' (first | (refine jR ?_) | (refine k_op rfl ?_; first | refine c_al rfl rfl fun _ => ?_ | refine c_stA rfl rfl rfl rfl rfl rfl ?_ | refine jV (g_ldA rfl rfl rfl rfl) ?_ | (refine c_rt rfl rfl rfl cx_rf rfl ?_) | (refine c_rt rfl rfl rfl cx_fld rfl ?_)) | (refine k_any (s_anyD (id := 3) (tt := 6) rfl mixed ?_); refine jU 10 [1, 2] (bts 12 6) ?_ ?_; (focus (repeat' (exact trivial))); (try (refine Nx.re (d := 26) (v' := Bo true) rfl (congrArg Value.bool rfl) ?_)); refine jU 9 [3] (bts 12 14) ?_ ?_; (focus (repeat' (exact trivial))); (refine jG (bts 12 15) 0 rfl (g_ldA rfl rfl rfl rfl) ?_); ((refine jG (bts 12 31) 4 rfl (g_pickT rfl rfl ?_) ?_; (focus ((rfl); done)))); refine jU 6 [5] (bts 12 63) ?_ ?_; (focus (repeat' (exact trivial))); (try (refine Nx.re (d := 29) (v' := Bo true) rfl (congrArg Value.bool rfl) ?_)); refine jU 5 [6] (bts 12 127) ?_ ?_; (focus (repeat' (exact trivial))); (refine jG (bts 12 255) 7 rfl (g_ld rfl rfl rfl) ?_); refine jU 3 [8] (bts 12 511) ?_ ?_; (focus (repeat' (exact trivial))); ((refine jG (bts 12 1023) 9 rfl (g_pickT rfl rfl ?_) ?_; (focus ((rfl); done)))); refine jA 10 rfl ?_; (refine c_stA rfl rfl rfl rfl rfl rfl ?_); refine jK (bts 12 2047) ?_; refine jU 0 [11] (bts 12 4095) ?_ ?_; (focus (repeat' (exact trivial))); refine x_done (by kernel_rfl) (k_bk ?_)))
  all_goals refine jZ (vs := [_, _]) rfl ⟨rc_A rfl rfl rfl rfl, rfl, trivial⟩ rfl ⟨rfl, rfl, ?_⟩
  all_goals rfl
def StepP (ts : List Ty) (o : Option (List UInt8 × V)) (r : Value) (G' : Gh) : Prop := (o = none ∧ ∃ q, r = Tu [.pointer q, Bo false]) ∨ ∃ k' v' b', o = some (k', v') ∧ r = Tu [Pt b' 0, Bo true] ∧ RepR G' ts v' k' b'
theorem StepP.no {f : FuncId} {args : List Value} {ts : List Ty} {o : Option (List UInt8 × V)} (h : FnS Try.prog f args G (StepP ts o)) (e : o = none) : FnS Try.prog f args G (fun r _ => ∃ q, r = Tu [.pointer q, Bo false]) := by
 refine h.mono ?_
 rintro v G' L' ⟨h1, h2, ⟨_, h3⟩ | ⟨k', v', b', h3, _⟩⟩
 ·exact ⟨h1, h2, h3⟩
 ·rw [e] at h3; cases h3
theorem StepP.yes {f : FuncId} {args : List Value} {ts : List Ty} {o : Option (List UInt8 × V)} {k' : List UInt8} {v' : V} (h : FnS Try.prog f args G (StepP ts o)) (e : o = some (k', v')) : FnS Try.prog f args G (fun r G' => ∃ b', r = Tu [Pt b' 0, Bo true] ∧ RepR G' ts v' k' b') := by
 refine h.mono ?_
 rintro v G' L' ⟨h1, h2, ⟨h3, _⟩ | ⟨k2, v2, b', h3, h4, h5⟩⟩
 ·rw [e] at h3; cases h3
 ·rw [e] at h3
  simp only [Option.some.injEq, Prod.mk.injEq] at h3
  obtain ⟨rfl, rfl⟩ := h3
  exact ⟨h1, h2, b', h4, h5⟩
end Go.E
