/- Contracts and plain laws that the statement rests on, part 5. Conditions: as each says. -/
import Derived.Test.YtgabebcagpgdgaaGreatDoorQ4
namespace Go.E
set_option maxRecDepth 20000
set_option maxHeartbeats 2000000
def wfW (w : Nat) (x : List UInt8) (t : Int) (ks : List V) : Prop :=
 (w = 110 ∧ ks = [] ∧ t = 0 ∧ ∃ n : Int, 0 ≤ n ∧ n ≤ 999999 ∧ x = decI n ∧ numOf x 999999 = some n)
 ∨ (w = 116 ∧ ks = [] ∧ t = 0 ∧ isTx (39 :: (x ++ [39])) = true)
 ∨ (w = 102 ∧ ks = [] ∧ t = 0 ∧ (x = [121, 101, 115] ∨ x = [110, 111]))
 ∨ (w = 91 ∧ x = [] ∧ t = 0 ∧ ks.length ≤ 20 ∧ ∀ v ∈ ks, v.what ≠ 61)
 ∨ (w = 63 ∧ x = [] ∧ t = 0 ∧ ks.length ≤ 1 ∧ ∀ v ∈ ks, v.what ≠ 61)
 ∨ (w = 69 ∧ x = [] ∧ 0 ≤ t ∧ t ≤ 200 ∧ ks = [])
 ∨ (w = 85 ∧ x = [] ∧ 0 ≤ t ∧ t ≤ 200 ∧ ks.length = 1 ∧ ∀ v ∈ ks, v.what ≠ 61)
 ∨ (w = 61 ∧ x = [] ∧ 0 ≤ t ∧ t ≤ 200 ∧ ks.length = 1 ∧ ∀ v ∈ ks, v.what ≠ 61)
 ∨ (w = 82 ∧ x = [] ∧ t = 0 ∧ ks.Pairwise (fun a b => a.tag < b.tag) ∧ ∀ v ∈ ks, v.what = 61)
mutual
def V.wf : V → Prop
 | .nd w x t ks => wfW w x t ks ∧ V.wfs ks
def V.wfs : List V → Prop
 | [] => True
 | v :: r => V.wf v ∧ V.wfs r
end
theorem wfs_iff : ∀ {ks : List V}, V.wfs ks ↔ ∀ v ∈ ks, v.wf
 | [] => by simp [V.wfs]
 | v :: r => by rw [V.wfs, wfs_iff (ks := r)]; simp
theorem digF_n0 : ∀ (s : List UInt8) {n m : Int}, 0 ≤ n → digF n s = some m → 0 ≤ m
 | [], n, m, h, e => by simp only [digF, Option.some.injEq] at e; omega
 | c :: s, n, m, h, e => by
  unfold digF at e
  split at e
  ·exact digF_n0 s (by omega) e
  ·cases e
theorem numOf_nn {s : List UInt8} {top n : Int} (h : numOf s top = some n) : 0 ≤ n := by
 unfold numOf at h
 split at h
 ·split at h
  ·split at h
   ·rename_i h1 _ _ _ h2; simp only [Option.some.injEq] at h; subst h; exact digF_n0 _ (Int.le_refl 0) (by assumption)
   ·cases h
  ·cases h
 ·cases h
theorem rdNum_wf {top : Int} {s r : List UInt8} {n : Int} (h : rdNum top s = some (n, r)) : 0 ≤ n ∧ n ≤ top ∧ numOf (decI n) top = some n := by
 unfold rdNum at h
 cases hn : numOf (s.takeWhile isDg) top with
 | none => rw [hn] at h; cases h
 | some m =>
  rw [hn] at h
  simp only [Option.map_some, Option.some.injEq, Prod.mk.injEq] at h
  obtain ⟨rfl, _⟩ := h
  obtain ⟨h1, h2, _⟩ := numOf_le hn
  exact ⟨numOf_nn hn, h1, by rw [← h2]; exact hn⟩
theorem rdItems_len {f : List UInt8 → Option (V × List UInt8)} : ∀ (m : Nat) (s : List UInt8) (acc : List V) {x : List V × List UInt8}, rdItems f m s acc = some x → x.1.length ≤ acc.length + m
 | 0, _, _, _, e => by cases e
 | m + 1, s, acc, x, e => by
  unfold rdItems at e
  cases hf : f s with
  | none => rw [hf] at e; cases e
  | some y =>
   rw [hf] at e
   obtain ⟨v, r⟩ := y
   cases r with
   | nil => cases e
   | cons c r =>
    dsimp only at e
    split at e
    ·have := rdItems_len m r _ e
     simp only [List.length_append, List.length_singleton] at this; omega
    ·split at e
     ·simp only [Option.some.injEq] at e; subst e
      simp only [List.length_append, List.length_singleton]; omega
     ·cases e
theorem rdField_wf {f : List UInt8 → List UInt8 → Option (V × List UInt8)} {t : Ty} {s : List UInt8} {x : (Fld × V) × List UInt8} (e : rdField f t s = some x) : 0 ≤ x.1.1.tag ∧ x.1.1.tag ≤ 200 := by
 unfold rdField at e
 cases hn : rdNum 200 s with
 | none => rw [hn] at e; cases e
 | some y =>
  rw [hn] at e
  obtain ⟨n, r⟩ := y
  have h1 := rdNum_wf hn
  dsimp only at e
  cases hd : fldT t.fields n with
  | none => rw [hd] at e; cases e
  | some d =>
   rw [hd] at e
   have h2 : d.tag = n := by have := List.find?_some hd; simpa using this
   cases r with
   | nil => cases e
   | cons c r' =>
    dsimp only at e
    by_cases hc : c.toNat = 61
    ·rw [if_pos hc] at e
     cases hf : f d.kind r' with
     | none => rw [hf] at e; cases e
     | some y =>
      rw [hf] at e
      simp only [Option.map_some, Option.some.injEq] at e
      subst e
      dsimp only; omega
    ·rw [if_neg hc] at e; cases e
theorem rdFlds_wf {ts : List Ty} {f : List UInt8 → List UInt8 → Option (V × List UInt8)} (h : ∀ k s y, f k s = some y → y.1.wf ∧ y.1.what ≠ 61) {t : Ty} : ∀ (m : Nat) (last : Int) (s : List UInt8) (acc : List V) {x : List V × List UInt8}, rdFlds ts f t m last s acc = some x → (∀ v ∈ acc, v.wf ∧ v.what = 61 ∧ v.tag ≤ last) → acc.Pairwise (fun a b => a.tag < b.tag) → (∀ v ∈ x.1, v.wf ∧ v.what = 61) ∧ x.1.Pairwise (fun a b => a.tag < b.tag)
 | 0, _, _, _, _, e, _, _ => by cases e
 | m + 1, last, s, acc, x, e, ha, hp => by
  unfold rdFlds at e
  cases hf : rdField f t s with
  | none => rw [hf] at e; cases e
  | some y =>
   rw [hf] at e
   obtain ⟨_, s', hy⟩ := rdField_inv hf
   have ht := rdField_wf hf
   obtain ⟨⟨d, v⟩, r⟩ := y
   dsimp only at e hy ht
   obtain ⟨hv1, hv2⟩ := h _ _ _ hy
   dsimp only at hv1 hv2
   split at e
   ·cases e
   ·rename_i hd
    have hd' : last < d.tag := by omega
    have hw : V.wf (.nd 61 [] d.tag [v]) := by
     rw [V.wf]
     refine ⟨.inr (.inr (.inr (.inr (.inr (.inr (.inr (.inl ⟨rfl, rfl, ht.1, ht.2, rfl, ?_⟩))))))), ?_, trivial⟩
     ·intro u hu; simp only [List.mem_singleton] at hu; subst hu; exact hv2
     ·exact hv1
    have ha2 : ∀ u ∈ acc ++ [V.nd 61 [] d.tag [v]], u.wf ∧ u.what = 61 ∧ u.tag ≤ d.tag := fun u hu => by
     rcases List.mem_append.1 hu with hu | hu
     ·obtain ⟨a1, a2, a3⟩ := ha u hu; exact ⟨a1, a2, by omega⟩
     ·simp only [List.mem_singleton] at hu; subst hu; exact ⟨hw, rfl, Int.le_refl _⟩
    have hp2 : (acc ++ [V.nd 61 [] d.tag [v]]).Pairwise (fun a b => a.tag < b.tag) := by
     rw [List.pairwise_append]
     refine ⟨hp, List.pairwise_singleton _ _, fun a hA b hB => ?_⟩
     simp only [List.mem_singleton] at hB; subst hB
     have := (ha a hA).2.2
     show a.tag < d.tag
     omega
    cases r with
    | nil => cases e
    | cons c r =>
     dsimp only at e
     split at e
     ·exact rdFlds_wf h m _ r _ e ha2 hp2
     ·split at e
      ·simp only [Option.some.injEq] at e; subst e
       exact ⟨fun u hu => ⟨(ha2 u hu).1, (ha2 u hu).2.1⟩, hp2⟩
      ·cases e
theorem rd_wf {ts : List Ty} : ∀ (n : Nat) (k s : List UInt8) (x : V × List UInt8), rd ts n k s = some x → x.1.wf ∧ x.1.what ≠ 61
 | 0, _, _, _, e => by cases e
 | n + 1, k, s, x, e => by
  have ih : ∀ k s y, rd ts n k s = some y → y.1.wf ∧ y.1.what ≠ 61 := fun k s y hy => rd_wf n k s y hy
  have h := rdK_inv k s (x := x) e
  obtain ⟨v, r⟩ := x
  dsimp only at h ⊢
  cases h with
  | lst0 => exact ⟨by rw [V.wf]; exact ⟨.inr (.inr (.inr (.inl ⟨rfl, rfl, rfl, by simp, by simp⟩))), trivial⟩, by simp [V.what]⟩
  | lst k s r vs h =>
   have h1 := rdItems_len _ _ _ h
   have h2 := rdItems_all (p := fun v => v.wf ∧ v.what ≠ 61) (fun s y hy => ih k s y hy) _ _ _ h (by simp)
   refine ⟨by rw [V.wf]; exact ⟨.inr (.inr (.inr (.inl ⟨rfl, rfl, rfl, by simpa using h1, fun v hv => (h2 v hv).2⟩))), wfs_iff.2 fun v hv => (h2 v hv).1⟩, by simp [V.what]⟩
  | non => exact ⟨by rw [V.wf]; exact ⟨.inr (.inr (.inr (.inr (.inl ⟨rfl, rfl, rfl, by simp, by simp⟩)))), trivial⟩, by simp [V.what]⟩
  | opt k s r v h =>
   have h1 := ih _ _ _ h
   have h2 : ∀ u ∈ [v], u.what ≠ 61 := fun u hu => by simp only [List.mem_singleton] at hu; subst hu; exact h1.2
   exact ⟨by rw [V.wf]; exact ⟨.inr (.inr (.inr (.inr (.inl ⟨rfl, rfl, rfl, by simp, h2⟩)))), h1.1, trivial⟩, by simp [V.what]⟩
  | num k s r n _ h =>
   have h1 := rdNum_wf h
   exact ⟨by rw [V.wf]; exact ⟨.inl ⟨rfl, rfl, rfl, n, h1.1, h1.2.1, rfl, h1.2.2⟩, trivial⟩, by simp [V.what]⟩
  | txt k s r v _ h =>
   unfold rdQuote at h
   split at h
   ·cases h
   ·split at h
    ·split at h
     ·split at h
      ·rename_i hx
       simp only [Option.some.injEq, Prod.mk.injEq] at h
       obtain ⟨rfl, _⟩ := h
       exact ⟨by rw [V.wf]; exact ⟨.inr (.inl ⟨rfl, rfl, rfl, hx⟩), trivial⟩, by simp [V.what]⟩
      ·cases h
     ·cases h
    ·cases h
  | flg k s r v _ h =>
   unfold rdFlag at h
   split at h
   ·simp only [Option.some.injEq, Prod.mk.injEq] at h
    obtain ⟨rfl, _⟩ := h
    exact ⟨by rw [V.wf]; exact ⟨.inr (.inr (.inl ⟨rfl, rfl, rfl, .inl rfl⟩)), trivial⟩, by simp [V.what]⟩
   ·split at h
    ·simp only [Option.some.injEq, Prod.mk.injEq] at h
     obtain ⟨rfl, _⟩ := h
     exact ⟨by rw [V.wf]; exact ⟨.inr (.inr (.inl ⟨rfl, rfl, rfl, .inr rfl⟩)), trivial⟩, by simp [V.what]⟩
    ·cases h
  | recd0 => exact ⟨by rw [V.wf]; exact ⟨.inr (.inr (.inr (.inr (.inr (.inr (.inr (.inr ⟨rfl, rfl, rfl, by simp, by simp⟩))))))), trivial⟩, by simp [V.what]⟩
  | recd k s r t vs _ _ h =>
   have h1 := rdFlds_wf ih _ _ _ _ h (by simp) (by simp)
   exact ⟨by rw [V.wf]; exact ⟨.inr (.inr (.inr (.inr (.inr (.inr (.inr (.inr ⟨rfl, rfl, rfl, h1.2, fun v hv => (h1.1 v hv).2⟩))))))), wfs_iff.2 fun v hv => (h1.1 v hv).1⟩, by simp [V.what]⟩
  | enm k s r t n _ _ h _ =>
   have h1 := rdNum_wf h
   exact ⟨by rw [V.wf]; exact ⟨.inr (.inr (.inr (.inr (.inr (.inl ⟨rfl, rfl, h1.1, h1.2.1, rfl⟩))))), trivial⟩, by simp [V.what]⟩
  | uni k s r t d v _ _ _ h =>
   obtain ⟨_, s', hy⟩ := rdField_inv h
   have ht := rdField_wf h
   have h1 := ih _ _ _ hy
   have h2 : ∀ u ∈ [v], u.what ≠ 61 := fun u hu => by simp only [List.mem_singleton] at hu; subst hu; exact h1.2
   exact ⟨by rw [V.wf]; exact ⟨.inr (.inr (.inr (.inr (.inr (.inr (.inl ⟨rfl, rfl, ht.1, ht.2, rfl, h2⟩)))))), h1.1, trivial⟩, by simp [V.what]⟩
theorem valOf_wf {ts : List Ty} {k s : List UInt8} {v : V} (h : valOf ts k s = some v) : v.wf ∧ v.what ≠ 61 := by
 unfold valOf at h
 split at h
 ·split at h
  ·rename_i hr
   simp only [Option.some.injEq] at h; subst h
   exact rd_wf _ _ _ _ hr
  ·cases h
 ·cases h
theorem wf_nth {ks : List V} (h : V.wfs ks) {i : Nat} (hi : i < ks.length) : (nth ks i).wf := by
 rw [nth_eq hi]; exact wfs_iff.1 h _ (List.getElem_mem hi)
abbrev fldV (p : Fld × V) : V := .nd 61 [] p.1.tag [p.2]
inductive OfK (ts : List Ty) : List UInt8 → V → Prop
 | num (k : List UInt8) (n : Int) : 0 ≤ n → n ≤ 999999 → OfK ts (110 :: k) (.nd 110 (decI n) 0 [])
 | txt (k x : List UInt8) : isTx (39 :: (x ++ [39])) = true → OfK ts (116 :: k) (.nd 116 x 0 [])
 | flg (k x : List UInt8) : x = [121, 101, 115] ∨ x = [110, 111] → OfK ts (102 :: k) (.nd 102 x 0 [])
 | lst (k : List UInt8) (ks : List V) : ks.length ≤ 20 → (∀ v ∈ ks, OfK ts k v) → OfK ts (91 :: k) (.nd 91 [] 0 ks)
 | non (k : List UInt8) : OfK ts (63 :: k) (.nd 63 [] 0 [])
 | opt (k : List UInt8) (v : V) : OfK ts k v → OfK ts (63 :: k) (.nd 63 [] 0 [v])
 | recd (k : List UInt8) (t : Ty) (fs : List (Fld × V)) : refT ts k = some t → t.sort = 82 → (∀ p ∈ fs, p.1 ∈ t.fields) → (∀ p ∈ fs, OfK ts p.1.kind p.2) → (∀ p ∈ fs, p.2.out ≠ standF ts p.1) → fs.Pairwise (fun a b => a.1.tag < b.1.tag) → OfK ts k (.nd 82 [] 0 (fs.map fldV))
 | enm (k : List UInt8) (t : Ty) (d : Fld) : refT ts k = some t → t.sort = 69 → d ∈ t.fields → OfK ts k (.nd 69 [] d.tag [])
 | uni (k : List UInt8) (t : Ty) (d : Fld) (v : V) : refT ts k = some t → t.sort ≠ 82 → t.sort ≠ 69 → d ∈ t.fields → OfK ts d.kind v → OfK ts k (.nd 85 [] d.tag [v])
theorem rdFlds_of {ts : List Ty} {f : List UInt8 → List UInt8 → Option (V × List UInt8)} (h : ∀ k s y, f k s = some y → OfK ts k y.1) {t : Ty} : ∀ (m : Nat) (last : Int) (s : List UInt8) (fs : List (Fld × V)) {x : List V × List UInt8}, rdFlds ts f t m last s (fs.map fldV) = some x → (∀ p ∈ fs, p.1 ∈ t.fields ∧ OfK ts p.1.kind p.2 ∧ p.2.out ≠ standF ts p.1 ∧ p.1.tag ≤ last) → fs.Pairwise (fun a b => a.1.tag < b.1.tag) →
  ∃ gs : List (Fld × V), x.1 = gs.map fldV ∧ (∀ p ∈ gs, p.1 ∈ t.fields ∧ OfK ts p.1.kind p.2 ∧ p.2.out ≠ standF ts p.1) ∧ gs.Pairwise (fun a b => a.1.tag < b.1.tag)
 | 0, _, _, _, _, e, _, _ => by cases e
 | m + 1, last, s, fs, x, e, ha, hp => by
  unfold rdFlds at e
  cases hf : rdField f t s with
  | none => rw [hf] at e; cases e
  | some y =>
   rw [hf] at e
   obtain ⟨hd1, s', hy⟩ := rdField_inv hf
   obtain ⟨⟨d, v⟩, r⟩ := y
   dsimp only at e hy hd1
   have hv := h _ _ _ hy
   dsimp only at hv
   split at e
   ·cases e
   ·rename_i hd
    have hd' : last < d.tag := by omega
    have hne : v.out ≠ standF ts d := fun h => hd (.inr h)
    have e2 : fs.map fldV ++ [V.nd 61 [] d.tag [v]] = (fs ++ [(d, v)]).map fldV := by simp
    have ha2 : ∀ p ∈ fs ++ [(d, v)], p.1 ∈ t.fields ∧ OfK ts p.1.kind p.2 ∧ p.2.out ≠ standF ts p.1 ∧ p.1.tag ≤ d.tag := fun p hu => by
     rcases List.mem_append.1 hu with hu | hu
     ·obtain ⟨a1, a2, a3, a4⟩ := ha p hu; exact ⟨a1, a2, a3, by omega⟩
     ·simp only [List.mem_singleton] at hu; subst hu; exact ⟨hd1, hv, hne, Int.le_refl _⟩
    have hp2 : (fs ++ [(d, v)]).Pairwise (fun a b => a.1.tag < b.1.tag) := by
     rw [List.pairwise_append]
     refine ⟨hp, List.pairwise_singleton _ _, fun a hA b hB => ?_⟩
     simp only [List.mem_singleton] at hB; subst hB
     have := (ha a hA).2.2.2
     show a.1.tag < d.tag
     omega
    rw [e2] at e
    cases r with
    | nil => cases e
    | cons c r =>
     dsimp only at e
     split at e
     ·exact rdFlds_of h m _ r _ e ha2 hp2
     ·split at e
      ·simp only [Option.some.injEq] at e; subst e
       exact ⟨_, rfl, fun p hp => ⟨(ha2 p hp).1, (ha2 p hp).2.1, (ha2 p hp).2.2.1⟩, hp2⟩
      ·cases e
theorem rd_of {ts : List Ty} : ∀ (n : Nat) (k s : List UInt8) (x : V × List UInt8), rd ts n k s = some x → OfK ts k x.1
 | 0, _, _, _, e => by cases e
 | n + 1, k, s, x, e => by
  have ih : ∀ k s y, rd ts n k s = some y → OfK ts k y.1 := fun k s y hy => rd_of n k s y hy
  have h := rdK_inv k s (x := x) e
  obtain ⟨v, r⟩ := x
  dsimp only at h ⊢
  cases h with
  | lst0 => exact .lst _ _ (by simp) (by simp)
  | lst k s r vs h =>
   have h1 := rdItems_len _ _ _ h
   exact .lst _ _ (by simpa using h1) (rdItems_all (p := fun v => OfK ts k v) (fun s y hy => ih k s y hy) _ _ _ h (by simp))
  | non => exact .non _
  | opt k s r v h => exact .opt _ _ (ih _ _ _ h)
  | num k s r n _ h => have h1 := rdNum_wf h; exact .num _ _ h1.1 h1.2.1
  | txt k s r v _ h =>
   unfold rdQuote at h
   split at h
   ·cases h
   ·split at h
    ·split at h
     ·split at h
      ·rename_i hx
       simp only [Option.some.injEq, Prod.mk.injEq] at h
       obtain ⟨rfl, _⟩ := h
       exact .txt _ _ hx
      ·cases h
     ·cases h
    ·cases h
  | flg k s r v _ h =>
   unfold rdFlag at h
   split at h
   ·simp only [Option.some.injEq, Prod.mk.injEq] at h
    obtain ⟨rfl, _⟩ := h
    exact .flg _ _ (.inl rfl)
   ·split at h
    ·simp only [Option.some.injEq, Prod.mk.injEq] at h
     obtain ⟨rfl, _⟩ := h
     exact .flg _ _ (.inr rfl)
    ·cases h
  | recd0 k r t h1 h2 => exact .recd _ t [] h1 h2 (by simp) (by simp) (by simp) (by simp)
  | recd k s r t vs h1 h2 h =>
   obtain ⟨gs, e1, e2, e3⟩ := rdFlds_of (fs := []) ih _ _ _ h (by simp) (by simp)
   dsimp only at e1
   subst e1
   exact .recd _ t gs h1 h2 (fun p hp => (e2 p hp).1) (fun p hp => (e2 p hp).2.1) (fun p hp => (e2 p hp).2.2) e3
  | enm k s r t n h1 h2 h h3 =>
   obtain ⟨d, hd⟩ := Option.isSome_iff_exists.1 h3
   have hdt : d.tag = n := by have := List.find?_some hd; simpa using this
   rw [← hdt]
   exact .enm _ t d h1 h2 (List.mem_of_find?_eq_some hd)
  | uni k s r t d v h1 h2 h3 h =>
   obtain ⟨a1, s', hy⟩ := rdField_inv h
   exact .uni _ t d v h1 h2 h3 a1 (ih _ _ _ hy)
theorem valOf_of_k {ts : List Ty} {k s : List UInt8} {v : V} (h : valOf ts k s = some v) : OfK ts k v := by
 unfold valOf at h
 split at h
 ·split at h
  ·rename_i hr
   simp only [Option.some.injEq] at h; subst h
   exact rd_of _ _ _ _ hr
  ·cases h
 ·cases h
def sgn (n m : Int) : Int := if n < m then -1 else if m < n then 1 else 0
def cmpB (x y : List UInt8) : Int := if Op.bytesLess x y = true then -1 else if Op.bytesLess y x = true then 1 else 0
mutual
def V.cmp : V → V → Int
 | .nd w x t ks, u => if w = 110 then sgn ((numOf x 999999).getD 0) ((numOf u.text 999999).getD 0) else if w = 116 ∨ w = 102 then cmpB x u.text else if w = 69 then sgn t u.tag
  else if (w = 85 ∨ w = 61) ∧ t ≠ u.tag then sgn t u.tag else V.cmps ks u.kids
def V.cmps : List V → List V → Int
 | [], us => if us = [] then 0 else -1
 | v :: r, us => match us with
  | [] => 1
  | u :: us' => if V.cmp v u ≠ 0 then V.cmp v u else V.cmps r us'
end
mutual
def V.ck : V → V → Prop
 | .nd w _ t ks, u => w = u.what ∧ ((w = 85 ∨ w = 61) ∧ t ≠ u.tag ∨ V.cks ks u.kids)
def V.cks : List V → List V → Prop
 | [], _ => True
 | v :: r, us => match us with
  | [] => True
  | u :: us' => V.ck v u ∧ V.cks r us'
end
theorem cks_nth : ∀ {ks us : List V}, V.cks ks us → ∀ i, i < ks.length → i < us.length → V.ck (nth ks i) (nth us i)
 | v :: r, u :: us', h, 0, _, _ => by rw [V.cks] at h; exact h.1
 | v :: r, u :: us', h, i + 1, h1, h2 => by
  rw [V.cks] at h
  exact cks_nth h.2 i (by simpa using h1) (by simpa using h2)
theorem cks_of : ∀ {ks us : List V}, (∀ i, i < ks.length → i < us.length → V.ck (nth ks i) (nth us i)) → V.cks ks us
 | [], _, _ => by rw [V.cks]; trivial
 | v :: r, [], _ => by rw [V.cks]; trivial
 | v :: r, u :: us', h => by
  rw [V.cks]
  exact ⟨h 0 (by simp) (by simp), cks_of fun i h1 h2 => h (i + 1) (by simpa using h1) (by simpa using h2)⟩
theorem fld_tag {t : Ty} (hw : TyW t) {d d' : Fld} (h1 : d ∈ t.fields) (h2 : d' ∈ t.fields) (he : d.tag = d'.tag) : d = d' := by
 have hp := hw.asc
 obtain ⟨i, hi, rfl⟩ := List.mem_iff_getElem.1 h1
 obtain ⟨j, hj, rfl⟩ := List.mem_iff_getElem.1 h2
 rw [List.pairwise_iff_getElem] at hp
 rcases Nat.lt_trichotomy i j with h | h | h
 ·have := (hp i j hi hj h).1; omega
 ·subst h; rfl
 ·have := (hp j i hj hi h).1; omega
theorem refT_no {ts : List Ty} {k : List UInt8} {t : Ty} {c : UInt8} {r : List UInt8} (h : refT ts k = some t) (hk : k = c :: r) (hc : c.toNat ≠ 64) : False := by
 subst hk
 have : refN (c :: r) = none := by unfold refN; exact if_neg hc
 unfold refT at h
 rw [this] at h
 cases h
theorem ofK_inv_t {ts : List Ty} {k : List UInt8} {u : V} {t : Ty} (h : OfK ts k u) (hr : refT ts k = some t) :
  (t.sort = 82 ∧ ∃ fs : List (Fld × V), u = .nd 82 [] 0 (fs.map fldV) ∧ (∀ p ∈ fs, p.1 ∈ t.fields) ∧ (∀ p ∈ fs, OfK ts p.1.kind p.2) ∧ (∀ p ∈ fs, p.2.out ≠ standF ts p.1) ∧ fs.Pairwise (fun a b => a.1.tag < b.1.tag))
  ∨ (t.sort = 69 ∧ ∃ d, u = .nd 69 [] d.tag [] ∧ d ∈ t.fields) ∨ (t.sort ≠ 82 ∧ t.sort ≠ 69 ∧ ∃ d v, u = .nd 85 [] d.tag [v] ∧ d ∈ t.fields ∧ OfK ts d.kind v) := by
 cases h with
 | num => exact (refT_no hr rfl (by decide)).elim
 | txt => exact (refT_no hr rfl (by decide)).elim
 | flg => exact (refT_no hr rfl (by decide)).elim
 | lst => exact (refT_no hr rfl (by decide)).elim
 | non => exact (refT_no hr rfl (by decide)).elim
 | opt => exact (refT_no hr rfl (by decide)).elim
 | recd _ t' fs g1 g2 g3 g4 g5 g6 => rw [hr] at g1; obtain rfl := Option.some.inj g1; exact .inl ⟨g2, fs, rfl, g3, g4, g5, g6⟩
 | enm _ t' d g1 g2 g3 => rw [hr] at g1; obtain rfl := Option.some.inj g1; exact .inr (.inl ⟨g2, d, rfl, g3⟩)
 | uni _ t' d v g1 g2 g3 g4 g5 => rw [hr] at g1; obtain rfl := Option.some.inj g1; exact .inr (.inr ⟨g2, g3, d, v, rfl, g4, g5⟩)
theorem ofK_inv_c {ts : List Ty} {c : UInt8} {k : List UInt8} {u : V} (h : OfK ts (c :: k) u) (hc : c.toNat ≠ 64) :
  (c.toNat = 110 ∧ ∃ n : Int, 0 ≤ n ∧ n ≤ 999999 ∧ u = .nd 110 (decI n) 0 []) ∨ (c.toNat = 116 ∧ ∃ x, isTx (39 :: (x ++ [39])) = true ∧ u = .nd 116 x 0 []) ∨ (c.toNat = 102 ∧ ∃ x, (x = [121, 101, 115] ∨ x = [110, 111]) ∧ u = .nd 102 x 0 [])
  ∨ (c.toNat = 91 ∧ ∃ ks, ks.length ≤ 20 ∧ (∀ v ∈ ks, OfK ts k v) ∧ u = .nd 91 [] 0 ks) ∨ (c.toNat = 63 ∧ (u = .nd 63 [] 0 [] ∨ ∃ v, OfK ts k v ∧ u = .nd 63 [] 0 [v])) := by
 generalize hk : c :: k = k' at h
 cases h with
 | num k n h1 h2 => injection hk with e1 e2; subst e1; exact .inl ⟨rfl, n, h1, h2, rfl⟩
 | txt k x h1 => injection hk with e1 e2; subst e1; exact .inr (.inl ⟨rfl, x, h1, rfl⟩)
 | flg k x h1 => injection hk with e1 e2; subst e1; exact .inr (.inr (.inl ⟨rfl, x, h1, rfl⟩))
 | lst k ks h1 h2 => injection hk with e1 e2; subst e1; subst e2; exact .inr (.inr (.inr (.inl ⟨rfl, ks, h1, h2, rfl⟩)))
 | non k => injection hk with e1 e2; subst e1; exact .inr (.inr (.inr (.inr ⟨rfl, .inl rfl⟩)))
 | opt k v h1 => injection hk with e1 e2; subst e1; subst e2; exact .inr (.inr (.inr (.inr ⟨rfl, .inr ⟨v, h1, rfl⟩⟩)))
 | recd _ t' fs g1 => exact (refT_no g1 hk.symm hc).elim
 | enm _ t' d g1 => exact (refT_no g1 hk.symm hc).elim
 | uni _ t' d v g1 => exact (refT_no g1 hk.symm hc).elim
theorem ck_leaf {w : Nat} {x : List UInt8} {t : Int} {u : V} (h : w = u.what) : V.ck (.nd w x t []) u := by rw [V.ck]; exact ⟨h, .inr (by rw [V.cks]; trivial)⟩
theorem ofK_ck {ts : List Ty} (hw : SchW ts) {k : List UInt8} {v : V} (h : OfK ts k v) : ∀ {u : V}, OfK ts k u → v.ck u := by
 induction h with
 | num k n h1 h2 =>
  intro u hu
  rcases ofK_inv_c hu (by decide) with ⟨_, m, _, _, rfl⟩ | ⟨h, _⟩ | ⟨h, _⟩ | ⟨h, _⟩ | ⟨h, _⟩
  ·exact ck_leaf rfl
  all_goals cases h
 | txt k x h1 =>
  intro u hu
  rcases ofK_inv_c hu (by decide) with ⟨h, _⟩ | ⟨_, y, _, rfl⟩ | ⟨h, _⟩ | ⟨h, _⟩ | ⟨h, _⟩
  ·cases h
  ·exact ck_leaf rfl
  all_goals cases h
 | flg k x h1 =>
  intro u hu
  rcases ofK_inv_c hu (by decide) with ⟨h, _⟩ | ⟨h, _⟩ | ⟨_, y, _, rfl⟩ | ⟨h, _⟩ | ⟨h, _⟩
  ·cases h
  ·cases h
  ·exact ck_leaf rfl
  all_goals cases h
 | lst k ks h1 h2 ih =>
  intro u hu
  rcases ofK_inv_c hu (by decide) with ⟨h, _⟩ | ⟨h, _⟩ | ⟨h, _⟩ | ⟨_, us, _, h4, rfl⟩ | ⟨h, _⟩
  ·cases h
  ·cases h
  ·cases h
  ·rw [V.ck]
   exact ⟨rfl, .inr (cks_of fun i h5 h6 => ih _ (by rw [nth_eq h5]; exact List.getElem_mem h5) (h4 _ (by rw [V.kids] at h6 ⊢; rw [nth_eq h6]; exact List.getElem_mem h6)))⟩
  ·cases h
 | non k =>
  intro u hu
  rcases ofK_inv_c hu (by decide) with ⟨h, _⟩ | ⟨h, _⟩ | ⟨h, _⟩ | ⟨h, _⟩ | ⟨_, rfl | ⟨v, _, rfl⟩⟩
  ·cases h
  ·cases h
  ·cases h
  ·cases h
  ·exact ck_leaf rfl
  ·exact ck_leaf rfl
 | opt k v h1 ih =>
  intro u hu
  rcases ofK_inv_c hu (by decide) with ⟨h, _⟩ | ⟨h, _⟩ | ⟨h, _⟩ | ⟨h, _⟩ | ⟨_, rfl | ⟨u', h2, rfl⟩⟩
  ·cases h
  ·cases h
  ·cases h
  ·cases h
  ·rw [V.ck]; exact ⟨rfl, .inr (by rw [V.kids, V.cks]; trivial)⟩
  ·rw [V.ck]; exact ⟨rfl, .inr (by rw [V.kids, V.cks]; exact ⟨ih h2, by rw [V.cks]; trivial⟩)⟩
 | recd k t fs h1 h2 h3 h4 h5 h6 ih =>
  intro u hu
  rcases ofK_inv_t hu h1 with ⟨_, fs', rfl, g3, g4, _, _⟩ | ⟨h, _⟩ | ⟨h, _⟩
  ·rw [V.ck]
   refine ⟨rfl, .inr (cks_of fun i h5 h6 => ?_)⟩
   rw [V.kids] at h6 ⊢
   simp only [List.length_map] at h5 h6
   rw [nth_eq (by simpa using h5), nth_eq (by simpa using h6), List.getElem_map, List.getElem_map, V.ck]
   refine ⟨rfl, ?_⟩
   by_cases ht : fs[i].1.tag = fs'[i].1.tag
   ·refine .inr ?_
    have hd := fld_tag (hw.ty t (refT_mem h1)) (h3 _ (List.getElem_mem h5)) (g3 _ (List.getElem_mem h6)) ht
    rw [V.kids, V.cks]
    exact ⟨ih _ (List.getElem_mem h5) (by rw [hd]; exact g4 _ (List.getElem_mem h6)), by rw [V.cks]; trivial⟩
   ·exact .inl ⟨.inr rfl, ht⟩
  ·omega
  ·omega
 | enm k t d h1 h2 h3 =>
  intro u hu
  rcases ofK_inv_t hu h1 with ⟨h, _⟩ | ⟨_, d', rfl, _⟩ | ⟨_, h, _⟩
  ·omega
  ·exact ck_leaf rfl
  ·omega
 | uni k t d v h1 h2 h3 h4 h5 ih =>
  intro u hu
  rcases ofK_inv_t hu h1 with ⟨h, _⟩ | ⟨h, _⟩ | ⟨_, _, d', v', rfl, g4, g5⟩
  ·omega
  ·omega
  ·rw [V.ck]
   refine ⟨rfl, ?_⟩
   by_cases ht : d.tag = d'.tag
   ·refine .inr ?_
    have hd := fld_tag (hw.ty t (refT_mem h1)) h4 g4 ht
    rw [V.kids, V.cks]
    exact ⟨ih (by rw [hd]; exact g5), by rw [V.cks]; trivial⟩
   ·exact .inl ⟨.inl rfl, ht⟩
theorem u8_dgA {i : Int} (h : 0 ≤ i ∧ i ≤ 9) : (u8 (48 + i)).toNat = (48 + i).toNat := by have := u8_val (a := 48 + i) (by omega); omega
theorem digF_snoc : ∀ (s : List UInt8) {n m : Int} {c : UInt8}, digF n s = some m → 48 ≤ c.toNat ∧ c.toNat ≤ 57 → digF n (s ++ [c]) = some (10 * m + ((c.toNat : Int) - 48))
 | [], n, m, c, h, hc => by simp only [digF, Option.some.injEq] at h; subst h; simp only [List.nil_append, digF, if_pos hc]
 | d :: s, n, m, c, h, hc => by
  unfold digF at h
  split at h
  ·rename_i hd
   have := digF_snoc s h hc
   simp only [List.cons_append]
   unfold digF
   rw [if_pos hd]; exact this
  ·cases h
theorem digF_decI : ∀ (k : Nat) {m : Int}, m.toNat ≤ k → 0 ≤ m → digF 0 (decI m) = some m ∧ ∀ c ∈ decI m, isDg c = true := by
 intro k
 induction k with
 | zero =>
  intro m hk h0
  have : m = 0 := by omega
  subst this
  rw [decI_lo (by decide) (by decide)]
  exact ⟨by decide, by intro c hc; simp only [List.mem_singleton] at hc; subst hc; decide⟩
 | succ k ih =>
  intro m hk h0
  by_cases h : m < 10
  ·have hd := u8_dgA (i := m) (by omega)
   have hd2 : isDg (u8 (48 + m)) = true := by unfold isDg; rw [decide_eq_true_eq]; omega
   rw [decI_lo h h0]
   refine ⟨?_, fun c hc => by simp only [List.mem_singleton] at hc; subst hc; exact hd2⟩
   unfold digF digF
   rw [if_pos (by omega)]; congr 1; omega
  ·obtain ⟨h1, h2⟩ := ih (m := m / 10) (by omega) (by omega)
   have hd := u8_dgA (i := m % 10) (by omega)
   have hd2 : isDg (u8 (48 + m % 10)) = true := by unfold isDg; rw [decide_eq_true_eq]; omega
   rw [decI_hi h]
   refine ⟨by rw [digF_snoc _ h1 (by omega)]; congr 1; omega, fun c hc => ?_⟩
   rcases List.mem_append.1 hc with hc | hc
   ·exact h2 c hc
   ·simp only [List.mem_singleton] at hc; subst hc; exact hd2
theorem decI_6 {m : Int} (h : m ≤ 999999) : (decI m).length ≤ 6 := dec_len _ 5 (by omega)
theorem numOf_decI {m top : Int} (h0 : 0 ≤ m) (h1 : m ≤ top) (ht : top ≤ 999999) : numOf (decI m) top = some m := by
 unfold numOf
 rw [if_pos (decI_6 (by omega)), (digF_decI _ (Nat.le_refl _) h0).1]
 dsimp only
 rw [if_pos ⟨rfl, h1⟩]
def Dl (s : List UInt8) : Prop := ∀ c r, s = c :: r → isDg c = false
theorem dl_cons {c : UInt8} {r : List UInt8} (h : isDg c = false) : Dl (c :: r) := fun d s e => by injection e with e1 e2; subst e1; exact h
theorem dl_nil : Dl [] := fun _ _ e => by cases e
theorem dl_tw : ∀ {s : List UInt8}, Dl s → s.takeWhile isDg = [] ∧ s.dropWhile isDg = s
 | [], _ => ⟨rfl, rfl⟩
 | c :: r, h => by have := h c r rfl; rw [List.takeWhile_cons, List.dropWhile_cons, this]; exact ⟨rfl, rfl⟩
theorem tw_app {p : UInt8 → Bool} : ∀ {s r : List UInt8}, (∀ c ∈ s, p c = true) → (s ++ r).takeWhile p = s ++ r.takeWhile p ∧ (s ++ r).dropWhile p = r.dropWhile p
 | [], _, _ => ⟨rfl, rfl⟩
 | c :: s, r, h => by
  obtain ⟨h1, h2⟩ := tw_app (s := s) (r := r) fun d hd => h d (by simp [hd])
  have := h c (by simp)
  rw [List.cons_append, List.takeWhile_cons, List.dropWhile_cons, this, if_pos rfl, if_pos rfl, h1, h2]; exact ⟨rfl, rfl⟩
theorem rdNum_in {m top : Int} {r : List UInt8} (h0 : 0 ≤ m) (h1 : m ≤ top) (ht : top ≤ 999999) (hr : Dl r) : rdNum top (decI m ++ r) = some (m, r) := by
 obtain ⟨e1, e2⟩ := tw_app (r := r) (digF_decI _ (Nat.le_refl _) h0).2
 obtain ⟨e3, e4⟩ := dl_tw hr
 unfold rdNum
 rw [e1, e2, e3, e4, List.append_nil, numOf_decI h0 h1 ht]; rfl
theorem tx_39 {x : List UInt8} (h : isTx (39 :: (x ++ [39])) = true) : ∀ j, j < x.length → bt x j ≠ 39 := by
 intro j hj e
 unfold isTx at h
 rw [decide_eq_true_eq] at h
 have h1 := h.2.2.2 (j + 1) (by simp; omega)
 rw [bt_succ] at h1
 have h2 : bt (x ++ [39]) j = bt x j := by simp [bt, List.getD, List.getElem?_append_left hj]
 rw [h2, e] at h1
 rcases h1 with h1 | h1
 ·omega
 ·exact absurd h1 (by decide)
theorem rdQuote_in {x r : List UInt8} (h : isTx (39 :: (x ++ [39])) = true) : rdQuote (39 :: (x ++ 39 :: r)) = some (.nd 116 x 0 [], r) := by
 have hc : cut1 39 (x ++ 39 :: r) = (x, r, true) := by
  have h1 := cut1_at (k := 39) (s := x ++ 39 :: r) (i := x.length) (by simp) (fun j hj => by
   have := tx_39 h j hj
   have h2 : bt (x ++ 39 :: r) j = bt x j := by simp [bt, List.getD, List.getElem?_append_left hj]
   rw [h2]; exact this) (by simp [bt, List.getD])
  rw [h1]
  congr 1
  ·exact List.take_left
  ·congr 1
   rw [show x.length + 1 = (x ++ [39]).length by simp, show x ++ 39 :: r = (x ++ [39]) ++ r by simp, List.drop_left]
 unfold rdQuote
 dsimp only
 rw [if_pos (by decide), hc]
 dsimp only
 rw [if_pos h]
theorem rdFlag_in {x r : List UInt8} (h : x = [121, 101, 115] ∨ x = [110, 111]) : rdFlag (x ++ r) = some (.nd 102 x 0 [], r) := by
 unfold rdFlag
 rcases h with rfl | rfl
 ·rw [if_pos (by simp [List.isPrefixOf])]; rfl
 ·rw [if_neg (by simp [List.isPrefixOf]), if_pos (by simp [List.isPrefixOf])]; rfl
theorem rdItems_in {f : List UInt8 → Option (V × List UInt8)} {rest : List UInt8} : ∀ (ks : List V) (m : Nat) (acc : List V), ks ≠ [] → ks.length ≤ m → (∀ v ∈ ks, ∀ r, Dl r → f (v.out ++ r) = some (v, r)) → rdItems f m (joinB 44 (ks.map V.out) ++ 93 :: rest) acc = some (acc ++ ks, rest)
 | [], _, _, h, _, _ => absurd rfl h
 | [v], m, acc, _, hm, hf => by
  obtain ⟨m, rfl⟩ : ∃ n, m = n + 1 := ⟨m - 1, by simp at hm; omega⟩
  unfold rdItems
  simp only [List.map_cons, List.map_nil, joinB]
  rw [hf v (by simp) _ (dl_cons (by decide))]
  dsimp only
  rw [if_neg (by decide), if_pos (by decide)]
 | v :: u :: ks, m, acc, _, hm, hf => by
  obtain ⟨m, rfl⟩ : ∃ n, m = n + 1 := ⟨m - 1, by simp at hm; omega⟩
  have ih := rdItems_in (rest := rest) (u :: ks) m (acc ++ [v]) (by simp) (by simp at hm ⊢; omega) fun w hw => hf w (by simp [hw])
  unfold rdItems
  simp only [List.map_cons, joinB, List.append_assoc, List.cons_append] at ih ⊢
  rw [hf v (by simp) _ (dl_cons (by decide))]
  dsimp only
  rw [if_pos (by decide), ih]
  simp
theorem fldT_mem {t : Ty} (hw : TyW t) {d : Fld} (h : d ∈ t.fields) : fldT t.fields d.tag = some d := by
 cases e : fldT t.fields d.tag with
 | none => have := (List.find?_eq_none.1 e) d h; simp at this
 | some d' =>
  have h1 : d'.tag = d.tag := by have := List.find?_some e; simpa using this
  rw [fld_tag hw (List.mem_of_find?_eq_some e) h h1]
theorem rdField_in {f : List UInt8 → List UInt8 → Option (V × List UInt8)} {t : Ty} (hw : TyW t) {d : Fld} {v : V} {r : List UInt8} (h : d ∈ t.fields) (hf : f d.kind (v.out ++ r) = some (v, r)) : rdField f t (decI d.tag ++ 61 :: (v.out ++ r)) = some ((d, v), r) := by
 have ht := (hw.fld d h).tag
 unfold rdField
 rw [rdNum_in (by omega) ht.2 (by decide) (dl_cons (by decide))]
 dsimp only
 rw [fldT_mem hw h]
 dsimp only
 rw [if_pos (by decide), hf]; rfl
theorem rdFlds_in {ts : List Ty} {f : List UInt8 → List UInt8 → Option (V × List UInt8)} {t : Ty} (hw : TyW t) {rest : List UInt8} : ∀ (fs : List (Fld × V)) (m : Nat) (last : Int) (acc : List V), fs ≠ [] → fs.length ≤ m → (∀ p ∈ fs, p.1 ∈ t.fields ∧ p.2.out ≠ standF ts p.1 ∧ last < p.1.tag ∧ ∀ r, Dl r → f p.1.kind (p.2.out ++ r) = some (p.2, r)) → fs.Pairwise (fun a b => a.1.tag < b.1.tag) →
  rdFlds ts f t m last (joinB 44 ((fs.map fldV).map V.out) ++ 125 :: rest) acc = some (acc ++ fs.map fldV, rest)
 | [], _, _, _, h, _, _, _ => absurd rfl h
 | [p], m, last, acc, _, hm, hf, _ => by
  obtain ⟨m, rfl⟩ : ∃ n, m = n + 1 := ⟨m - 1, by simp at hm; omega⟩
  obtain ⟨h1, h2, h3, h4⟩ := hf p (by simp)
  unfold rdFlds
  simp only [List.map_cons, List.map_nil, joinB, fldV, out_fld, List.append_assoc, List.cons_append]
  rw [rdField_in hw h1 (h4 _ (dl_cons (by decide)))]
  dsimp only
  rw [if_neg (by rintro (h | h); omega; exact h2 h), if_neg (by decide), if_pos (by decide)]
 | p :: q :: fs, m, last, acc, _, hm, hf, hp => by
  obtain ⟨m, rfl⟩ : ∃ n, m = n + 1 := ⟨m - 1, by simp at hm; omega⟩
  obtain ⟨h1, h2, h3, h4⟩ := hf p (by simp)
  rw [List.pairwise_cons] at hp
  have ih := rdFlds_in (ts := ts) (f := f) hw (rest := rest) (q :: fs) m p.1.tag (acc ++ [fldV p]) (by simp) (by simp at hm ⊢; omega) (fun w hw => ⟨(hf w (by simp [hw])).1, (hf w (by simp [hw])).2.1, hp.1 w hw, (hf w (by simp [hw])).2.2.2⟩) hp.2
  unfold rdFlds
  simp only [List.map_cons, joinB, out_fld, List.append_assoc, List.cons_append] at ih ⊢
  rw [rdField_in hw h1 (h4 _ (dl_cons (by decide)))]
  dsimp only
  rw [if_neg (by rintro (h | h); omega; exact h2 h), if_pos (by decide), ih]
  simp
theorem decI_cons {m : Int} (h : 0 ≤ m) : ∃ c r, decI m = c :: r ∧ isDg c = true := by
 cases e : decI m with
 | nil => have := decI_pos m; rw [e] at this; simp at this
 | cons c r => exact ⟨c, r, rfl, (digF_decI _ (Nat.le_refl _) h).2 c (by rw [e]; simp)⟩
theorem dg_ne {c : UInt8} (h : isDg c = true) : 48 ≤ c.toNat ∧ c.toNat ≤ 57 := by unfold isDg at h; rwa [decide_eq_true_eq] at h
theorem out_head {ts : List Ty} {k : List UInt8} {v : V} (h : OfK ts k v) : ∃ c r, v.out = c :: r ∧ c.toNat ≠ 93 := by
 cases h with
 | num k n h1 h2 => obtain ⟨c, r, e, hc⟩ := decI_cons h1; have := dg_ne hc; exact ⟨c, r, by rw [V.out]; exact e, by omega⟩
 | txt k x => exact ⟨39, _, by rw [V.out]; rfl, by decide⟩
 | flg k x h => rcases h with rfl | rfl; exact ⟨121, _, by rw [V.out]; rfl, by decide⟩; exact ⟨110, _, by rw [V.out]; rfl, by decide⟩
 | lst => exact ⟨91, _, by rw [V.out]; rfl, by decide⟩
 | non => exact ⟨45, _, by rw [V.out]; rfl, by decide⟩
 | opt => exact ⟨43, _, by rw [V.out]; rfl, by decide⟩
 | recd => exact ⟨123, _, by rw [V.out]; rfl, by decide⟩
 | enm => exact ⟨35, _, by rw [V.out]; rfl, by decide⟩
 | uni => exact ⟨60, _, by rw [V.out]; rfl, by decide⟩
theorem rd_in {ts : List Ty} (hw : SchW ts) : ∀ (n : Nat) {k : List UInt8} {v : V}, OfK ts k v → v.deep ≤ n → ∀ r, Dl r → rd ts n k (v.out ++ r) = some (v, r)
 | 0, k, v, h, hd, r, hr => by
  obtain ⟨w, x, t, ks⟩ := v
  have hne : w ≠ 61 := by cases h <;> decide
  rw [deep_nd hne] at hd; omega
 | n + 1, k, v, h, hd, r, hr => by
  have ih := fun {k : List UInt8} {v : V} => rd_in hw n (k := k) (v := v)
  show rdK ts (rd ts n) k (v.out ++ r) = some (v, r)
  cases h with
  | num k m h1 h2 =>
   have e : V.out (.nd 110 (decI m) 0 []) = decI m := by rw [V.out]; rfl
   have hrf : refT ts (110 :: k) = none := by cases h : refT ts (110 :: k) with | none => rfl | some t => exact (refT_no h rfl (by decide)).elim
   rw [e]
   unfold rdK
   try dsimp only
   rw [if_neg (by decide), if_neg (by decide), hrf]
   try dsimp only
   rw [if_pos (by decide), rdNum_in h1 h2 (by decide) hr]; rfl
  | txt k x h1 =>
   have e : V.out (.nd 116 x 0 []) ++ r = 39 :: (x ++ 39 :: r) := by rw [V.out]; simp [outW]
   have hrf : refT ts (116 :: k) = none := by cases h : refT ts (116 :: k) with | none => rfl | some t => exact (refT_no h rfl (by decide)).elim
   rw [e]
   unfold rdK
   try dsimp only
   rw [if_neg (by decide), if_neg (by decide), hrf]
   try dsimp only
   rw [if_neg (by decide), if_pos (by decide), rdQuote_in h1]
  | flg k x h1 =>
   have e : V.out (.nd 102 x 0 []) = x := by rw [V.out]; rfl
   have hrf : refT ts (102 :: k) = none := by cases h : refT ts (102 :: k) with | none => rfl | some t => exact (refT_no h rfl (by decide)).elim
   rw [e]
   unfold rdK
   try dsimp only
   rw [if_neg (by decide), if_neg (by decide), hrf]
   try dsimp only
   rw [if_neg (by decide), if_neg (by decide), if_pos (by decide), rdFlag_in h1]
  | lst k ks h1 h2 =>
   rw [deep_nd (by decide)] at hd
   rw [out_list]
   unfold rdK
   try dsimp only
   rw [if_pos (by decide)]
   try dsimp only
   rw [if_pos (by decide)]
   cases ks with
   | nil => simp only [List.map_nil, joinB, List.nil_append]; rw [if_pos (by decide)]
   | cons v ks =>
    have hI := rdItems_in (f := rd ts n k) (rest := r) (v :: ks) 20 [] (by simp) h1 fun u hu r hr => ih (h2 u hu) (by have := V.deep_mem hu; omega) r hr
    obtain ⟨c, s, e1, e2⟩ := out_head (h2 v (by simp))
    cases hj : joinB 44 ((v :: ks).map V.out) ++ 93 :: r with
    | nil => simp at hj
    | cons c' s' =>
     have hc' : c' = c := by
      have : ∃ s2, joinB 44 ((v :: ks).map V.out) ++ 93 :: r = c :: s2 := by
       cases ks with
       | nil => simp only [List.map_cons, List.map_nil, joinB, e1, List.cons_append]; exact ⟨_, rfl⟩
       | cons u ks => simp only [List.map_cons, joinB, e1, List.cons_append]; exact ⟨_, rfl⟩
      obtain ⟨s2, h3⟩ := this
      rw [hj] at h3; injection h3
     try dsimp only
     rw [if_neg (by rw [hc']; exact e2), ← hj, hI]; rfl
  | non k =>
   have e : V.out (.nd 63 [] 0 []) ++ r = 45 :: r := by rw [V.out]; rfl
   rw [e]
   unfold rdK
   try dsimp only
   rw [if_neg (by decide), if_pos (by decide)]
   try dsimp only
   rw [if_pos (by decide)]
  | opt k v h1 =>
   rw [deep_nd (by decide)] at hd
   have hd2 : v.deep ≤ n := by have := V.deep_mem (ks := [v]) (v := v) (by simp); omega
   rw [out_opt]
   unfold rdK
   try dsimp only
   rw [if_neg (by decide), if_pos (by decide)]
   try dsimp only
   rw [if_neg (by decide), if_pos (by decide), ih h1 hd2 r hr]; rfl
  | recd k t fs h1 h2 h3 h4 h5 h6 =>
   rw [deep_nd (by decide)] at hd
   have hk : ∃ k', k = 64 :: k' := by
    cases k with
    | nil => simp [refT, refN] at h1
    | cons c k' =>
     by_cases h64 : c.toNat = 64
     ·exact ⟨k', by rw [show c = 64 from UInt8.toNat_inj.1 h64]⟩
     ·exact (refT_no h1 rfl h64).elim
   obtain ⟨k', rfl⟩ := hk
   rw [out_rec]
   unfold rdK
   try dsimp only
   rw [if_neg (by decide), if_neg (by decide), h1]
   try dsimp only
   unfold rdTyped
   dsimp only
   rw [if_pos h2, if_pos (by decide)]
   cases fs with
   | nil => simp only [List.map_nil, joinB, List.nil_append]; rw [if_pos (by decide)]
   | cons p fs =>
    have hlen : (p :: fs).length ≤ (joinB 44 (((p :: fs).map fldV).map V.out) ++ 125 :: r).length + 1 := by
     have h7 : ∀ xs : List (List UInt8), (∀ x ∈ xs, 1 ≤ x.length) → xs.length ≤ (joinB 44 xs).length := by
      intro xs
      induction xs with
      | nil => intro _; simp
      | cons x xs ihx =>
       intro hx
       have hx1 := hx x (by simp)
       have ihx := ihx fun y hy => hx y (by simp [hy])
       cases xs with
       | nil => simp only [joinB, List.length_cons, List.length_nil]; omega
       | cons y xs => simp only [joinB, List.length_append, List.length_cons] at ihx ⊢; omega
     have h8 := h7 (((p :: fs).map fldV).map V.out) (fun x hx => by
      obtain ⟨v, hv, rfl⟩ := List.mem_map.1 hx
      obtain ⟨q, hq, rfl⟩ := List.mem_map.1 hv
      rw [out_fld]; simp; omega)
     simp only [List.length_map] at h8
     simp only [List.length_append, List.length_cons]
     simp only [List.length_cons] at h8
     omega
    have hI := rdFlds_in (ts := ts) (f := rd ts n) (hw.ty t (refT_mem h1)) (rest := r) (p :: fs) ((joinB 44 (((p :: fs).map fldV).map V.out) ++ 125 :: r).length + 1) 0 [] (by simp) hlen (fun q hq => ⟨h3 q hq, h5 q hq, by have := ((hw.ty t (refT_mem h1)).fld _ (h3 q hq)).tag; omega, fun r hr => ih (h4 q hq) (by
     have := V.deep_mem (ks := (p :: fs).map fldV) (v := fldV q) (List.mem_map.2 ⟨q, hq, rfl⟩)
     rw [show V.deep (fldV q) = V.deep q.2 from deep_fld] at this
     omega) r hr⟩) h6
    obtain ⟨c, s, e1, e2⟩ := decI_cons (m := p.1.tag) (by have := ((hw.ty t (refT_mem h1)).fld _ (h3 p (by simp))).tag; omega)
    have he2 := dg_ne e2
    cases hj : joinB 44 (((p :: fs).map fldV).map V.out) ++ 125 :: r with
    | nil => simp at hj
    | cons c' s' =>
     have hc' : c' = c := by
      have : ∃ s2, joinB 44 (((p :: fs).map fldV).map V.out) ++ 125 :: r = c :: s2 := by
       cases fs with
       | nil => simp only [List.map_cons, List.map_nil, joinB, out_fld, e1, List.cons_append]; exact ⟨_, rfl⟩
       | cons u ks => simp only [List.map_cons, joinB, out_fld, e1, List.cons_append]; exact ⟨_, rfl⟩
      obtain ⟨s2, h3⟩ := this
      rw [hj] at h3; injection h3
     try dsimp only
     rw [if_neg (by rw [hc']; omega), ← hj, hI]; rfl
  | enm k t d h1 h2 h3 =>
   have hk : ∃ k', k = 64 :: k' := by
    cases k with
    | nil => simp [refT, refN] at h1
    | cons c k' =>
     by_cases h64 : c.toNat = 64
     ·exact ⟨k', by rw [show c = 64 from UInt8.toNat_inj.1 h64]⟩
     ·exact (refT_no h1 rfl h64).elim
   obtain ⟨k', rfl⟩ := hk
   have ht := ((hw.ty t (refT_mem h1)).fld d h3).tag
   have e : V.out (.nd 69 [] d.tag []) ++ r = 35 :: (decI d.tag ++ r) := by rw [V.out]; rfl
   rw [e]
   unfold rdK
   try dsimp only
   rw [if_neg (by decide), if_neg (by decide), h1]
   try dsimp only
   unfold rdTyped
   dsimp only
   rw [if_neg (by omega), if_pos h2, if_pos (by decide), rdNum_in (by omega) ht.2 (by decide) hr]
   try dsimp only
   rw [fldT_mem (hw.ty t (refT_mem h1)) h3, if_pos (by simp)]
  | uni k t d v h1 h2 h3 h4 h5 =>
   rw [deep_nd (by decide)] at hd
   have hd2 : v.deep ≤ n := by have := V.deep_mem (ks := [v]) (v := v) (by simp); omega
   have hk : ∃ k', k = 64 :: k' := by
    cases k with
    | nil => simp [refT, refN] at h1
    | cons c k' =>
     by_cases h64 : c.toNat = 64
     ·exact ⟨k', by rw [show c = 64 from UInt8.toNat_inj.1 h64]⟩
     ·exact (refT_no h1 rfl h64).elim
   obtain ⟨k', rfl⟩ := hk
   rw [out_uni]
   unfold rdK
   try dsimp only
   rw [if_neg (by decide), if_neg (by decide), h1]
   try dsimp only
   unfold rdTyped
   dsimp only
   rw [if_neg h2, if_neg h3, if_pos (by decide), rdField_in (hw.ty t (refT_mem h1)) h4 (ih h5 hd2 _ (dl_cons (by decide)))]
   try dsimp only
   rw [if_pos (by decide)]
theorem valOf_in {ts : List Ty} (hw : SchW ts) {k : List UInt8} {v : V} (h : OfK ts k v) (hl : v.out.length ≤ 400) (hd : v.deep ≤ 12) : valOf ts k v.out = some v := by
 have h1 := rd_in hw 12 h hd [] dl_nil
 rw [List.append_nil] at h1
 unfold valOf
 rw [if_pos hl, h1]
end Go.E
namespace Go.E
set_option maxRecDepth 20000
set_option maxHeartbeats 2000000
open Go.Proofs
variable {G : Gh}
def DrawC (u : Value) (vs : List TyX) (k : List UInt8) (deep cp : Int) (ct : Nat) : Prop := ∀ (G : Gh) (r : Nat) (code : Value) (p : Int) (l : List UInt8), SchR G u vs → SlV G code 1 l.length (u8s l) → 0 ≤ p ∧ p + cp ≤ 600000000000 →
 FnM Tryz.prog 84 [Pt r 0, u, S k, I deep] G [rdO r code p tRdr] (fun v G' L' => ∃ w b q, v = Pt b 0 ∧ RepR G' (tys vs) w k b ∧ w.tot ≤ ct ∧ 1 ≤ w.out.length ∧ L' = [rdO r code q tRdr] ∧ p ≤ q ∧ q ≤ p + cp)
theorem DrawC.le {u : Value} {vs : List TyX} {k : List UInt8} {deep cp cp' : Int} {ct ct' : Nat} (h : DrawC u vs k deep cp ct) (h1 : cp ≤ cp') (h2 : ct ≤ ct') : DrawC u vs k deep cp' ct' := fun G r code p l h3 h4 h5 =>
 (h G r code p l h3 h4 ⟨h5.1, by omega⟩).mono fun _ _ _ ⟨h6, w, b, q, h7, h8, h9, h10, h11, h12, h13⟩ => ⟨h6, w, b, q, h7, h8, by omega, h10, h11, h12, by omega⟩
theorem dv_flag {u : Value} {vs : List TyX} {deep : Int} : DrawC u vs [102] deep 15 200 := by
 intro G r code p l hR hs hp
 have cx_pk2 : ∀ {p : Int}, 0 ≤ p ∧ p ≤ 1000000000000 → FnG Tryz.prog 50 [Pt r 0, I 2] G [rdO r code p tRdr] (fun v L' => L' = [rdO r code (p + 1) tRdr] ∧ (v = I 0 ∨ v = I 1)) := fun {p} hp => (c_pick (b := r) (p := p) (n := 2) ⟨hp.1, hp.2, by decide⟩ hs).mono fun v G' L' ⟨h1, k, h2, h3, h4, h5⟩ => ⟨h1, h3, by subst h2; rcases (show k = 0 ∨ k = 1 by omega) with rfl | rfl; exact .inl rfl; exact .inr rfl⟩
 refine m_enter [(0, _), (1, _), (2, _), (3, _)] Tryz.func84 (by kernel_rfl) Tryz.ntmps84 rfl rfl (by repeat' constructor) fun B hB hW => ?_
 repeat' (first | (refine run (t := tb) 400 rfl ?_ ?_; (focus (repeat' (first | exact trivial | apply And.intro | omega | (simp only [List.length_append, List.length_cons, List.length_nil, Int.toNat_natCast]; omega))))) | (refine k_op rfl ?_; first | refine jV (g_bld rfl rfl) ?_ | refine c_bx rfl rfl rfl fun _ => ?_ | refine c_bsl rfl rfl rfl rfl rfl rfl fun _ => ?_ | (refine jV (g_iaddr rfl rfl (by omega)) ?_) | refine jV (g_ld rfl rfl rfl) ?_ | refine c_st1 rfl rfl rfl rfl ?_ | (refine c_m1g rfl rfl rfl (cx_pk2 (by omega)) rfl ?_; rintro _ _ ⟨rfl, rfl | rfl⟩ <;> dsimp only [zA, fA])) | (refine k_tt rfl rfl ?_) | (refine k_ff rfl rfl ?_))
 all_goals rename_i y _
 all_goals refine Nx.sealC (b := y) fun G2 hG2 hsy => ?_
 ·exact k_rr (vs := [_]) rfl ⟨rfl, trivial⟩ rfl (by repeat (first | exact List.nil_sublist _ | apply List.Sublist.cons_cons)) ⟨hG2, .nd 102 [121, 101, 115] 0 [], y, _, rfl, .leaf 102 _ _ _ y hsy (.inr (.inr ⟨rfl, rfl, rfl, .inl rfl⟩)), by simp [nd_tot, V.tots], by rw [V.out]; simp [outW], rfl, by omega, by omega⟩
 ·exact k_rr (vs := [_]) rfl ⟨rfl, trivial⟩ rfl (by repeat (first | exact List.nil_sublist _ | apply List.Sublist.cons_cons)) ⟨hG2, .nd 102 [110, 111] 0 [], y, _, rfl, .leaf 102 _ _ _ y hsy (.inr (.inr ⟨rfl, rfl, rfl, .inr rfl⟩)), by simp [nd_tot, V.tots], by rw [V.out]; simp [outW], rfl, by omega, by omega⟩
abbrev tPtr4 : TypeId := 60
theorem dec_dg {m : Int} (h : 0 ≤ m) : ∀ c ∈ decI m, isDg c = true := (digF_decI m.toNat (Nat.le_refl _) h).2
theorem dv_num {u : Value} {vs : List TyX} {deep : Int} : DrawC u vs [110] deep 15 200 := by
 intro G r code p l hR hs hp
 refine m_enter [(0, _), (1, _), (2, _), (3, _)] Tryz.func84 (by kernel_rfl) Tryz.ntmps84 rfl rfl (by repeat' constructor) fun B hB hW => ?_
 repeat' (first | (refine run (t := tb) 400 rfl ?_ ?_; (focus (repeat' (first | exact trivial | apply And.intro | omega | (simp only [List.length_append, List.length_cons, List.length_nil, Int.toNat_natCast]; omega))))) | (refine k_op rfl ?_; first | refine jV (g_bld rfl rfl) ?_ | refine c_bx rfl rfl rfl fun _ => ?_ | refine c_bsl rfl rfl rfl rfl rfl rfl fun _ => ?_ | (refine jV (g_iaddr rfl rfl (by omega)) ?_) | (refine c_ldMI 999999 rfl rfl rfl ?_ ?_ (fun iz hz0 hz1 => ?_); (focus ((simp only [List.length_append, List.length_cons, List.length_nil, List.length_take]; omega); done)); (focus ((repeat' (first | exact intsIn_nil | (refine intsIn_cons ⟨by omega, by omega⟩ ?_))); done))) | refine c_st1 rfl rfl rfl rfl ?_ | (refine c_m1g rfl rfl rfl (c_pick ?_ (by (repeat (assumption)); done)) rfl ?_; (focus ((omega); done)); rintro _ _ ⟨k, rfl, rfl, hk0, hk1⟩; dsimp only [zA, fA]) | (refine c_rt rfl rfl rfl (c_l6Dec (by omega)) rfl ?_)) | (refine k_tt rfl rfl ?_))
 rename_i y _ _ _ _
 have hdl := decI_len (n := iz) (by omega)
 have hdp := decI_pos iz
 refine Nx.sealC (b := y) fun G2 hG2 hsy => ?_
 exact k_rr (vs := [_]) rfl ⟨rfl, trivial⟩ rfl (by repeat (first | exact List.nil_sublist _ | apply List.Sublist.cons_cons)) ⟨hG2, .nd 110 (decI iz) 0 [], y, _, rfl, .leaf 110 _ _ _ y hsy (.inl ⟨rfl, rfl, rfl, dec_dg hz0⟩), by rw [nd_tot, V.tots]; omega, by rw [V.out]; exact hdp, rfl, by omega, by omega⟩
theorem dv_txt {u : Value} {vs : List TyX} {deep : Int} : DrawC u vs [116] deep 15 200 := by
 intro G r code p l hR hs hp
 refine m_enter [(0, _), (1, _), (2, _), (3, _)] Tryz.func84 (by kernel_rfl) Tryz.ntmps84 rfl rfl (by repeat' constructor) fun B hB hW => ?_
 repeat' (first | (refine run (t := tb) 400 rfl ?_ ?_; (focus (repeat' (first | exact trivial | apply And.intro | omega | (simp only [List.length_append, List.length_cons, List.length_nil, Int.toNat_natCast]; omega))))) | (refine k_op rfl ?_; first | refine jV (g_bld rfl rfl) ?_ | refine c_bx rfl rfl rfl fun _ => ?_ | refine c_st1 rfl rfl rfl rfl ?_ | (refine c_m1g rfl rfl rfl (c_l91Text ?_ (by (repeat (assumption)); done)) rfl ?_; (focus ((omega); done)); rintro _ _ ⟨tx, q1, rfl, htx, rfl, hq1, hq2⟩; dsimp only [zA, fA])) | (refine k_tt rfl rfl ?_) | (refine k_ff rfl rfl ?_))
 rename_i y
 refine Nx.sealC (b := y) fun G2 hG2 hsy => ?_
 exact k_rr (vs := [_]) rfl ⟨rfl, trivial⟩ rfl sRr ⟨hG2, .nd 116 tx 0 [], y, _, rfl, .leaf 116 _ _ _ y hsy (.inr (.inl ⟨rfl, rfl, rfl⟩)), by rw [nd_tot, V.tots]; omega, by rw [V.out]; simp [outW], rfl, by omega, by omega⟩
theorem reps_snocR {ts : List Ty} {k : List UInt8} {ks : List V} {bs : List Nat} {w : V} {b : Nat} (hl : bs.length = ks.length) (h : ∀ i, i < ks.length → RepR G ts (nth ks i) k (nth bs i)) (hw : RepR G ts w k b) : ∀ i, i < (ks ++ [w]).length → RepR G ts (nth (ks ++ [w]) i) k (nth (bs ++ [b]) i) := fun i hi => by
 by_cases h1 : i < ks.length
 ·have e1 : nth (ks ++ [w]) i = nth ks i := by rw [nth_eq hi, nth_eq h1, List.getElem_append_left h1]
  have e2 : nth (bs ++ [b]) i = nth bs i := by rw [nth_eq (by simp; omega), nth_eq (by omega), List.getElem_append_left (by omega)]
  rw [e1, e2]; exact h i h1
 ·have h2 : i = ks.length := by simp at hi; omega
  have e1 : nth (ks ++ [w]) i = w := by rw [nth_eq hi]; simp [h2]
  have e2 : nth (bs ++ [b]) i = b := by rw [nth_eq (by simp; omega)]; simp [h2, hl]
  rw [e1, e2]; exact hw
theorem dv_list {u : Value} {vs : List TyX} {kd : List UInt8} {deep cp : Int} {ct : Nat} (hcp : 0 ≤ cp ∧ cp ≤ 100000000) (hct : ct ≤ 100000000) (hD : 0 < deep → DrawC u vs kd (deep - 1) cp ct) (hu : u.oneCell' = true) (hkl : kd.length ≤ 1000) (hd : -1000 ≤ deep ∧ deep ≤ 1000) : DrawC u vs (91 :: kd) deep (3 * cp + 10) (3 * ct + 200) := by
 intro G r code p l hR hs hp
 have hkd0 : bt (91 :: kd) (Int.toNat 0) = 91 := bt_zero 91 kd
 have hkl2 : (91 :: kd).length = kd.length + 1 := rfl
 refine m_enter [(0, _), (1, _), (2, _), (3, _)] Tryz.func84 (by kernel_rfl) Tryz.ntmps84 rfl rfl (by repeat' constructor) fun B hB hW => ?_
 repeat' (first | refine jM ?_ | (refine k_op rfl ?_; first | refine jV (g_bld rfl rfl) ?_ | refine c_bx rfl rfl rfl fun _ => ?_ | (refine c_m1g rfl rfl rfl (c_pick ?_ (by (repeat (assumption)); done)) rfl ?_; (focus ((omega); done)); rintro _ _ ⟨k, rfl, rfl, hk0, hk1⟩; dsimp only [zA, fA])) | (refine k_tt rfl rfl ?_) | (refine k_ff rfl rfl ?_))
 rename_i y
 refine Nx.addNil tPtr4 1 ?_
 refine k_loop (ι := List V × List Nat × Option Addr × Nat × Int × Int × Gh) (fun j => ((j.2.1.length = j.1.length ∧ ∀ i, i < j.1.length → RepR j.2.2.2.2.2.2 (tys vs) (nth j.1 i) kd (nth j.2.1 i)) ∧ Gh.le G j.2.2.2.2.2.2) ∧ (0 ≤ j.2.2.2.2.1 ∧ ((j.1.length : Nat) : Int) + j.2.2.2.2.1 ≤ 3) ∧ V.tots j.1 ≤ ct * j.1.length ∧ p ≤ j.2.2.2.2.2.1 ∧ j.2.2.2.2.2.1 ≤ p + 1 + cp * ((j.1.length : Nat) : Int)) (fun j => [(0, Pt r 0), (1, u), (2, S (91 :: kd)), (3, I deep), (9, Pt y 0), (10, I j.2.2.2.2.1)]) (fun j => j.2.2.2.2.2.2) (fun j => [.acc (.slice j.2.2.1 j.1.length j.2.2.2.1) tPtr4 1 j.1.length (rows ptR j.2.1), rdO r code j.2.2.2.2.2.1 tRdr, .blk y (.cells (List.toArray [S (91 :: kd), S [], nilS, .slice j.2.2.1 j.1.length j.2.2.2.1]) tLv (0, 0))]) (fun j => j.2.2.2.2.1.toNat) ([], [], none, 0, k, p + 1, G) ?_ (by repeat' constructor) rfl sRr (fun j Hj => ?_)
 ·refine ⟨⟨⟨rfl, fun i hi => absurd hi (by simp)⟩, Gh.le.refl _⟩, ?_, ?_, ?_, ?_⟩
  ·dsimp only; simp only [List.length_nil]; omega
  ·simp [V.tots]
  ·dsimp only; omega
  ·dsimp only; simp
 obtain ⟨ks, bs, a, c, kk, q, Gq⟩ := j
 dsimp only at Hj ⊢
 obtain ⟨⟨⟨hbl, hreps⟩, hgq⟩, hk, htt, hq0, hq1⟩ := Hj
 have hcl : cp * ((ks.length : Nat) : Int) ≤ cp * 3 := Int.mul_le_mul_of_nonneg_left (by omega) hcp.1
 have hcl0 : 0 ≤ cp * ((ks.length : Nat) : Int) := Int.mul_nonneg hcp.1 (by omega)
 have htl : ct * ks.length ≤ ct * 3 := Nat.mul_le_mul_left _ (by omega)
 by_cases hgo : 0 < kk ∧ 0 < deep
 ·obtain ⟨hk0, hd0⟩ := hgo
  have hcl3 : cp * ((ks.length : Nat) : Int) + cp ≤ cp * 3 := by
   have := Int.mul_le_mul_of_nonneg_left (show ((ks.length : Nat) : Int) + 1 ≤ 3 by omega) hcp.1
   rwa [Int.mul_add, Int.mul_one] at this
  have cx_dv := fun {p : Int} (hp : 0 ≤ p ∧ p + cp ≤ 600000000000) => hD hd0 Gq r code p l (hR.mono hgq) (hs.mono hgq) hp
  repeat' (first | (refine jR ?_) | (refine k_op rfl ?_; (refine jV (g_pickT rfl rfl rfl) ?_)) | (refine k_gt rfl rfl (dTt ‹_›) ?_) | (refine k_tt rfl (dTt ‹_›) ?_))
  (refine k_any (s_any (id := 16) [] (fun _ h => absurd h (by simp)) mixed ?_); refine jU 7 [0, 1, 2, 3, 5, 6, 7, 8, 9, 10] (bts 17 2031) ?_ ?_; (focus (repeat' (first | exact trivial | apply And.intro | omega))); refine x_all [4, 11] (by kernel_rfl) (by decide) ⟨?_, ?_, trivial⟩; (focus (refine x_opg rfl rfl ?_; (refine jV (g_ld rfl rfl rfl) ?_); refine jK (bts 17 2047) ?_; refine jA 11 rfl ?_; ((refine c_m1s rfl rfl rfl (cx_dv ?_) rfl ?_; (focus ((omega); done)); rintro _ G1 _ hle ⟨w1, b1, q1, rfl, hrep, htot, hone, rfl, hq1, hq2⟩; dsimp only [zA, fA]; skip)); refine jK (bts 17 4095) ?_; refine jA 12 rfl ?_; (refine c_bsl rfl rfl rfl rfl rfl rfl fun _ => ?_); refine jK (bts 17 8191) ?_; refine jA 13 rfl ?_; ((refine c_apX rfl rfl rfl rfl rfl rfl rfl rfl rfl ?_ fun _ _ => ?_; (focus ((omega); done)))); refine jK (bts 17 16383) ?_; refine jU 1 [14, 15] (bts 17 65535) ?_ ?_; (focus (repeat' (exact trivial))); refine jA 16 rfl ?_; (refine c_st1 rfl rfl rfl rfl ?_); refine jK (bts 17 131071) ?_; refine x_done (by kernel_rfl) (k_bk ?_))); rotate_left 1; (focus (refine x_opg rfl rfl ?_; ((refine c_m1s rfl rfl rfl (cx_dv ?_) rfl ?_; (focus ((omega); done)); rintro _ G1 _ hle ⟨w1, b1, q1, rfl, hrep, htot, hone, rfl, hq1, hq2⟩; dsimp only [zA, fA]; skip)); refine jK (bts 17 4079) ?_; refine x_all [4, 12] (by kernel_rfl) (by decide) ⟨?_, ?_, trivial⟩; (focus (refine x_opg rfl rfl ?_; (refine jV (g_ld rfl rfl rfl) ?_); refine jK (bts 17 4095) ?_; refine jA 12 rfl ?_; (refine c_bsl rfl rfl rfl rfl rfl rfl fun _ => ?_); refine jK (bts 17 8191) ?_; refine jA 13 rfl ?_; ((refine c_apX rfl rfl rfl rfl rfl rfl rfl rfl rfl ?_ fun _ _ => ?_; (focus ((omega); done)))); refine jK (bts 17 16383) ?_; refine jU 1 [14, 15] (bts 17 65535) ?_ ?_; (focus (repeat' (exact trivial))); refine jA 16 rfl ?_; (refine c_st1 rfl rfl rfl rfl ?_); refine jK (bts 17 131071) ?_; refine x_done (by kernel_rfl) (k_bk ?_))); rotate_left 1; (focus (refine x_opg rfl rfl ?_; (refine c_bsl rfl rfl rfl rfl rfl rfl fun _ => ?_); refine jK (bts 17 8175) ?_; refine jA 4 rfl ?_; (refine jV (g_ld rfl rfl rfl) ?_); refine jK (bts 17 8191) ?_; refine jA 13 rfl ?_; ((refine c_apX rfl rfl rfl rfl rfl rfl rfl rfl rfl ?_ fun _ _ => ?_; (focus ((omega); done)))); refine jK (bts 17 16383) ?_; refine jU 1 [14, 15] (bts 17 65535) ?_ ?_; (focus (repeat' (exact trivial))); refine jA 16 rfl ?_; (refine c_st1 rfl rfl rfl rfl ?_); refine jK (bts 17 131071) ?_; refine x_done (by kernel_rfl) (k_bk ?_))); rotate_left 1)); rotate_left 2)
  all_goals repeat' (refine jM ?_)
  all_goals
   rename_i _ y1 yc
   have hl1 : (ks ++ [w1]).length = ks.length + 1 := by simp
   have hms : ct * (ks.length + 1) = ct * ks.length + ct := Nat.mul_succ _ _
   have hts : V.tots (ks ++ [w1]) = V.tots ks + w1.tot := by simp [tots_app, V.tots]
   rw [show rows ptR bs ++ [Pt b1 0] = rows ptR (bs ++ [b1]) from (rows_snoc ptR bs b1).symm]
   exact k_rd (ks ++ [w1], bs ++ [b1], some ⟨y1, 0, none⟩, yc, kk - 1, q1, G1) ⟨⟨⟨by simp [hbl], reps_snocR hbl (fun i hi => (hreps i hi).mono hle) hrep⟩, hgq.trans hle⟩, by dsimp only; rw [hl1]; omega, by dsimp only; rw [hl1, hms, hts]; omega, by dsimp only; omega, by dsimp only; rw [hl1, Int.natCast_succ, Int.mul_add, Int.mul_one]; omega⟩ (by dsimp only; omega) (by repeat' constructor) rfl (by rw [hl1]; repeat (first | exact List.Sublist.refl _ | apply List.Sublist.cons_cons | apply List.Sublist.cons))
 ·have : kk = 0 ∨ deep ≤ 0 := by omega
  repeat' (first | (refine jR ?_) | (refine k_op rfl ?_; first | (refine jV (g_pickT rfl rfl rfl) ?_) | (refine jV (g_pickF rfl rfl rfl) ?_)) | refine k_g rfl rfl (fun _ => ?_) (fun _ => ?_) | (refine k_ff rfl (by first | rfl | (refine decide_eq_false ?_; (omega))) ?_))
  all_goals
   refine Nx.sealS (v := .slice a ks.length c) fun G2 hG2 hsl => ?_
   refine Nx.sealC (b := y) fun G3 hG3 hsg => ?_
   exact k_rr (vs := [_]) rfl ⟨rfl, trivial⟩ rfl sRr ⟨hgq.trans (hG2.trans hG3), .nd 91 [] 0 ks, y, q, rfl, .lst kd y ks bs a c hsg (hsl.mono hG3) hbl (fun i hi => (hreps i hi).mono (hG2.trans hG3)), by rw [nd_tot]; simp only [List.length_nil]; omega, by rw [V.out]; simp [outW], rfl, by omega, by omega⟩
theorem dv_opt {u : Value} {vs : List TyX} {kd : List UInt8} {deep cp : Int} {ct : Nat} (hcp : 0 ≤ cp ∧ cp ≤ 100000000) (hct : ct ≤ 100000000) (hD : 0 < deep → DrawC u vs kd (deep - 1) cp ct) (hu : u.oneCell' = true) (hkl : kd.length ≤ 1000) (hd : -1000 ≤ deep ∧ deep ≤ 1000) : DrawC u vs (63 :: kd) deep (cp + 10) (ct + 200) := by
 intro G r code p l hR hs hp
 have hkd0 : bt (63 :: kd) (Int.toNat 0) = 63 := bt_zero 63 kd
 have hkl2 : (63 :: kd).length = kd.length + 1 := rfl
 by_cases h0 : 0 < deep
 ·have cx_dv := fun {p : Int} (hp : 0 ≤ p ∧ p + cp ≤ 600000000000) => hD h0 G r code p l hR hs hp
  refine m_enter [(0, _), (1, _), (2, _), (3, _)] Tryz.func84 (by kernel_rfl) Tryz.ntmps84 rfl rfl (by repeat' constructor) fun B hB hW => ?_
  repeat' (first | refine jM ?_ | (refine k_op rfl ?_; first | refine jV (g_bld rfl rfl) ?_ | refine c_bx rfl rfl rfl fun _ => ?_ | (refine jV (g_pickT rfl rfl rfl) ?_) | (refine c_m1g rfl rfl rfl (c_pick ?_ (by (repeat (assumption)); done)) rfl ?_; (focus ((omega); done)); rintro _ _ ⟨k, rfl, rfl, hk0, hk1⟩; dsimp only [zA, fA])) | (refine k_gt rfl rfl (dTt ‹_›) ?_) | (refine k_tt rfl rfl ?_) | (refine k_ff rfl rfl ?_) | refine k_if rfl (fun _ => ?_) (fun _ => ?_))
  ·refine Nx.addNil tPtr4 1 ?_
   (refine k_any (s_any (id := 20) [] (fun _ h => absurd h (by simp)) mixed ?_); refine jU 7 [0, 1, 2, 3, 5, 6, 7, 8, 9, 10] (bts 17 2031) ?_ ?_; (focus (repeat' (first | exact trivial | apply And.intro | omega))); refine x_all [4, 11] (by kernel_rfl) (by decide) ⟨?_, ?_, trivial⟩; (focus (refine x_opg rfl rfl ?_; (refine jV (g_ld rfl rfl rfl) ?_); refine jK (bts 17 2047) ?_; refine jA 11 rfl ?_; ((refine c_m1s rfl rfl rfl (cx_dv ?_) rfl ?_; (focus ((omega); done)); rintro _ G1 _ hle ⟨w1, b1, q1, rfl, hrep, htot, hone, rfl, hq1, hq2⟩; dsimp only [zA, fA]; skip)); refine jK (bts 17 4095) ?_; refine jA 12 rfl ?_; (refine c_bsl rfl rfl rfl rfl rfl rfl fun _ => ?_); refine jK (bts 17 8191) ?_; refine jA 13 rfl ?_; ((refine c_apX rfl rfl rfl rfl rfl rfl rfl rfl rfl ?_ fun _ _ => ?_; (focus ((omega); done)))); refine jK (bts 17 16383) ?_; refine jU 1 [14, 15] (bts 17 65535) ?_ ?_; (focus (repeat' (exact trivial))); refine jA 16 rfl ?_; (refine c_st1 rfl rfl rfl rfl ?_); refine jK (bts 17 131071) ?_; refine x_done (by kernel_rfl) (k_bk ?_))); rotate_left 1; (focus (refine x_opg rfl rfl ?_; ((refine c_m1s rfl rfl rfl (cx_dv ?_) rfl ?_; (focus ((omega); done)); rintro _ G1 _ hle ⟨w1, b1, q1, rfl, hrep, htot, hone, rfl, hq1, hq2⟩; dsimp only [zA, fA]; skip)); refine jK (bts 17 4079) ?_; refine x_all [4, 12] (by kernel_rfl) (by decide) ⟨?_, ?_, trivial⟩; (focus (refine x_opg rfl rfl ?_; (refine jV (g_ld rfl rfl rfl) ?_); refine jK (bts 17 4095) ?_; refine jA 12 rfl ?_; (refine c_bsl rfl rfl rfl rfl rfl rfl fun _ => ?_); refine jK (bts 17 8191) ?_; refine jA 13 rfl ?_; ((refine c_apX rfl rfl rfl rfl rfl rfl rfl rfl rfl ?_ fun _ _ => ?_; (focus ((omega); done)))); refine jK (bts 17 16383) ?_; refine jU 1 [14, 15] (bts 17 65535) ?_ ?_; (focus (repeat' (exact trivial))); refine jA 16 rfl ?_; (refine c_st1 rfl rfl rfl rfl ?_); refine jK (bts 17 131071) ?_; refine x_done (by kernel_rfl) (k_bk ?_))); rotate_left 1; (focus (refine x_opg rfl rfl ?_; (refine c_bsl rfl rfl rfl rfl rfl rfl fun _ => ?_); refine jK (bts 17 8175) ?_; refine jA 4 rfl ?_; (refine jV (g_ld rfl rfl rfl) ?_); refine jK (bts 17 8191) ?_; refine jA 13 rfl ?_; ((refine c_apX rfl rfl rfl rfl rfl rfl rfl rfl rfl ?_ fun _ _ => ?_; (focus ((omega); done)))); refine jK (bts 17 16383) ?_; refine jU 1 [14, 15] (bts 17 65535) ?_ ?_; (focus (repeat' (exact trivial))); refine jA 16 rfl ?_; (refine c_st1 rfl rfl rfl rfl ?_); refine jK (bts 17 131071) ?_; refine x_done (by kernel_rfl) (k_bk ?_))); rotate_left 1)); rotate_left 2)
   all_goals repeat' (refine jR ?_)
   all_goals
    rename_i y _ _ y1 yc
    refine Nx.sealS (v := .slice (some ⟨y1, 0, none⟩) (0 + 1) yc) fun G2 hG2 hsl => ?_
    refine Nx.sealC (b := y) fun G3 hG3 hsg => ?_
    obtain ⟨_, ⟨h, _⟩ | ⟨b2, o2, c2, e, hc2, hs2⟩⟩ := hsl
    ·cases h
    simp only [Value.slice.injEq, Option.some.injEq, Addr.mk.injEq, and_true] at e
    obtain ⟨⟨rfl, rfl⟩, -, rfl⟩ := e
    exact k_rr (vs := [_]) rfl ⟨rfl, trivial⟩ rfl (by repeat (first | exact List.Sublist.refl _ | apply List.Sublist.cons)) ⟨hle.trans (hG2.trans hG3), .nd 63 [] 0 [w1], y, q1, rfl, .opt kd y y1 b1 yc w1 (by omega) hsg (hs2.mono hG3) (hrep.mono (hG2.trans hG3)), by simp only [nd_tot, V.tots, List.length_nil]; omega, by rw [V.out]; simp [outW], rfl, by omega, by omega⟩
  ·rename_i y _
   refine Nx.sealC (b := y) fun G2 hG2 hsy => ?_
   exact k_rr (vs := [_]) rfl ⟨rfl, trivial⟩ rfl sRr ⟨hG2, .nd 63 [] 0 [], y, _, rfl, .non kd y hsy, by simp [nd_tot, V.tots], by rw [V.out]; simp [outW], rfl, by omega, by omega⟩
 ·refine m_enter [(0, _), (1, _), (2, _), (3, _)] Tryz.func84 (by kernel_rfl) Tryz.ntmps84 rfl rfl (by repeat' constructor) fun B hB hW => ?_
  repeat' (first | refine jM ?_ | (refine k_op rfl ?_; first | refine jV (g_bld rfl rfl) ?_ | refine c_bx rfl rfl rfl fun _ => ?_ | (refine jV (g_pickF rfl rfl rfl) ?_)) | (refine k_gf rfl rfl (dFf ‹_›) ?_) | (refine k_tt rfl rfl ?_) | (refine k_ff rfl rfl ?_))
  rename_i y
  refine Nx.sealC (b := y) fun G2 hG2 hsy => ?_
  exact k_rr (vs := [_]) rfl ⟨rfl, trivial⟩ rfl sRr ⟨hG2, .nd 63 [] 0 [], y, _, rfl, .non kd y hsy, by simp [nd_tot, V.tots], by rw [V.out]; simp [outW], rfl, by omega, by omega⟩
abbrev tPtr : TypeId := 60
abbrev tRd : TypeId := 77
def ReadC (n : Nat) (u : Value) (vs : List TyX) : Prop := ∀ (G : Gh) (k s : List UInt8), SchR G u vs → kindIn (tys vs) k = true → s.length ≤ 1000 →
 FnS Tryz.prog 40 [Ag [u], S s, S k, I (n : Nat)] G (ReadP (tys vs) (rd (tys vs) n k s) k)
theorem c_listS {n : Nat} {u : Value} {vs : List TyX} {k s : List UInt8} (hR : ReadC n u vs) (h : SchR G u vs) (hk : kindIn (tys vs) k = true) (hs : s.length ≤ 1000) (hn : n ≤ 1000) :
  FnS Tryz.prog 74 [Ag [u], S s, S (91 :: k), I (n + 1 : Nat)] G (ReadP (tys vs) (rdList (rd (tys vs) n k) (91 :: s)) (91 :: k)) := by
 have edn : ((n + 1 : Nat) : Int) - 1 = (n : Nat) := by omega
 by_cases h93 : ∃ s2, s = 93 :: s2
 ·obtain ⟨s2, rfl⟩ := h93
  refine jB [(0, _), (1, _), (2, _), (3, _)] Tryz.func74 Tryz.ntmps74 fun B hok hB hW => ?_
  repeat' (first | (refine run (t := tb) 400 rfl ?_ ?_; (focus (repeat' (first | exact trivial | apply And.intro | omega | (simp only [List.length_append, List.length_cons, List.length_nil, Int.toNat_natCast]; omega))))) | (refine k_op rfl ?_; first | refine c_bx rfl rfl rfl fun _ => ?_ | refine jV (g_bld rfl rfl) ?_ | (refine jV (g_pickT rfl rfl rfl) ?_)) | (refine k_gt rfl rfl rfl ?_) | (refine k_tt rfl rfl ?_) | (refine k_any (s_any (id := 3) _ (fun _ h => h) mixed ?_); refine jU 0 [0, 1, 2, 3, 4, 5] (bts 6 63) ?_ ?_; (focus (repeat' (first | exact trivial | apply And.intro | omega | (simp only [List.length_append, List.length_cons, List.length_nil, Int.toNat_natCast]; omega)))); refine x_done (by kernel_rfl) (k_bk ?_)))
  rename_i x4 x11
  refine Nx.sealC (b := x11) fun G2 hG2 hsy => ?_
  refine jZ (vs := [_, _, _]) rfl ⟨rfl, rfl, rfl, trivial⟩ rfl ⟨hG2, rfl, ?_⟩
  rw [oneOf_three]
  exact ⟨_, _, _, rfl, fun _ => ⟨.nd 91 [] 0 [], x11, rfl, rfl, .lst k x11 [] [] none 0 hsy ⟨rfl, .inl ⟨rfl, rfl⟩⟩ rfl (fun i hi => absurd hi (by simp))⟩, fun h => (by cases h)⟩
 have hRl : rdList (rd (tys vs) n k) (91 :: s) = (rdItems (rd (tys vs) n k) 20 s []).map fun x => (.nd 91 [] 0 x.1, x.2) := by
  unfold rdList
  dsimp only
  rw [if_pos (show (91 : UInt8).toNat = 91 from rfl)]
  cases s with
  | nil =>
   have : rd (tys vs) n k [] = none := by
    cases h : rd (tys vs) n k [] with
    | none => rfl
    | some x => have := rd_short h; simp at this
   simp [rdItems, this]
  | cons e r' =>
   dsimp only
   rw [if_neg]
   intro h; exact h93 ⟨r', by rw [show e = 93 from UInt8.toNat_inj.1 h]⟩
 have hs0 : s = [] ∨ s ≠ [] ∧ ¬ ((bt s (Int.toNat 0) : Nat) : Int) = 93 := by
  cases s with
  | nil => exact .inl rfl
  | cons e r' =>
   refine .inr ⟨by simp, fun h => h93 ⟨r', ?_⟩⟩
   have : bt (e :: r') (Int.toNat 0) = e.toNat := bt_zero e r'
   rw [show e = 93 from UInt8.toNat_inj.1 (show e.toNat = 93 by omega)]
 have hkl : k.length ≤ 1000 := by
  have := (kindOk_kOk (kindIn_ok hk)).2
  omega
 have hslen : s = [] ∨ 0 < s.length := by cases s <;> simp
 rcases hs0 with hs0 | ⟨hs0, hs1⟩
 all_goals
  have hslen2 : s ≠ [] → 0 < s.length := fun h => by rcases hslen with h' | h'; exact absurd h' h; exact h'
  try have hslen3 := hslen2 hs0
  refine jB [(0, _), (1, _), (2, _), (3, _)] Tryz.func74 Tryz.ntmps74 fun B hok hB hW => ?_
  repeat' (first | refine jM ?_ | (refine k_op rfl ?_; first | refine c_bx rfl rfl rfl fun _ => ?_ | refine jV (g_bld rfl rfl) ?_ | (refine jV (g_pickT rfl rfl rfl) ?_) | (refine jV (g_pickF rfl rfl rfl) ?_)) | (refine k_gt rfl rfl (dTt ‹_›) ?_) | (refine k_gf rfl rfl ?_ ?_; (focus ((simp [*]; done); done))) | (refine k_ff rfl (by first | rfl | (refine decide_eq_false ?_; (assumption))) ?_))
  rename_i x4 x11
  refine Nx.addNil tPtr 1 ?_
  refine k_loop (ι := List V × List Nat × Option Addr × Nat × List UInt8 × Gh) (fun q => ((q.2.1.length = q.1.length ∧ ∀ i, i < q.1.length → RepR q.2.2.2.2.2 (tys vs) (nth q.1 i) k (nth q.2.1 i)) ∧ Gh.le G q.2.2.2.2.2) ∧ rdItems (rd (tys vs) n k) 20 s [] = rdItems (rd (tys vs) n k) (20 - q.1.length) q.2.2.2.2.1 q.1 ∧ q.1.length ≤ 20 ∧ q.2.2.2.2.1.length ≤ s.length) (fun q => [(1, S q.2.2.2.2.1), (2, S (91 :: k)), (3, I (n + 1 : Nat)), (4, Pt x4 0), (11, Pt x11 0)]) (fun q => q.2.2.2.2.2) (fun q => [.acc (.slice q.2.2.1 q.1.length q.2.2.2.1) tPtr 1 q.1.length (rows ptR q.2.1), .blk x11 (.cells (List.toArray [S (91 :: k), S [], nilS, .slice q.2.2.1 q.1.length q.2.2.2.1]) tLv (0, 0)), .blk x4 (.cells (List.toArray [u]) tRd (0, 0))]) (fun q => 20 - q.1.length) ([], [], none, 0, s, G) ?_ (by repeat' constructor) rfl sRr (fun q Hq => ?_)
  ·exact ⟨⟨⟨rfl, fun i hi => absurd hi (by simp)⟩, Gh.le.refl _⟩, rfl, Nat.zero_le _, Nat.le_refl _⟩
  obtain ⟨ws, bs, a, cap, t, Gq⟩ := q
  dsimp only at Hq ⊢
  obtain ⟨⟨⟨hbl, hreps⟩, hgq⟩, hit, hwl, htl⟩ := Hq
  by_cases h20 : ws.length < 20
  case neg =>
   have e20 : 20 - ws.length = 0 := by omega
   repeat' (first | (refine jR ?_) | (refine k_op rfl ?_; first | refine jV (g_ld rfl rfl rfl) ?_ | refine jV (g_lenL rfl) ?_) | (refine k_ff rfl (dFf (by omega)) ?_))
   refine jZ (vs := [_, _, _]) rfl ⟨rfl, rfl, rfl, trivial⟩ rfl ⟨hgq, rfl, ?_⟩
   rw [oneOf_three]
   exact ⟨_, _, _, rfl, fun h => (by cases h), fun _ => by rw [hRl, hit, e20]; rfl⟩
  have cx_rd := hR Gq k t (h.mono hgq) hk (by omega)
  rw [← edn] at cx_rd
  repeat' (first | (refine jR ?_) | (refine k_op rfl ?_; first | refine jV (g_ld rfl rfl rfl) ?_ | refine jV (g_lenL rfl) ?_) | (refine k_tt rfl (dTt (by omega)) ?_))
  (refine k_any (s_any (id := 5) _ (fun _ h => h) mixed ?_); refine jU 9 [1, 2, 3, 4, 5] (bts 14 62) ?_ ?_; (focus (repeat' (first | exact trivial | apply And.intro | omega | (simp only [List.length_append, List.length_cons, List.length_nil, Int.toNat_natCast]; omega)))); (refine jG (bts 14 63) 0 rfl (g_ldA rfl rfl rfl rfl) ?_); refine jA 6 rfl ?_; (refine c_fns rfl rfl rfl cx_rd rfl ?_; rintro _ G hle ⟨q1, r1, ok1, rfl, hyes, hno⟩; skip); refine jS (bts 14 127) ?_; refine jT 0 [7, 8, 9, 10, 11, 12, 13] (bts 14 16383) ?_; refine x_done (by kernel_rfl) (k_bk ?_))
  have hgl := hgq.trans hle
  cases ok1 with
  | false =>
   have hnone : rdItems (rd (tys vs) n k) (20 - ws.length) t ws = none := items_none (.inl (hno rfl))
   repeat' (first | (refine jR ?_) | (refine k_op rfl ?_; (refine jV (g_pickT rfl rfl rfl) ?_)) | (refine k_gt rfl rfl rfl ?_) | (refine k_tt rfl rfl ?_))
   refine jZ (vs := [_, _, _]) rfl ⟨rfl, rfl, rfl, trivial⟩ rfl ⟨hgl, rfl, ?_⟩
   rw [oneOf_three]
   exact ⟨_, _, _, rfl, fun h => (by cases h), fun _ => by rw [hRl, hit, hnone]; rfl⟩
  | true =>
   obtain ⟨w, wb, rfl, hf, hrep⟩ := hyes rfl
   have hsh := rd_short hf
   cases r1 with
   | nil =>
    have hnone : rdItems (rd (tys vs) n k) (20 - ws.length) t ws = none := items_none (.inr ⟨w, hf⟩)
    repeat' (first | (refine jR ?_) | (refine k_op rfl ?_; first | (refine jV (g_pickT rfl rfl rfl) ?_) | (refine jV (g_pickF rfl rfl rfl) ?_)) | (refine k_gt rfl rfl rfl ?_) | (refine k_gf rfl rfl rfl ?_) | (refine k_tt rfl rfl ?_))
    refine jZ (vs := [_, _, _]) rfl ⟨rfl, rfl, rfl, trivial⟩ rfl ⟨hgl, rfl, ?_⟩
    rw [oneOf_three]
    exact ⟨_, _, _, rfl, fun h => (by cases h), fun _ => by rw [hRl, hit, hnone]; rfl⟩
   | cons e r2 =>
    have hstep := items_step (vs := ws) hf (show 0 < 20 - ws.length by omega)
    have he0 : bt (e :: r2) (Int.toNat 0) = e.toNat := bt_zero e r2
    simp only [List.length_cons] at hsh
    have hel : (e :: r2).length = r2.length + 1 := rfl
    have hrow : rows ptR bs ++ [Pt wb 0] = rows ptR (bs ++ [wb]) := (rows_snoc ptR bs wb).symm
    have hwl1 : (ws ++ [w]).length = ws.length + 1 := by simp
    have hbl1 : (bs ++ [wb]).length = (ws ++ [w]).length := by simp [hbl]
    have hrp : ∀ i, i < (ws ++ [w]).length → RepR G (tys vs) (nth (ws ++ [w]) i) k (nth (bs ++ [wb]) i) := fun i hi => by
     by_cases h1 : i < ws.length
     ·have e1 : nth (ws ++ [w]) i = nth ws i := by rw [nth_eq hi, nth_eq h1, List.getElem_append_left h1]
      have e2 : nth (bs ++ [wb]) i = nth bs i := by rw [nth_eq (by omega), nth_eq (by omega), List.getElem_append_left (by omega)]
      rw [e1, e2]; exact (hreps i h1).mono hle
     ·have h2 : i = ws.length := by omega
      have e1 : nth (ws ++ [w]) i = w := by rw [nth_eq hi]; simp [h2]
      have e2 : nth (bs ++ [wb]) i = wb := by rw [nth_eq (by omega)]; simp [h2, hbl]
      rw [e1, e2]; exact hrep
    by_cases h44 : e.toNat = 44
    ·rw [if_pos h44] at hstep
     have hn93 : ¬ e.toNat = 93 := by omega
     repeat' (first | refine jM ?_ | (refine k_op rfl ?_; first | (refine jV (g_pickF rfl rfl rfl) ?_) | refine jV (g_ld rfl rfl rfl) ?_ | refine c_bsl rfl rfl rfl rfl rfl rfl fun _ => ?_ | (refine c_apX rfl rfl rfl rfl rfl rfl rfl rfl rfl (by omega) fun _ _ => ?_) | refine c_st1 rfl rfl rfl rfl ?_) | (refine k_gf rfl rfl (by first | rfl | (refine decide_eq_false ?_; (omega))) ?_) | (refine k_ff rfl (by first | rfl | (refine decide_eq_false ?_; (omega))) ?_))
     rename_i y0 y1 yc
     rw [hrow]
     exact k_rd (ws ++ [w], bs ++ [wb], some ⟨y1, 0, none⟩, yc, r2, G) ⟨⟨⟨hbl1, hrp⟩, hgl⟩, (by dsimp only; rw [hit, hstep, hwl1, Nat.sub_sub]), (by dsimp only; omega), (by dsimp only; omega)⟩ (by dsimp only; omega) (by repeat' constructor) rfl (by rw [hwl1]; repeat (first | exact List.Sublist.refl _ | apply List.Sublist.cons_cons | apply List.Sublist.cons))
    ·rw [if_neg h44] at hstep
     by_cases h93' : e.toNat = 93
     ·rw [if_pos h93'] at hstep
      repeat' (first | refine jM ?_ | (refine k_op rfl ?_; first | (refine jV (g_pickT rfl rfl rfl) ?_) | (refine jV (g_pickF rfl rfl rfl) ?_) | refine jV (g_ld rfl rfl rfl) ?_ | refine c_bsl rfl rfl rfl rfl rfl rfl fun _ => ?_ | (refine c_apX rfl rfl rfl rfl rfl rfl rfl rfl rfl (by omega) fun _ _ => ?_) | refine c_st1 rfl rfl rfl rfl ?_) | (refine k_gt rfl rfl (dTt (by omega)) ?_) | (refine k_gf rfl rfl rfl ?_) | (refine k_tt rfl (dTt (by omega)) ?_) | (refine k_ff rfl (dFf (by omega)) ?_))
      rename_i y0 y1 yc
      rw [hrow]
      refine Nx.sealS (v := .slice (some ⟨y1, 0, none⟩) (ws.length + 1) yc) fun G2 hG2 hsl => ?_
      refine Nx.sealC (b := x11) fun G3 hG3 hsg => ?_
      refine jZ (vs := [_, _, _]) rfl ⟨rfl, rfl, rfl, trivial⟩ rfl ⟨((hgl.trans hG2).trans hG3), rfl, ?_⟩
      rw [oneOf_three]
      exact ⟨_, _, _, rfl, fun _ => ⟨.nd 91 [] 0 (ws ++ [w]), x11, rfl, by rw [hRl, hit, hstep]; rfl, .lst k x11 _ (bs ++ [wb]) (some ⟨y1, 0, none⟩) yc (by rw [hwl1]; exact hsg) (by rw [hwl1]; exact hsl.mono hG3) hbl1 (fun i hi => (hrp i hi).mono (hG2.trans hG3))⟩, fun h => (by cases h)⟩
     ·rw [if_neg h93'] at hstep
      repeat' (first | refine jM ?_ | (refine k_op rfl ?_; first | (refine jV (g_pickT rfl rfl rfl) ?_) | (refine jV (g_pickF rfl rfl rfl) ?_)) | (refine k_gt rfl rfl (dTt (by omega)) ?_) | (refine k_gf rfl rfl rfl ?_) | (refine k_tt rfl (dTt (by omega)) ?_))
      refine jZ (vs := [_, _, _]) rfl ⟨rfl, rfl, rfl, trivial⟩ rfl ⟨hgl, rfl, ?_⟩
      rw [oneOf_three]
      exact ⟨_, _, _, rfl, fun h => (by cases h), fun _ => by rw [hRl, hit, hstep]; rfl⟩
end Go.E
namespace Go.E
set_option maxRecDepth 20000
set_option maxHeartbeats 2000000
open Go.Proofs
variable {G : Gh}
section
variable {P : Program} {n : Nat} {D : List Deferred} {E : Env} {M : World → Prop} {d : Option Nat} {ty : TypeId} {pos : String} {aft : Array Edge} {gd : Option (Nat × Bool)}
theorem g_ldB1 {T T0 : TypeId} {x : Operand} {desc : TypeDesc} {size bytes b m cap i : Nat} {zero : Value} {G0 : Gh} {L0 : List Own} {cs : List Int} {xs : List Value} {y : Int} [TI P T desc size bytes zero] [Kn M G0 L0] [h : AccB L0 b m cap T0 1 xs] (hx : ev E x = some (Pt b (0 + i * 1))) (ha : aggD desc = false) (hxs : xs = rows inR cs) (hi : i < cs.length) (hy : nth cs i = y) :
  Gives P n D E M ⟨d, .load T x, ty, pos, aft, gd⟩ (I y) := g_load hx ha (by
 have := (cells_acc (S := M) h.mem).go (i * 1 + 0) (I y) (by rw [hxs, rows_get hi (by omega), hy]; rfl)
 simpa using this)
end
def lastT (fs : List (Fld × V)) : Int := match fs.getLast? with
 | some p => p.1.tag
 | none => 0
def nd61 (fs : List (Fld × V)) : List V := fs.map fun p => .nd 61 [] p.1.tag [p.2]
theorem lastT_snoc (fs : List (Fld × V)) (p : Fld × V) : lastT (fs ++ [p]) = p.1.tag := by simp [lastT]
abbrev tPtr2 : TypeId := 60
abbrev tInt2 : TypeId := 3
abbrev tFd : TypeId := 118
abbrev tTyB : TypeId := 114
theorem c_recordS {n : Nat} {u : Value} {vs : List TyX} {x : TyX} {k s : List UInt8} (hR : ReadC n u vs) (h : SchR G u vs) (hw : SchW (tys vs)) (hx : x ∈ vs) (hrf : refT (tys vs) k = some x.2) (hso : x.2.sort = 82) (hs : s.length ≤ 1000) (hn : n ≤ 1000) (hkl : k.length ≤ 1000) :
  FnS Tryz.prog 108 [Ag [u], S s, S k, Ag (tyF x), I (n + 1 : Nat)] G (ReadP (tys vs) (rdTyped (tys vs) (rd (tys vs) n) x.2 (123 :: s)) k) := by
 have edn : ((n + 1 : Nat) : Int) - 1 = (n : Nat) := by omega
 have hxt : x.2 ∈ tys vs := List.mem_map_of_mem hx
 have hTW := hw.ty _ hxt
 have hfl := hTW.len
 by_cases h125 : ∃ s2, s = 125 :: s2
 ·obtain ⟨s2, rfl⟩ := h125
  have hgood : rdTyped (tys vs) (rd (tys vs) n) x.2 (123 :: 125 :: s2) = some (.nd 82 [] 0 [], s2) := by
   unfold rdTyped
   dsimp only
   rw [if_pos hso, if_pos (show (123 : UInt8).toNat = 123 from rfl), if_pos (show (125 : UInt8).toNat = 125 from rfl)]
  refine jB [(0, _), (1, _), (2, _), (3, _), (4, _)] Tryz.func108 Tryz.ntmps108 fun B hok hB hW => ?_
  repeat' (first | (refine run (t := tb) 400 rfl ?_ ?_; (focus (repeat' (first | exact trivial | apply And.intro | omega | (simp only [List.length_append, List.length_cons, List.length_nil, Int.toNat_natCast]; omega))))) | (refine k_op rfl ?_; first | refine c_bx rfl rfl rfl fun _ => ?_ | refine jV (g_bld rfl rfl) ?_ | (refine jV (g_pickT rfl rfl rfl) ?_)) | (refine k_gt rfl rfl rfl ?_) | (refine k_tt rfl rfl ?_) | (refine k_any (s_any (id := 3) _ (fun _ h => h) mixed ?_); refine jU 0 [0, 1, 2, 3, 4, 5] (bts 6 63) ?_ ?_; (focus (repeat' (first | exact trivial | apply And.intro | omega | (simp only [List.length_append, List.length_cons, List.length_nil, Int.toNat_natCast]; omega)))); refine x_done (by kernel_rfl) (k_bk ?_)))
  rename_i x5 x8 x13
  refine Nx.sealC (b := x13) fun G2 hG2 hsy => ?_
  refine jZ (vs := [_, _, _]) rfl ⟨rfl, rfl, rfl, trivial⟩ rfl ⟨hG2, rfl, ?_⟩
  rw [oneOf_three]
  exact ⟨_, _, _, rfl, fun _ => ⟨.nd 82 [] 0 [], x13, rfl, hgood, .recd k x13 x.2 [] [] none none 0 0 ⟨hrf, hso⟩ hsy ⟨rfl, .inl ⟨rfl, rfl⟩⟩ ⟨rfl, .inl ⟨rfl, rfl⟩⟩ rfl (fun i hi => absurd hi (by simp)) (fun i hi => absurd hi (by simp))⟩, fun h => (by cases h)⟩
 have hRl : rdTyped (tys vs) (rd (tys vs) n) x.2 (123 :: s) = (rdFlds (tys vs) (rd (tys vs) n) x.2 (s.length + 1) 0 s []).map fun x => (.nd 82 [] 0 x.1, x.2) := by
  unfold rdTyped
  dsimp only
  rw [if_pos hso, if_pos (show (123 : UInt8).toNat = 123 from rfl)]
  cases s with
  | nil => rw [flds_none rdField_nil]; rfl
  | cons e r' =>
   dsimp only
   rw [if_neg]
   intro h; exact h125 ⟨r', by rw [show e = 125 from UInt8.toNat_inj.1 h]⟩
 have hs0 : s = [] ∨ s ≠ [] ∧ ¬ ((bt s (Int.toNat 0) : Nat) : Int) = 125 := by
  cases s with
  | nil => exact .inl rfl
  | cons e r' =>
   refine .inr ⟨by simp, fun h => h125 ⟨r', ?_⟩⟩
   have : bt (e :: r') (Int.toNat 0) = e.toNat := bt_zero e r'
   rw [show e = 125 from UInt8.toNat_inj.1 (show e.toNat = 125 by omega)]
 have hslen : s = [] ∨ 0 < s.length := by cases s <;> simp
 rcases hs0 with hs0 | ⟨hs0, hs1⟩
 ·subst hs0
  have cx_tg := c_tag (G := G) (u := u) (x := x) (s := []) (by simp) h.sl.one (h.fl x hx) (by omega)
  have e0 : numOf (([] : List UInt8).takeWhile isDg) 200 = none := by
   cases h : numOf (([] : List UInt8).takeWhile isDg) 200 with
   | none => rfl
   | some m =>
    have := (numOf_le h).2.1
    have h2 := decI_pos m
    rw [← this] at h2; simp at h2
  rw [e0] at cx_tg
  refine jB [(0, _), (1, _), (2, _), (3, _), (4, _)] Tryz.func108 Tryz.ntmps108 fun B hok hB hW => ?_
  repeat' (first | (refine jR ?_) | (refine k_op rfl ?_; first | refine c_bx rfl rfl rfl fun _ => ?_ | refine jV (g_bld rfl rfl) ?_ | (refine jV (g_pickF rfl rfl rfl) ?_)) | (refine k_gf rfl rfl rfl ?_) | (refine k_ff rfl rfl ?_))
  rename_i x5 x8 x13
  refine k_loop (ι := Unit) (fun i => True) (fun i => [(1, S []), (2, S k), (4, I (n + 1 : Nat)), (5, Pt x5 0), (8, Pt x8 0), (13, Pt x13 0)]) (fun _ => G) (fun i => [.blk x13 (.cells (List.toArray [S k, S [82], nilS, nilS]) tLv (0, 0)), .blk x8 (.cells (List.toArray [U8 x.2.sort, S x.2.name, slX x]) tTyB (0, 0)), .blk x5 (.cells (List.toArray [u]) tRd (0, 0))]) (fun i => 0) () ?_ (by repeat' constructor) rfl sRr (fun i Hi => ?_)
  ·trivial
  repeat' (first | (refine jR ?_) | (refine k_op rfl ?_; first | refine jV (g_ldA rfl rfl rfl rfl) ?_ | refine c_al rfl rfl fun _ => ?_ | refine c_stA rfl rfl rfl rfl rfl rfl ?_ | (refine c_pu rfl rfl rfl cx_tg rfl ?_; rintro _ ⟨nt, rfl, hnt⟩)) | (refine k_tt rfl rfl ?_) | (refine k_any (s_any (id := 5) _ (fun _ h => h) mixed ?_); refine jT 33 [0, 1, 2] (bts 36 7) ?_; (try (refine Nx.re (d := 43) (v' := Bo true) rfl (congrArg Value.bool rfl) ?_)); refine jT 31 [3, 4] (bts 36 31) ?_; (refine jG (bts 36 63) 5 rfl (g_pickT rfl rfl rfl) ?_); refine jT 29 [6] (bts 36 127) ?_; (try (refine Nx.re (d := 47) (v' := Bo true) rfl (congrArg Value.bool rfl) ?_)); refine jT 26 [7, 8, 9] (bts 36 1023) ?_; (refine jG (bts 36 2047) 10 rfl (g_pickT rfl rfl rfl) ?_); refine jT 24 [11] (bts 36 4095) ?_; (try (refine Nx.re (d := 52) (v' := Bo true) rfl (congrArg Value.bool rfl) ?_)); refine jT 21 [12, 13, 14] (bts 36 32767) ?_; (refine jN (bts 36 65535) 15 rfl ?_); (refine jN (bts 36 131071) 16 rfl ?_); refine jT 17 [17, 18] (bts 36 524287) ?_; (try (fail)); refine jT 10 [19, 20, 21, 23, 24, 25, 31] (bts 36 2210398207) ?_; (refine jN (bts 36 2214592511) 22 rfl ?_); (refine jN (bts 36 2281701375) 26 rfl ?_); (refine jN (bts 36 2415919103) 27 rfl ?_); refine jT 6 [28] (bts 36 2684354559) ?_; (refine jN (bts 36 3221225471) 29 rfl ?_); (refine jN (bts 36 4294967295) 30 rfl ?_); (refine jN (bts 36 8589934591) 32 rfl ?_); refine jT 2 [33] (bts 36 17179869183) ?_; (refine jN (bts 36 34359738367) 34 rfl ?_); (refine jG (bts 36 68719476735) 35 rfl (g_pickT rfl rfl rfl) ?_); refine x_done (by kernel_rfl) (k_bk ?_)))
  all_goals refine jZ (vs := [_, _, _]) rfl ⟨rfl, rfl, rfl, trivial⟩ rfl ⟨Gh.le.refl _, rfl, ?_⟩
  all_goals (rw [oneOf_three]; exact ⟨_, _, _, rfl, fun h => (by cases h), fun _ => by rw [hRl, flds_none rdField_nil]; rfl⟩)
 ·have hslen3 : 0 < s.length := List.length_pos_iff.2 hs0
  refine jB [(0, _), (1, _), (2, _), (3, _), (4, _)] Tryz.func108 Tryz.ntmps108 fun B hok hB hW => ?_
  repeat' (first | refine jM ?_ | (refine k_op rfl ?_; first | refine c_bx rfl rfl rfl fun _ => ?_ | refine jV (g_bld rfl rfl) ?_ | (refine jV (g_pickT rfl rfl rfl) ?_)) | (refine k_gt rfl rfl (dTt ‹_›) ?_) | (refine k_ff rfl (dFf ‹_›) ?_))
  rename_i x5 x8 x13
  refine Nx.addNil tInt2 1 (Nx.addNil tPtr2 1 ?_)
  refine k_loop (ι := List (Fld × V) × List Nat × Option Addr × Nat × Option Addr × Nat × List UInt8 × Nat × Gh) (fun q => ((q.2.1.length = q.1.length ∧ (∀ i, i < q.1.length → (nth q.1 i).1 ∈ x.2.fields) ∧ ∀ i, i < q.1.length → RepR q.2.2.2.2.2.2.2.2 (tys vs) (nth q.1 i).2 (nth q.1 i).1.kind (nth q.2.1 i)) ∧ Gh.le G q.2.2.2.2.2.2.2.2) ∧ (rdFlds (tys vs) (rd (tys vs) n) x.2 (s.length + 1) 0 s [] = rdFlds (tys vs) (rd (tys vs) n) x.2 q.2.2.2.2.2.2.2.1 (lastT q.1) q.2.2.2.2.2.2.1 (nd61 q.1) ∧ q.2.2.2.2.2.2.1.length < q.2.2.2.2.2.2.2.1) ∧ q.2.2.2.2.2.2.1.length ≤ s.length ∧ q.1.length + q.2.2.2.2.2.2.1.length ≤ s.length) (fun q => [(1, S q.2.2.2.2.2.2.1), (2, S k), (4, I (n + 1 : Nat)), (5, Pt x5 0), (8, Pt x8 0), (13, Pt x13 0)]) (fun q => q.2.2.2.2.2.2.2.2) (fun q => [.acc (.slice q.2.2.2.2.1 q.1.length q.2.2.2.2.2.1) tPtr2 1 q.1.length (rows ptR q.2.1), .acc (.slice q.2.2.1 q.1.length q.2.2.2.1) tInt2 1 q.1.length (rows inR (q.1.map fun p => p.1.tag)), .blk x13 (.cells (List.toArray [S k, S [82], .slice q.2.2.1 q.1.length q.2.2.2.1, .slice q.2.2.2.2.1 q.1.length q.2.2.2.2.2.1]) tLv (0, 0)), .blk x8 (.cells (List.toArray [U8 x.2.sort, S x.2.name, slX x]) tTyB (0, 0)), .blk x5 (.cells (List.toArray [u]) tRd (0, 0))]) (fun q => q.2.2.2.2.2.2.1.length) ([], [], none, 0, none, 0, s, s.length + 1, G) ?_ (by repeat' constructor) rfl sRr (fun q Hq => ?_)
  ·exact ⟨⟨⟨rfl, fun i hi => absurd hi (by simp), fun i hi => absurd hi (by simp)⟩, Gh.le.refl _⟩, ⟨rfl, Nat.lt_succ_self _⟩, Nat.le_refl _, by simp⟩
  obtain ⟨fs, bs, a1, c1, a2, c2, t, m, Gq⟩ := q
  dsimp only at Hq ⊢
  obtain ⟨⟨⟨hbl, hfm, hreps⟩, hgq⟩, ⟨hit, htm⟩, htl, hft⟩ := Hq
  have cx_tg := c_tag (G := Gq) (u := u) (x := x) (s := t) (by omega) h.sl.one ((h.mono hgq).fl x hx) (by omega)
  repeat' (first | (refine jR ?_) | (refine k_op rfl ?_; first | refine jV (g_ldA rfl rfl rfl rfl) ?_ | refine c_al rfl rfl fun _ => ?_ | refine c_stA rfl rfl rfl rfl rfl rfl ?_ | (refine c_pu rfl rfl rfl cx_tg rfl ?_; rintro _ ⟨nt, rfl, hnt⟩)))
  have hnone : ∀ {v : Value} {G' : Gh} {r : List UInt8}, rdFlds (tys vs) (rd (tys vs) n) x.2 m (lastT fs) t (nd61 fs) = none → v = Tu [.pointer none, S r, Bo false] → ReadP (tys vs) (rdTyped (tys vs) (rd (tys vs) n) x.2 (123 :: s)) k v G' := fun h1 h2 => ⟨_, _, _, h2, fun h => (by cases h), fun _ => by rw [hRl, hit, h1]; rfl⟩
  cases hb16 : (numOf (t.takeWhile isDg) 200).isSome && (fldT x.2.fields nt).isSome with
  | false =>
   have hno : rdField (rd (tys vs) n) x.2 t = none := by
    cases hm : numOf (t.takeWhile isDg) 200 with
    | none => exact field_none (.inl hm)
    | some m0 =>
     refine field_none (.inr ⟨m0, hm, ?_⟩)
     rw [hm] at hb16
     rw [← hnt m0 hm]
     cases hf : fldT x.2.fields nt with
     | none => rfl
     | some d => rw [hf] at hb16; cases hb16
   (refine k_any (s_any (id := 5) _ (fun _ h => h) mixed ?_); refine jT 33 [0, 1, 2] (bts 36 7) ?_; (try (refine Nx.re (d := 43) (v' := Bo true) rfl (congrArg Value.bool rfl) ?_)); refine jT 31 [3, 4] (bts 36 31) ?_; (refine jG (bts 36 63) 5 rfl (g_pickT rfl rfl rfl) ?_); refine jT 29 [6] (bts 36 127) ?_; (try (refine Nx.re (d := 47) (v' := Bo true) rfl (congrArg Value.bool rfl) ?_)); refine jT 26 [7, 8, 9] (bts 36 1023) ?_; (refine jG (bts 36 2047) 10 rfl (g_pickT rfl rfl rfl) ?_); refine jT 24 [11] (bts 36 4095) ?_; (try (refine Nx.re (d := 52) (v' := Bo true) rfl (congrArg Value.bool rfl) ?_)); refine jT 21 [12, 13, 14] (bts 36 32767) ?_; (refine jN (bts 36 65535) 15 rfl ?_); (refine jN (bts 36 131071) 16 rfl ?_); refine jT 17 [17, 18] (bts 36 524287) ?_; (try (fail)); refine jT 10 [19, 20, 21, 23, 24, 25, 31] (bts 36 2210398207) ?_; (refine jN (bts 36 2214592511) 22 rfl ?_); (refine jN (bts 36 2281701375) 26 rfl ?_); (refine jN (bts 36 2415919103) 27 rfl ?_); refine jT 6 [28] (bts 36 2684354559) ?_; (refine jN (bts 36 3221225471) 29 rfl ?_); (refine jN (bts 36 4294967295) 30 rfl ?_); (refine jN (bts 36 8589934591) 32 rfl ?_); refine jT 2 [33] (bts 36 17179869183) ?_; (refine jN (bts 36 34359738367) 34 rfl ?_); (refine jG (bts 36 68719476735) 35 rfl (g_pickT rfl rfl rfl) ?_); refine x_done (by kernel_rfl) (k_bk ?_))
   repeat' (first | (refine jR ?_) | (refine k_tt rfl rfl ?_))
   all_goals refine jZ (vs := [_, _, _]) rfl ⟨rfl, rfl, rfl, trivial⟩ rfl ⟨hgq, rfl, ?_⟩
   all_goals exact hnone (flds_none hno) rfl
  | true =>
   simp only [Bool.and_eq_true] at hb16
   obtain ⟨hb1, hb2⟩ := hb16
   obtain ⟨m0, hm⟩ := Option.isSome_iff_exists.1 hb1
   obtain ⟨d, hd⟩ := Option.isSome_iff_exists.1 hb2
   have hnm := hnt m0 hm
   subst hnm
   rw [hd]
   simp only [Option.getD_some]
   have hdm : d ∈ x.2.fields := List.mem_of_find?_eq_some hd
   have hdt : d.tag = nt := by have := List.find?_some hd; simpa using this
   have hwl := while_len isDg t
   cases hdw : t.dropWhile isDg with
   | nil =>
    have hno : rdField (rd (tys vs) n) x.2 t = none := field_noeq hm (fun s2 h => by rw [hdw] at h; cases h)
    (refine k_any (s_any (id := 5) _ (fun _ h => h) mixed ?_); refine jT 33 [0, 1, 2] (bts 36 7) ?_; (try (refine Nx.re (d := 43) (v' := Bo false) rfl (congrArg Value.bool rfl) ?_)); refine jT 31 [3, 4] (bts 36 31) ?_; (refine jG (bts 36 63) 5 rfl (g_pickF rfl rfl rfl) ?_); refine jT 29 [6] (bts 36 127) ?_; (try (refine Nx.re (d := 47) (v' := Bo true) rfl (congrArg Value.bool rfl) ?_)); refine jT 26 [7, 8, 9] (bts 36 1023) ?_; (refine jG (bts 36 2047) 10 rfl (g_pickT rfl rfl rfl) ?_); refine jT 24 [11] (bts 36 4095) ?_; (try (refine Nx.re (d := 52) (v' := Bo true) rfl (congrArg Value.bool rfl) ?_)); refine jT 21 [12, 13, 14] (bts 36 32767) ?_; (refine jN (bts 36 65535) 15 rfl ?_); (refine jN (bts 36 131071) 16 rfl ?_); refine jT 17 [17, 18] (bts 36 524287) ?_; (try (fail)); refine jT 10 [19, 20, 21, 23, 24, 25, 31] (bts 36 2210398207) ?_; (refine jN (bts 36 2214592511) 22 rfl ?_); (refine jN (bts 36 2281701375) 26 rfl ?_); (refine jN (bts 36 2415919103) 27 rfl ?_); refine jT 6 [28] (bts 36 2684354559) ?_; (refine jN (bts 36 3221225471) 29 rfl ?_); (refine jN (bts 36 4294967295) 30 rfl ?_); (refine jN (bts 36 8589934591) 32 rfl ?_); refine jT 2 [33] (bts 36 17179869183) ?_; (refine jN (bts 36 34359738367) 34 rfl ?_); (refine jG (bts 36 68719476735) 35 rfl (g_pickT rfl rfl rfl) ?_); refine x_done (by kernel_rfl) (k_bk ?_))
    repeat' (first | (refine jR ?_) | (refine k_tt rfl rfl ?_))
    all_goals refine jZ (vs := [_, _, _]) rfl ⟨rfl, rfl, rfl, trivial⟩ rfl ⟨hgq, rfl, ?_⟩
    all_goals exact hnone (flds_none hno) rfl
   | cons e r2 =>
    have he0 : bt (e :: r2) (Int.toNat 0) = e.toNat := bt_zero e r2
    have hel : (e :: r2).length = r2.length + 1 := rfl
    by_cases h61 : e.toNat = 61
    case neg =>
     have hno : rdField (rd (tys vs) n) x.2 t = none := field_noeq hm (fun s2 h => by rw [hdw] at h; simp only [List.cons.injEq] at h; exact h61 (by rw [h.1]; rfl))
     (refine k_any (s_any (id := 5) _ (fun _ h => h) mixed ?_); refine jT 33 [0, 1, 2] (bts 36 7) ?_; (try (refine Nx.re (d := 43) (v' := Bo false) rfl (congrArg Value.bool rfl) ?_)); refine jT 31 [3, 4] (bts 36 31) ?_; (refine jG (bts 36 63) 5 rfl (g_pickF rfl rfl rfl) ?_); refine jT 29 [6] (bts 36 127) ?_; (try (refine Nx.re (d := 47) (v' := Bo false) rfl (congrArg Value.bool rfl) ?_)); refine jU 26 [7, 8, 9] (bts 36 1023) ?_ ?_; (focus (repeat' (first | exact trivial | apply And.intro | omega))); (refine jG (bts 36 2047) 10 rfl (g_pickF rfl rfl rfl) ?_); refine jT 24 [11] (bts 36 4095) ?_; (try ((refine Nx.re (d := 52) (v' := Bo true) rfl (congrArg Value.bool (dTt (by omega))) ?_))); refine jT 21 [12, 13, 14] (bts 36 32767) ?_; (refine jN (bts 36 65535) 15 rfl ?_); (refine jN (bts 36 131071) 16 rfl ?_); refine jT 17 [17, 18] (bts 36 524287) ?_; (try (fail)); refine jT 10 [19, 20, 21, 23, 24, 25, 31] (bts 36 2210398207) ?_; (refine jN (bts 36 2214592511) 22 rfl ?_); (refine jN (bts 36 2281701375) 26 rfl ?_); (refine jN (bts 36 2415919103) 27 rfl ?_); refine jT 6 [28] (bts 36 2684354559) ?_; (refine jN (bts 36 3221225471) 29 rfl ?_); (refine jN (bts 36 4294967295) 30 rfl ?_); (refine jN (bts 36 8589934591) 32 rfl ?_); refine jT 2 [33] (bts 36 17179869183) ?_; (refine jN (bts 36 34359738367) 34 rfl ?_); (refine jG (bts 36 68719476735) 35 rfl (g_pickT rfl rfl rfl) ?_); refine x_done (by kernel_rfl) (k_bk ?_))
     repeat' (first | (refine jR ?_) | (refine k_tt rfl rfl ?_))
     all_goals refine jZ (vs := [_, _, _]) rfl ⟨rfl, rfl, rfl, trivial⟩ rfl ⟨hgq, rfl, ?_⟩
     all_goals exact hnone (flds_none hno) rfl
    have he61 : e = 61 := UInt8.toNat_inj.1 h61
    have hfs := field_some (f := rd (tys vs) n) (t := x.2) (s := t) hm hd (by rw [hdw, he61])
    have hm0 : 0 < m := by omega
    have hflt : (fs.map fun p : Fld × V => p.1.tag).length = fs.length := by simp
    have hdt1 := ((hTW.fld d hdm).tag).1
    have hlast0 : fs.length = 0 → lastT fs = 0 := fun h0 => by rw [List.length_eq_zero_iff.1 h0]; rfl
    have hlast1 : 0 < fs.length → nth (fs.map fun p : Fld × V => p.1.tag) (((fs.length : Nat) : Int) - 1).toNat = lastT fs := fun h0 => by
     have e1 : (((fs.length : Nat) : Int) - 1).toNat = fs.length - 1 := by omega
     rw [e1, nth_eq (by rw [hflt]; omega)]
     unfold lastT
     rw [List.getLast?_eq_getElem?, List.getElem?_eq_getElem (by omega)]
     simp
    rename_i x14
    have hf0 : fs.length = 0 ∨ 0 < fs.length := by omega
    by_cases hlt : d.tag ≤ lastT fs
    ·have hpos : 0 < fs.length := by
      rcases hf0 with h0 | h0
      ·have := hlast0 h0; omega
      ·exact h0
     have hyl := hlast1 hpos
     have hno : rdFlds (tys vs) (rd (tys vs) n) x.2 m (lastT fs) t (nd61 fs) = none := by
      cases hy : rd (tys vs) n d.kind r2 with
      | none => exact flds_none (by rw [hfs, hy]; rfl)
      | some y =>
       obtain ⟨w, r3⟩ := y
       rw [flds_step (d := d) (v := w) (r := r3) (by rw [hfs, hy]; rfl) hm0, if_pos (.inl hlt)]
     refine Nx.shp (v := .slice a1 fs.length c1) (.tail _ (.tail _ (.head _))) fun hsh => ?_
     obtain ⟨tb1, tc1, e1⟩ := hsh.pos (by omega)
     simp only [Value.slice.injEq] at e1
     obtain ⟨rfl, -, rfl⟩ := e1
     (refine k_any (s_any (id := 5) _ (fun _ h => h) mixed ?_); refine jT 33 [0, 1, 2] (bts 36 7) ?_; (try (refine Nx.re (d := 43) (v' := Bo false) rfl (congrArg Value.bool rfl) ?_)); refine jT 31 [3, 4] (bts 36 31) ?_; (refine jG (bts 36 63) 5 rfl (g_pickF rfl rfl rfl) ?_); refine jT 29 [6] (bts 36 127) ?_; (try (refine Nx.re (d := 47) (v' := Bo false) rfl (congrArg Value.bool rfl) ?_)); refine jU 26 [7, 8, 9] (bts 36 1023) ?_ ?_; (focus (repeat' (first | exact trivial | apply And.intro | omega))); (refine jG (bts 36 2047) 10 rfl (g_pickF rfl rfl rfl) ?_); refine jT 24 [11] (bts 36 4095) ?_; (try ((refine Nx.re (d := 52) (v' := Bo false) rfl (congrArg Value.bool (dFf (by omega))) ?_))); refine jT 21 [12, 13, 14] (bts 36 32767) ?_; (refine jG (bts 36 65535) 15 rfl (g_ld rfl rfl rfl) ?_); (refine jG (bts 36 131071) 16 rfl (g_lenL rfl) ?_); refine jT 17 [17, 18] (bts 36 524287) ?_; (try ((refine Nx.re (d := 59) (v' := Bo true) rfl (congrArg Value.bool (dTt (by omega))) ?_))); refine jT 10 [19, 20, 21, 23, 24, 25, 31] (bts 36 2210398207) ?_; (refine jG (bts 36 2214592511) 22 rfl (g_ld rfl rfl rfl) ?_); (refine jG (bts 36 2281701375) 26 rfl (g_ld rfl rfl rfl) ?_); (refine jG (bts 36 2415919103) 27 rfl (g_lenL rfl) ?_); refine jU 6 [28] (bts 36 2684354559) ?_ ?_; (focus (repeat' (first | exact trivial | apply And.intro | omega))); (refine jG (bts 36 3221225471) 29 rfl (g_iaddr rfl rfl (by omega)) ?_); ((refine jG (bts 36 4294967295) 30 rfl (g_ldB1 rfl rfl rfl ?_ (by assumption)) ?_; (focus ((omega); done)))); (refine jG (bts 36 8589934591) 32 rfl (g_ld rfl rfl rfl) ?_); refine jT 2 [33] (bts 36 17179869183) ?_; (refine jG (bts 36 34359738367) 34 rfl (g_pickT rfl rfl rfl) ?_); (refine jG (bts 36 68719476735) 35 rfl (g_pickF rfl rfl rfl) ?_); refine x_done (by kernel_rfl) (k_bk ?_))
     repeat' (first | (refine jR ?_) | (refine k_tt rfl (dTt ‹_›) ?_))
     all_goals refine jZ (vs := [_, _, _]) rfl ⟨rfl, rfl, rfl, trivial⟩ rfl ⟨hgq, rfl, ?_⟩
     all_goals exact hnone hno rfl
    have hSq := h.mono hgq
    have hdk : kindIn (tys vs) d.kind = true := kind_in hw hxt (by omega) hdm
    rw [hdw, List.length_cons] at hwl
    have cx_rd := hR Gq d.kind r2 hSq hdk (by omega)
    rw [← edn] at cx_rd
    rcases hf0 with hf0 | hf0
    rotate_left
    have hyl := hlast1 hf0
    refine Nx.shp (v := .slice a1 fs.length c1) (.tail _ (.tail _ (.head _))) fun hsh => ?_
    obtain ⟨tb1, tc1, e1⟩ := hsh.pos (by omega)
    simp only [Value.slice.injEq] at e1
    obtain ⟨rfl, -, rfl⟩ := e1
    all_goals
     (refine k_any (s_any (id := 5) _ (fun _ h => h) mixed ?_); refine jT 33 [0, 1, 2] (bts 36 7) ?_; (try (refine Nx.re (d := 43) (v' := Bo false) rfl (congrArg Value.bool rfl) ?_)); refine jT 31 [3, 4] (bts 36 31) ?_; (refine jG (bts 36 63) 5 rfl (g_pickF rfl rfl rfl) ?_); refine jT 29 [6] (bts 36 127) ?_; (try (refine Nx.re (d := 47) (v' := Bo false) rfl (congrArg Value.bool rfl) ?_)); refine jU 26 [7, 8, 9] (bts 36 1023) ?_ ?_; (focus (repeat' (first | exact trivial | apply And.intro | omega))); (refine jG (bts 36 2047) 10 rfl (g_pickF rfl rfl rfl) ?_); refine jT 24 [11] (bts 36 4095) ?_; (try ((refine Nx.re (d := 52) (v' := Bo false) rfl (congrArg Value.bool (dFf (by omega))) ?_))); refine jT 21 [12, 13, 14] (bts 36 32767) ?_; (refine jG (bts 36 65535) 15 rfl (g_ld rfl rfl rfl) ?_); (refine jG (bts 36 131071) 16 rfl (g_lenL rfl) ?_); refine jT 17 [17, 18] (bts 36 524287) ?_; (try (first | (refine Nx.re (d := 59) (v' := Bo true) rfl (congrArg Value.bool (dTt (by omega))) ?_) | (refine Nx.re (d := 59) (v' := Bo false) rfl (congrArg Value.bool (dFf (by omega))) ?_))); refine jT 10 [19, 20, 21, 23, 24, 25, 31] (bts 36 2210398207) ?_; (first | refine jG (bts 36 2214592511) 22 rfl (g_ld rfl rfl rfl) ?_ | refine jN (bts 36 2214592511) 22 rfl ?_); (first | refine jG (bts 36 2281701375) 26 rfl (g_ld rfl rfl rfl) ?_ | refine jN (bts 36 2281701375) 26 rfl ?_); (first | refine jG (bts 36 2415919103) 27 rfl (g_lenL rfl) ?_ | refine jN (bts 36 2415919103) 27 rfl ?_); refine jU 6 [28] (bts 36 2684354559) ?_ ?_; (focus (repeat' (first | exact trivial | apply And.intro | omega))); (first | (refine jG (bts 36 3221225471) 29 rfl (g_iaddr rfl rfl (by omega)) ?_) | refine jN (bts 36 3221225471) 29 rfl ?_); (first | (refine jG (bts 36 4294967295) 30 rfl (g_ldB1 rfl rfl rfl ?_ (by assumption)) ?_; (focus ((omega); done))) | refine jN (bts 36 4294967295) 30 rfl ?_); (first | refine jG (bts 36 8589934591) 32 rfl (g_ld rfl rfl rfl) ?_ | refine jN (bts 36 8589934591) 32 rfl ?_); refine jT 2 [33] (bts 36 17179869183) ?_; (first | (refine jG (bts 36 34359738367) 34 rfl (g_pickT rfl rfl rfl) ?_) | (refine jG (bts 36 34359738367) 34 rfl (g_pickF rfl rfl rfl) ?_)); (refine jG (bts 36 68719476735) 35 rfl (g_pickF rfl rfl rfl) ?_); refine x_done (by kernel_rfl) (k_bk ?_))
     repeat' (first | (refine jR ?_) | (refine k_ff rfl (by first | rfl | (refine decide_eq_false ?_; (assumption))) ?_))
     (refine k_any (s_any (id := 7) _ (fun _ h => h) mixed ?_); refine jU 10 [1, 2, 3, 5, 6] (bts 15 110) ?_ ?_; (focus (repeat' (first | exact trivial | apply And.intro | omega))); (refine jG (bts 15 111) 0 rfl (g_ldA rfl rfl rfl rfl) ?_); (refine jG (bts 15 127) 4 rfl (g_ld rfl rfl rfl) ?_); refine jA 7 rfl ?_; (refine c_fns rfl rfl rfl cx_rd rfl ?_; rintro _ G hle ⟨q1, r1, ok1, rfl, hyes, hno⟩; skip); refine jS (bts 15 255) ?_; refine jT 0 [8, 9, 10, 11, 12, 13, 14] (bts 15 32767) ?_; refine x_done (by kernel_rfl) (k_bk ?_))
     repeat' (refine jR ?_)
     have hgl := hgq.trans hle
     cases ok1 with
     | false =>
      have hno2 : rdField (rd (tys vs) n) x.2 t = none := by rw [hfs, hno rfl]; rfl
      (refine k_any (s_any (id := 8) _ (fun _ h => h) mixed ?_); refine jT 22 [0, 1, 2] (bts 25 7) ?_; (try (refine Nx.re (d := 92) (v' := Bo true) rfl (congrArg Value.bool rfl) ?_)); refine jT 20 [3, 5] (bts 25 47) ?_; (refine jN (bts 25 111) 6 rfl ?_); (refine jN (bts 25 239) 7 rfl ?_); (refine jN (bts 25 255) 4 rfl ?_); (refine jN (bts 25 511) 8 rfl ?_); refine jT 15 [9] (bts 25 1023) ?_; (refine jG (bts 25 2047) 10 rfl (g_pickT rfl rfl rfl) ?_); refine jT 13 [11] (bts 25 4095) ?_; (try (refine Nx.re (d := 101) (v' := Bo true) rfl (congrArg Value.bool rfl) ?_)); refine jT 11 [12, 13] (bts 25 16383) ?_; (refine jG (bts 25 32767) 14 rfl (g_pickT rfl rfl rfl) ?_); refine jT 9 [15] (bts 25 65535) ?_; (try (refine Nx.re (d := 105) (v' := Bo true) rfl (congrArg Value.bool rfl) ?_)); refine jT 5 [16, 17, 18, 19] (bts 25 1048575) ?_; (try (fail)); refine jT 2 [20, 21, 22] (bts 25 8388607) ?_; (refine jN (bts 25 16777215) 23 rfl ?_); (refine jG (bts 25 33554431) 24 rfl (g_pickT rfl rfl rfl) ?_); refine x_done (by kernel_rfl) (k_bk ?_))
      repeat' (first | (refine jR ?_) | (refine k_tt rfl rfl ?_))
      all_goals refine jZ (vs := [_, _, _]) rfl ⟨rfl, rfl, rfl, trivial⟩ rfl ⟨hgl, rfl, ?_⟩
      all_goals exact hnone (flds_none hno2) rfl
     | true =>
      obtain ⟨w, wb, rfl, hf, hrep⟩ := hyes rfl
      have hsh := rd_short hf
      have htt := rd_tot _ _ _ _ hf
      dsimp only at htt hsh
      have hob := outR hw hrep
      unfold OutB at hob
      have cx_out := c_outS hw hrep (by omega)
      have cx_sta := c_standS (f := d) (h.mono hgl) hw hdk
      have hfd : rdField (rd (tys vs) n) x.2 t = some ((d, w), r1) := by rw [hfs, hf]; rfl
      have hst := flds_step (ts := tys vs) (vs := nd61 fs) (last := lastT fs) hfd hm0
      by_cases heq : w.out = standF (tys vs) d
      ·rw [if_pos (.inr heq)] at hst
       (refine k_any (s_any (id := 8) _ (fun _ h => h) mixed ?_); refine jT 22 [0, 1, 2] (bts 25 7) ?_; (try (refine Nx.re (d := 92) (v' := Bo false) rfl (congrArg Value.bool rfl) ?_)); refine jT 20 [3, 5] (bts 25 47) ?_; (refine jG (bts 25 111) 6 rfl (g_ld rfl rfl rfl) ?_); (refine jG (bts 25 239) 7 rfl (g_ldA rfl rfl rfl rfl) ?_); (refine jA 4 rfl ?_; (refine c_rt rfl rfl rfl cx_out rfl ?_); refine jS (bts 25 255) ?_); (refine jA 8 rfl ?_; (refine c_rt rfl rfl rfl cx_sta rfl ?_); refine jS (bts 25 511) ?_); refine jT 15 [9] (bts 25 1023) ?_; (refine jG (bts 25 2047) 10 rfl (g_pickF rfl rfl rfl) ?_); refine jT 13 [11] (bts 25 4095) ?_; (try (refine Nx.re (d := 101) (v' := Bo true) rfl (congrArg Value.bool (dTt ‹_›)) ?_)); refine jT 11 [12, 13] (bts 25 16383) ?_; (refine jG (bts 25 32767) 14 rfl (g_pickT rfl rfl rfl) ?_); refine jT 9 [15] (bts 25 65535) ?_; (try (refine Nx.re (d := 105) (v' := Bo true) rfl (congrArg Value.bool rfl) ?_)); refine jT 5 [16, 17, 18, 19] (bts 25 1048575) ?_; (try (fail)); refine jT 2 [20, 21, 22] (bts 25 8388607) ?_; (refine jN (bts 25 16777215) 23 rfl ?_); (refine jG (bts 25 33554431) 24 rfl (g_pickT rfl rfl rfl) ?_); refine x_done (by kernel_rfl) (k_bk ?_))
       repeat' (first | (refine jR ?_) | (refine k_tt rfl rfl ?_))
       all_goals refine jZ (vs := [_, _, _]) rfl ⟨rfl, rfl, rfl, trivial⟩ rfl ⟨hgl, rfl, ?_⟩
       all_goals exact hnone hst rfl
      rw [if_neg (fun h => by rcases h with h | h; exact hlt h; exact heq h)] at hst
      cases r1 with
      | nil =>
       (refine k_any (s_any (id := 8) _ (fun _ h => h) mixed ?_); refine jT 22 [0, 1, 2] (bts 25 7) ?_; (try (refine Nx.re (d := 92) (v' := Bo false) rfl (congrArg Value.bool rfl) ?_)); refine jT 20 [3, 5] (bts 25 47) ?_; (refine jG (bts 25 111) 6 rfl (g_ld rfl rfl rfl) ?_); (refine jG (bts 25 239) 7 rfl (g_ldA rfl rfl rfl rfl) ?_); (refine jA 4 rfl ?_; (refine c_rt rfl rfl rfl cx_out rfl ?_); refine jS (bts 25 255) ?_); (refine jA 8 rfl ?_; (refine c_rt rfl rfl rfl cx_sta rfl ?_); refine jS (bts 25 511) ?_); refine jT 15 [9] (bts 25 1023) ?_; (refine jG (bts 25 2047) 10 rfl (g_pickF rfl rfl rfl) ?_); refine jT 13 [11] (bts 25 4095) ?_; (try (refine Nx.re (d := 101) (v' := Bo false) rfl (congrArg Value.bool (dFf ‹_›)) ?_)); refine jT 11 [12, 13] (bts 25 16383) ?_; (refine jG (bts 25 32767) 14 rfl (g_pickF rfl rfl rfl) ?_); refine jT 9 [15] (bts 25 65535) ?_; (try (refine Nx.re (d := 105) (v' := Bo true) rfl (congrArg Value.bool rfl) ?_)); refine jT 5 [16, 17, 18, 19] (bts 25 1048575) ?_; (try (fail)); refine jT 2 [20, 21, 22] (bts 25 8388607) ?_; (refine jN (bts 25 16777215) 23 rfl ?_); (refine jG (bts 25 33554431) 24 rfl (g_pickT rfl rfl rfl) ?_); refine x_done (by kernel_rfl) (k_bk ?_))
       repeat' (first | (refine jR ?_) | (refine k_tt rfl rfl ?_))
       all_goals refine jZ (vs := [_, _, _]) rfl ⟨rfl, rfl, rfl, trivial⟩ rfl ⟨hgl, rfl, ?_⟩
       all_goals exact hnone hst rfl
      | cons e2 r3 =>
       have he20 : bt (e2 :: r3) (Int.toNat 0) = e2.toNat := bt_zero e2 r3
       have hel2 : (e2 :: r3).length = r3.length + 1 := rfl
       have hl' : (fs ++ [(d, w)]).length = fs.length + 1 := by simp
       have hbl' : (bs ++ [wb]).length = (fs ++ [(d, w)]).length := by simp [hbl]
       have hnth : ∀ i, i < (fs ++ [(d, w)]).length → (i < fs.length ∧ nth (fs ++ [(d, w)]) i = nth fs i ∧ nth (bs ++ [wb]) i = nth bs i) ∨ (nth (fs ++ [(d, w)]) i = (d, w) ∧ nth (bs ++ [wb]) i = wb) := fun i hi => by
        by_cases h1 : i < fs.length
        ·exact .inl ⟨h1, by rw [nth_eq hi, nth_eq h1, List.getElem_append_left h1], by rw [nth_eq (by omega), nth_eq (by omega), List.getElem_append_left (by omega)]⟩
        ·have h2 : i = fs.length := by omega
         exact .inr ⟨by rw [nth_eq hi]; simp [h2], by rw [nth_eq (by omega)]; simp [h2, hbl]⟩
       have hfm' : ∀ i, i < (fs ++ [(d, w)]).length → (nth (fs ++ [(d, w)]) i).1 ∈ x.2.fields := fun i hi => by
        rcases hnth i hi with ⟨h1, h2, _⟩ | ⟨h2, _⟩
        ·rw [h2]; exact hfm i h1
        ·rw [h2]; exact hdm
       have hreps' : ∀ i, i < (fs ++ [(d, w)]).length → RepR G (tys vs) (nth (fs ++ [(d, w)]) i).2 (nth (fs ++ [(d, w)]) i).1.kind (nth (bs ++ [wb]) i) := fun i hi => by
        rcases hnth i hi with ⟨h1, h2, h3⟩ | ⟨h2, h3⟩
        ·rw [h2, h3]; exact (hreps i h1).mono hle
        ·rw [h2, h3]; exact hrep
       have hrow1 : rows inR (fs.map fun p => p.1.tag) ++ [I d.tag] = rows inR ((fs ++ [(d, w)]).map fun p => p.1.tag) := by rw [List.map_append]; exact (rows_snoc inR _ d.tag).symm
       have hrow2 : rows ptR bs ++ [Pt wb 0] = rows ptR (bs ++ [wb]) := (rows_snoc ptR bs wb).symm
       have hnd : nd61 (fs ++ [(d, w)]) = nd61 fs ++ [.nd 61 [] d.tag [w]] := by simp [nd61]
       dsimp only at hst
       by_cases h44 : e2.toNat = 44
       ·rw [if_pos h44] at hst
        have hn93 : ¬ e2.toNat = 125 := by omega
        (refine k_any (s_any (id := 8) _ (fun _ h => h) mixed ?_); refine jT 22 [0, 1, 2] (bts 25 7) ?_; (try (refine Nx.re (d := 92) (v' := Bo false) rfl (congrArg Value.bool rfl) ?_)); refine jT 20 [3, 5] (bts 25 47) ?_; (refine jG (bts 25 111) 6 rfl (g_ld rfl rfl rfl) ?_); (refine jG (bts 25 239) 7 rfl (g_ldA rfl rfl rfl rfl) ?_); (refine jA 4 rfl ?_; (refine c_rt rfl rfl rfl cx_out rfl ?_); refine jS (bts 25 255) ?_); (refine jA 8 rfl ?_; (refine c_rt rfl rfl rfl cx_sta rfl ?_); refine jS (bts 25 511) ?_); refine jT 15 [9] (bts 25 1023) ?_; (refine jG (bts 25 2047) 10 rfl (g_pickF rfl rfl rfl) ?_); refine jT 13 [11] (bts 25 4095) ?_; (try (refine Nx.re (d := 101) (v' := Bo false) rfl (congrArg Value.bool (dFf ‹_›)) ?_)); refine jT 11 [12, 13] (bts 25 16383) ?_; (refine jG (bts 25 32767) 14 rfl (g_pickF rfl rfl rfl) ?_); refine jT 9 [15] (bts 25 65535) ?_; (try (refine Nx.re (d := 105) (v' := Bo false) rfl (congrArg Value.bool rfl) ?_)); refine jU 5 [16, 17, 18, 19] (bts 25 1048575) ?_ ?_; (focus (repeat' (first | exact trivial | apply And.intro | omega))); (try ((refine Nx.re (d := 109) (v' := Bo false) rfl (congrArg Value.bool (dFf (by omega))) ?_))); refine jT 2 [20, 21, 22] (bts 25 8388607) ?_; (refine jG (bts 25 16777215) 23 rfl (g_pickF rfl rfl rfl) ?_); (refine jG (bts 25 33554431) 24 rfl (g_pickF rfl rfl rfl) ?_); refine x_done (by kernel_rfl) (k_bk ?_))
        repeat' (first | (refine jR ?_) | (refine k_ff rfl rfl ?_))
        (refine k_any (s_any (id := 10) [.blk x14 (.cells (List.toArray [I d.tag, S d.name, S d.kind, S d.stand]) tFd (0, 0))] (by intro y hy; simp only [List.mem_cons, List.not_mem_nil, or_false] at hy ⊢; simp [hy]) mixed ?_); refine jU 7 [0, 1, 2, 3, 5] (bts 12 47) ?_ ?_; (focus (repeat' (exact trivial))); (refine jG (bts 12 111) 6 rfl (g_ld rfl rfl rfl) ?_); refine x_all [4, 7] (by kernel_rfl) (by decide) ⟨?_, ?_, trivial⟩; (focus (refine x_opg rfl rfl ?_; (refine jV (g_ld rfl rfl rfl) ?_); refine jK (bts 12 127) ?_; refine jA 7 rfl ?_; (refine c_bsl rfl rfl rfl rfl rfl rfl fun _ => ?_); refine jK (bts 12 255) ?_; refine jA 8 rfl ?_; ((refine c_apX rfl rfl rfl rfl rfl rfl rfl rfl rfl ?_ fun _ _ => ?_; (focus ((omega); done)))); refine jK (bts 12 511) ?_; refine jU 1 [9, 10] (bts 12 2047) ?_ ?_; (focus (repeat' (exact trivial))); refine jA 11 rfl ?_; (refine c_st1 rfl rfl rfl rfl ?_); refine jK (bts 12 4095) ?_; refine x_done (by kernel_rfl) (k_bk ?_))); rotate_left 1; (focus (refine x_opg rfl rfl ?_; (refine c_bsl rfl rfl rfl rfl rfl rfl fun _ => ?_); refine jK (bts 12 239) ?_; refine jA 4 rfl ?_; (refine jV (g_ld rfl rfl rfl) ?_); refine jK (bts 12 255) ?_; refine jA 8 rfl ?_; ((refine c_apX rfl rfl rfl rfl rfl rfl rfl rfl rfl ?_ fun _ _ => ?_; (focus ((omega); done)))); refine jK (bts 12 511) ?_; refine jU 1 [9, 10] (bts 12 2047) ?_ ?_; (focus (repeat' (exact trivial))); refine jA 11 rfl ?_; (refine c_st1 rfl rfl rfl rfl ?_); refine jK (bts 12 4095) ?_; refine x_done (by kernel_rfl) (k_bk ?_))); rotate_left 1)
        all_goals repeat' (first | refine jM ?_ | (refine k_op rfl ?_; first | refine jV (g_ld rfl rfl rfl) ?_ | refine c_st1 rfl rfl rfl rfl ?_ | refine c_bsl rfl rfl rfl rfl rfl rfl fun _ => ?_ | (refine c_apX rfl rfl rfl rfl rfl rfl rfl rfl rfl (by omega) fun _ _ => ?_)) | (refine k_ff rfl (dFf (by omega)) ?_))
        all_goals
         rename_i _ y1 yc1 _ y2 yc2
         rw [hrow1, hrow2]
         exact k_rd (fs ++ [(d, w)], bs ++ [wb], some ⟨y1, 0, none⟩, yc1, some ⟨y2, 0, none⟩, yc2, r3, m - 1, G) ⟨⟨⟨hbl', hfm', hreps'⟩, hgl⟩, ⟨(by dsimp only; rw [hit, hst, lastT_snoc, hnd]), (by dsimp only; omega)⟩, (by dsimp only; omega), (by dsimp only; omega)⟩ (by dsimp only; omega) (by repeat' constructor) rfl (by rw [hl']; repeat (first | exact List.Sublist.refl _ | apply List.Sublist.cons_cons | apply List.Sublist.cons))
       ·rw [if_neg h44] at hst
        by_cases h125' : e2.toNat = 125
        ·rw [if_pos h125'] at hst
         (refine k_any (s_any (id := 8) _ (fun _ h => h) mixed ?_); refine jT 22 [0, 1, 2] (bts 25 7) ?_; (try (refine Nx.re (d := 92) (v' := Bo false) rfl (congrArg Value.bool rfl) ?_)); refine jT 20 [3, 5] (bts 25 47) ?_; (refine jG (bts 25 111) 6 rfl (g_ld rfl rfl rfl) ?_); (refine jG (bts 25 239) 7 rfl (g_ldA rfl rfl rfl rfl) ?_); (refine jA 4 rfl ?_; (refine c_rt rfl rfl rfl cx_out rfl ?_); refine jS (bts 25 255) ?_); (refine jA 8 rfl ?_; (refine c_rt rfl rfl rfl cx_sta rfl ?_); refine jS (bts 25 511) ?_); refine jT 15 [9] (bts 25 1023) ?_; (refine jG (bts 25 2047) 10 rfl (g_pickF rfl rfl rfl) ?_); refine jT 13 [11] (bts 25 4095) ?_; (try (refine Nx.re (d := 101) (v' := Bo false) rfl (congrArg Value.bool (dFf ‹_›)) ?_)); refine jT 11 [12, 13] (bts 25 16383) ?_; (refine jG (bts 25 32767) 14 rfl (g_pickF rfl rfl rfl) ?_); refine jT 9 [15] (bts 25 65535) ?_; (try (refine Nx.re (d := 105) (v' := Bo false) rfl (congrArg Value.bool rfl) ?_)); refine jU 5 [16, 17, 18, 19] (bts 25 1048575) ?_ ?_; (focus (repeat' (first | exact trivial | apply And.intro | omega))); (try ((refine Nx.re (d := 109) (v' := Bo true) rfl (congrArg Value.bool (dTt (by omega))) ?_))); refine jU 2 [20, 21, 22] (bts 25 8388607) ?_ ?_; (focus (repeat' (first | exact trivial | apply And.intro | omega))); (refine jG (bts 25 16777215) 23 rfl (g_pickT rfl rfl rfl) ?_); (refine jG (bts 25 33554431) 24 rfl (g_pickF rfl rfl rfl) ?_); refine x_done (by kernel_rfl) (k_bk ?_))
         repeat' (first | (refine jR ?_) | (refine k_ff rfl (dFf (by omega)) ?_))
         (refine k_any (s_any (id := 10) [.blk x14 (.cells (List.toArray [I d.tag, S d.name, S d.kind, S d.stand]) tFd (0, 0))] (by intro y hy; simp only [List.mem_cons, List.not_mem_nil, or_false] at hy ⊢; simp [hy]) mixed ?_); refine jU 7 [0, 1, 2, 3, 5] (bts 12 47) ?_ ?_; (focus (repeat' (exact trivial))); (refine jG (bts 12 111) 6 rfl (g_ld rfl rfl rfl) ?_); refine x_all [4, 7] (by kernel_rfl) (by decide) ⟨?_, ?_, trivial⟩; (focus (refine x_opg rfl rfl ?_; (refine jV (g_ld rfl rfl rfl) ?_); refine jK (bts 12 127) ?_; refine jA 7 rfl ?_; (refine c_bsl rfl rfl rfl rfl rfl rfl fun _ => ?_); refine jK (bts 12 255) ?_; refine jA 8 rfl ?_; ((refine c_apX rfl rfl rfl rfl rfl rfl rfl rfl rfl ?_ fun _ _ => ?_; (focus ((omega); done)))); refine jK (bts 12 511) ?_; refine jU 1 [9, 10] (bts 12 2047) ?_ ?_; (focus (repeat' (exact trivial))); refine jA 11 rfl ?_; (refine c_st1 rfl rfl rfl rfl ?_); refine jK (bts 12 4095) ?_; refine x_done (by kernel_rfl) (k_bk ?_))); rotate_left 1; (focus (refine x_opg rfl rfl ?_; (refine c_bsl rfl rfl rfl rfl rfl rfl fun _ => ?_); refine jK (bts 12 239) ?_; refine jA 4 rfl ?_; (refine jV (g_ld rfl rfl rfl) ?_); refine jK (bts 12 255) ?_; refine jA 8 rfl ?_; ((refine c_apX rfl rfl rfl rfl rfl rfl rfl rfl rfl ?_ fun _ _ => ?_; (focus ((omega); done)))); refine jK (bts 12 511) ?_; refine jU 1 [9, 10] (bts 12 2047) ?_ ?_; (focus (repeat' (exact trivial))); refine jA 11 rfl ?_; (refine c_st1 rfl rfl rfl rfl ?_); refine jK (bts 12 4095) ?_; refine x_done (by kernel_rfl) (k_bk ?_))); rotate_left 1)
         all_goals repeat' (first | refine jM ?_ | (refine k_op rfl ?_; first | refine jV (g_ld rfl rfl rfl) ?_ | refine c_st1 rfl rfl rfl rfl ?_ | refine c_bsl rfl rfl rfl rfl rfl rfl fun _ => ?_ | (refine c_apX rfl rfl rfl rfl rfl rfl rfl rfl rfl (by omega) fun _ _ => ?_)) | (refine k_tt rfl (dTt (by omega)) ?_))
         all_goals
          rename_i _ y1 yc1 _ y2 yc2
          rw [hrow1, hrow2]
          refine Nx.sealS (v := .slice (some ⟨y1, 0, none⟩) (fs.length + 1) yc1) fun G2 hG2 hs1 => ?_
          refine Nx.sealS (v := .slice (some ⟨y2, 0, none⟩) (fs.length + 1) yc2) fun G3 hG3 hs2 => ?_
          refine Nx.sealC (b := x13) fun G4 hG4 hsg => ?_
          refine jZ (vs := [_, _, _]) rfl ⟨rfl, rfl, rfl, trivial⟩ rfl ⟨(((hgl.trans hG2).trans hG3).trans hG4), rfl, ?_⟩
          rw [oneOf_three]
          exact ⟨_, _, _, rfl, fun _ => ⟨.nd 82 [] 0 (nd61 (fs ++ [(d, w)])), x13, rfl, (by rw [hRl, hit, hst, hnd]; rfl), .recd k x13 x.2 (fs ++ [(d, w)]) (bs ++ [wb]) (some ⟨y1, 0, none⟩) (some ⟨y2, 0, none⟩) yc1 yc2 ⟨hrf, hso⟩ (by rw [hl']; exact hsg) (by rw [hl']; exact (hs1.mono hG3).mono hG4) (by rw [hl']; exact hs2.mono hG4) hbl' hfm' (fun i hi => (hreps' i hi).mono ((hG2.trans hG3).trans hG4))⟩, fun h => (by cases h)⟩
        ·rw [if_neg h125'] at hst
         (refine k_any (s_any (id := 8) _ (fun _ h => h) mixed ?_); refine jT 22 [0, 1, 2] (bts 25 7) ?_; (try (refine Nx.re (d := 92) (v' := Bo false) rfl (congrArg Value.bool rfl) ?_)); refine jT 20 [3, 5] (bts 25 47) ?_; (refine jG (bts 25 111) 6 rfl (g_ld rfl rfl rfl) ?_); (refine jG (bts 25 239) 7 rfl (g_ldA rfl rfl rfl rfl) ?_); (refine jA 4 rfl ?_; (refine c_rt rfl rfl rfl cx_out rfl ?_); refine jS (bts 25 255) ?_); (refine jA 8 rfl ?_; (refine c_rt rfl rfl rfl cx_sta rfl ?_); refine jS (bts 25 511) ?_); refine jT 15 [9] (bts 25 1023) ?_; (refine jG (bts 25 2047) 10 rfl (g_pickF rfl rfl rfl) ?_); refine jT 13 [11] (bts 25 4095) ?_; (try (refine Nx.re (d := 101) (v' := Bo false) rfl (congrArg Value.bool (dFf ‹_›)) ?_)); refine jT 11 [12, 13] (bts 25 16383) ?_; (refine jG (bts 25 32767) 14 rfl (g_pickF rfl rfl rfl) ?_); refine jT 9 [15] (bts 25 65535) ?_; (try (refine Nx.re (d := 105) (v' := Bo false) rfl (congrArg Value.bool rfl) ?_)); refine jU 5 [16, 17, 18, 19] (bts 25 1048575) ?_ ?_; (focus (repeat' (first | exact trivial | apply And.intro | omega))); (try ((refine Nx.re (d := 109) (v' := Bo true) rfl (congrArg Value.bool (dTt (by omega))) ?_))); refine jU 2 [20, 21, 22] (bts 25 8388607) ?_ ?_; (focus (repeat' (first | exact trivial | apply And.intro | omega))); (refine jG (bts 25 16777215) 23 rfl (g_pickT rfl rfl rfl) ?_); (refine jG (bts 25 33554431) 24 rfl (g_pickF rfl rfl rfl) ?_); refine x_done (by kernel_rfl) (k_bk ?_))
         repeat' (first | (refine jR ?_) | (refine k_tt rfl (dTt (by omega)) ?_))
         all_goals refine jZ (vs := [_, _, _]) rfl ⟨rfl, rfl, rfl, trivial⟩ rfl ⟨hgl, rfl, ?_⟩
         all_goals exact hnone hst rfl
end Go.E
namespace Go.E
set_option maxRecDepth 20000
set_option maxHeartbeats 2000000
open Go.Proofs
variable {G : Gh}
abbrev tTyG : TypeId := 114
abbrev tPtr5 : TypeId := 60
abbrev tInt5 : TypeId := 3
def DrawT (u : Value) (vs : List TyX) (k : List UInt8) (deep cp : Int) (ct : Nat) : Prop := ∀ (G : Gh) (r : Nat) (code : Value) (p : Int) (l : List UInt8), SchR G u vs → SlV G code 1 l.length (u8s l) → 0 ≤ p ∧ p + cp ≤ 600000000000 →
 FnM Tryz.prog 122 [Pt r 0, u, S k, I deep] G [rdO r code p tRdr] (fun v G' L' => ∃ w b q, v = Pt b 0 ∧ RepR G' (tys vs) w k b ∧ w.tot ≤ ct ∧ 1 ≤ w.out.length ∧ L' = [rdO r code q tRdr] ∧ p ≤ q ∧ q ≤ p + cp)
theorem dv_typed {u : Value} {vs : List TyX} {k : List UInt8} {deep cp : Int} {ct : Nat} (hD : DrawT u vs (64 :: k) deep cp ct) (hkl : k.length ≤ 1000) : DrawC u vs (64 :: k) deep cp ct := by
 intro G r code p l hR hs hp
 have hkd0 : bt (64 :: k) (Int.toNat 0) = 64 := bt_zero 64 k
 have hkl2 : (64 :: k).length = k.length + 1 := rfl
 have cx_dt := fun {p : Int} (hp : 0 ≤ p ∧ p + cp ≤ 600000000000) => hD G r code p l hR hs hp
 refine m_enter [(0, _), (1, _), (2, _), (3, _)] Tryz.func84 (by kernel_rfl) Tryz.ntmps84 rfl rfl (by repeat' constructor) fun B hB hW => ?_
 repeat' (first | refine jM ?_ | (refine k_op rfl ?_; first | refine jV (g_bld rfl rfl) ?_ | refine c_bx rfl rfl rfl fun _ => ?_ | (refine c_m1s rfl rfl rfl (cx_dt ‹_›) rfl ?_; rintro _ G1 _ hle ⟨w1, b1, q1, rfl, hrep, htot, hone, rfl, hq1, hq2⟩; dsimp only [zA, fA]; skip)) | (refine k_ff rfl rfl ?_))
 exact k_rr (vs := [_]) rfl ⟨rfl, trivial⟩ rfl (by repeat (first | exact List.nil_sublist _ | apply List.Sublist.cons_cons)) ⟨hle, w1, b1, q1, rfl, hrep, htot, hone, rfl, hq1, hq2⟩
section
variable {u : Value} {vs : List TyX} {kd nm : List UInt8} {fs : List Fld} {a : Option Addr} {ca : Nat} {deep cp : Int} {ct : Nat}
theorem dt_enm (hr : refV vs kd = some ((a, ca), ⟨69, nm, fs⟩)) (hvl : vs.length ≤ 1000000) (hk : kOk kd = true) (hkl : kd.length ≤ 1000) (h0 : 0 < fs.length) (h8 : fs.length ≤ 8) (hw : SchW (tys vs)) : DrawT u vs kd deep 10 300 := by
 intro G r code p l hR hs hp
 have href := refV_ty vs kd
 rw [hr] at href
 have cx_rf := c_ref (G := G) (k := kd) hR hvl hk (by omega)
 rw [hr] at cx_rf
 have htm := refT_mem href.symm
 obtain ⟨bf, of, cf, ef, hsf⟩ := (hR.fl _ (refV_mem hr)).expl h0
 simp only [slX, Value.slice.injEq] at ef
 obtain ⟨rfl, -, rfl⟩ := ef
 dsimp only at hsf
 have cx_rf : PuG Tryz.prog 63 [u, S kd] G (· = Tu [Ag [U8 (69 : Nat), S nm, .slice (some ⟨bf, of, none⟩) fs.length ca], Bo true]) := cx_rf
 refine m_enter [(0, _), (1, _), (2, _), (3, _)] Tryz.func122 (by kernel_rfl) Tryz.ntmps122 rfl rfl (by repeat' constructor) fun B hB hW => ?_
 repeat' (first | (refine jR ?_) | (refine k_op rfl ?_; first | refine c_al rfl rfl fun _ => ?_ | refine c_stA rfl rfl rfl rfl rfl rfl ?_ | refine jV (g_ld rfl rfl rfl) ?_ | refine c_bsl rfl rfl rfl rfl rfl rfl fun _ => ?_ | refine jV (g_bsB rfl rfl (by (repeat (first | exact BL.nil | apply BL.lit rfl)); done)) ?_ | refine jV (g_bld rfl rfl) ?_ | refine c_bx rfl rfl rfl fun _ => ?_ | (refine c_rt rfl rfl rfl cx_rf rfl ?_)) | (refine k_tt rfl rfl ?_))
 rename_i y9 _ y11
 (refine k_any (s_any (id := 5) [.blk y9 (.cells (List.toArray [U8 (69 : Nat), S nm, .slice (some ⟨bf, of, none⟩) fs.length ca]) tTyG (0, 0))] (by intro y hy; simp only [List.mem_cons, List.not_mem_nil, or_false] at hy ⊢; simp [hy]) mixed ?_); refine jU 11 [0, 1, 3, 4] (bts 15 27) ?_ ?_; (focus (repeat' (exact trivial))); (refine jG (bts 15 31) 2 rfl (g_ld rfl rfl rfl) ?_); (refine jG (bts 15 63) 5 rfl (g_ld rfl rfl rfl) ?_); (refine jG (bts 15 127) 6 rfl (g_lenL rfl) ?_); refine jA 7 rfl ?_; ((refine c_m1g rfl rfl rfl (c_pick ?_ (by (repeat (assumption)); done)) rfl ?_; (focus ((omega); done)); rintro _ _ ⟨k, rfl, rfl, hk0, hk1⟩; dsimp only [zA, fA])); refine jK (bts 15 255) ?_; ((refine jG (bts 15 511) 8 rfl (g_iaddr rfl rfl ?_) ?_; (focus ((omega); done)))); refine jU 5 [9] (bts 15 1023) ?_ ?_; (focus (repeat' (exact trivial))); ((refine jG (bts 15 2047) 10 rfl (g_ldRF rfl rfl (by assumption) ?_ rfl rfl) ?_; (focus ((omega); done)))); refine jA 11 rfl ?_; (refine c_bsl rfl rfl rfl rfl rfl rfl fun _ => ?_); refine jK (bts 15 4095) ?_; refine jU 1 [12, 13] (bts 15 16383) ?_ ?_; (focus (repeat' (exact trivial))); refine jA 14 rfl ?_; (refine c_st1 rfl rfl rfl rfl ?_); refine jK (bts 15 32767) ?_; refine x_done (by kernel_rfl) (k_bk ?_))
 all_goals repeat' (refine jR ?_)
 all_goals
  rename_i y1
  refine Nx.sealC (b := y1) fun G2 hG2 hsy => ?_
  refine Nx.sealC (b := y11) fun G3 hG3 hsg => ?_
  have hdm : nth fs k.toNat ∈ fs := nth_mem (by omega)
  exact k_rr (vs := [_]) rfl ⟨rfl, trivial⟩ rfl (by repeat (first | exact List.nil_sublist _ | apply List.Sublist.cons_cons)) ⟨hG2.trans hG3, .nd 69 [] (nth fs k.toNat).tag [], y11, _, rfl, .enm kd y11 y1 ⟨69, nm, fs⟩ (nth fs k.toNat) ⟨href.symm, rfl⟩ hdm hsg (hsy.mono hG3), by simp [nd_tot, V.tots], by rw [V.out]; simp [outW], rfl, by omega, by omega⟩
theorem dt_uni (hr : refV vs kd = some ((a, ca), ⟨85, nm, fs⟩)) (hvl : vs.length ≤ 1000000) (hk : kOk kd = true) (hkl : kd.length ≤ 1000) (h0 : 0 < fs.length) (h8 : fs.length ≤ 8) (hw : SchW (tys vs)) (hcp : 0 ≤ cp ∧ cp ≤ 100000000) (hct : ct ≤ 100000000)
  (hD : ∀ d ∈ fs, (0 < deep ∨ d = nth fs 0) → DrawC u vs d.kind (deep - 1) cp ct) (hd : -1000 ≤ deep ∧ deep ≤ 1000) : DrawT u vs kd deep (cp + 10) (ct + 20) := by
 intro G r code p l hR hs hp
 have href := refV_ty vs kd
 rw [hr] at href
 have cx_rf := c_ref (G := G) (k := kd) hR hvl hk (by omega)
 rw [hr] at cx_rf
 have htm := refT_mem href.symm
 obtain ⟨bf, of, cf, ef, hsf⟩ := (hR.fl _ (refV_mem hr)).expl h0
 simp only [slX, Value.slice.injEq] at ef
 obtain ⟨rfl, -, rfl⟩ := ef
 dsimp only at hsf
 have cx_rf : PuG Tryz.prog 63 [u, S kd] G (· = Tu [Ag [U8 (85 : Nat), S nm, .slice (some ⟨bf, of, none⟩) fs.length ca], Bo true]) := cx_rf
 refine m_enter [(0, _), (1, _), (2, _), (3, _)] Tryz.func122 (by kernel_rfl) Tryz.ntmps122 rfl rfl (by repeat' constructor) fun B hB hW => ?_
 repeat' (first | refine jM ?_ | (refine k_op rfl ?_; first | refine c_al rfl rfl fun _ => ?_ | refine c_st1 rfl rfl rfl rfl ?_ | refine c_stA rfl rfl rfl rfl rfl rfl ?_ | refine jV (g_ld rfl rfl rfl) ?_ | (refine jV (g_ldR rfl rfl (by assumption) ?_) ?_; (focus ((omega); done))) | refine c_bsl rfl rfl rfl rfl rfl rfl fun _ => ?_ | refine jV (g_bsB rfl rfl (by (repeat (first | exact BL.nil | apply BL.lit rfl)); done)) ?_ | refine jV (g_bld rfl rfl) ?_ | refine c_bx rfl rfl rfl fun _ => ?_ | (refine jV (g_iaddrN rfl rfl (by omega)) ?_) | (refine c_rt rfl rfl rfl cx_rf rfl ?_)) | (refine k_tt rfl rfl ?_) | (refine k_ff rfl rfl ?_) | refine k_if rfl (fun _ => ?_) (fun _ => ?_))
 ·rename_i y9 _ y11 y12 hd0
  (refine k_any (s_any (id := 10) [.blk y9 (.cells (List.toArray [U8 (85 : Nat), S nm, .slice (some ⟨bf, of, none⟩) fs.length ca]) tTyG (0, 0))] (by intro y hy; simp only [List.mem_cons, List.not_mem_nil, or_false] at hy ⊢; simp [hy]) mixed ?_); refine jU 7 [0, 2, 3] (bts 10 13) ?_ ?_; (focus (repeat' (exact trivial))); (refine jG (bts 10 15) 1 rfl (g_ld rfl rfl rfl) ?_); (refine jG (bts 10 31) 4 rfl (g_ld rfl rfl rfl) ?_); (refine jG (bts 10 63) 5 rfl (g_lenL rfl) ?_); refine jA 6 rfl ?_; ((refine c_m1g rfl rfl rfl (c_pick ?_ (by (repeat (assumption)); done)) rfl ?_; (focus ((omega); done)); rintro _ _ ⟨k, rfl, rfl, hk0, hk1⟩; dsimp only [zA, fA])); refine jK (bts 10 127) ?_; ((refine jG (bts 10 255) 7 rfl (g_iaddr rfl rfl ?_) ?_; (focus ((omega); done)))); ((refine jG (bts 10 511) 8 rfl (g_ldR rfl rfl (by assumption) ?_) ?_; (focus ((omega); done)))); refine jA 9 rfl ?_; (refine c_stA rfl rfl rfl rfl rfl rfl ?_); refine jK (bts 10 1023) ?_; refine x_done (by kernel_rfl) (k_bk ?_))
  all_goals have hdm : nth fs k.toNat ∈ fs := nth_mem (by omega)
  all_goals have cx_dv := fun {p : Int} (hp : 0 ≤ p ∧ p + cp ≤ 600000000000) => hD (nth fs k.toNat) hdm (.inl hd0) G r code p l hR hs hp
  all_goals repeat' (first | refine jM ?_ | (refine k_op rfl ?_; first | refine c_st1 rfl rfl rfl rfl ?_ | refine jV (g_ld rfl rfl rfl) ?_ | refine c_bsl rfl rfl rfl rfl rfl rfl fun _ => ?_ | (refine c_m1s rfl rfl rfl (cx_dv (by omega)) rfl ?_; rintro _ G1 _ hle ⟨w1, b1, q1, rfl, hrep, htot, hone, rfl, hq1, hq2⟩; dsimp only [zA, fA]; skip)))
  all_goals
   rename_i y1 y2
   refine Nx.sealC (b := y1) fun G2 hG2 hs1 => ?_
   refine Nx.sealC (b := y2) fun G3 hG3 hs2 => ?_
   refine Nx.sealC (b := y11) fun G4 hG4 hsg => ?_
   exact k_rr (vs := [_]) rfl ⟨rfl, trivial⟩ rfl (by repeat (first | exact List.nil_sublist _ | apply List.Sublist.cons_cons)) ⟨((hle.trans hG2).trans hG3).trans hG4, .nd 85 [] (nth fs k.toNat).tag [w1], y11, _, rfl, .uni kd y11 y1 y2 b1 1 ⟨85, nm, fs⟩ (nth fs k.toNat) w1 (Nat.le_refl _) ⟨href.symm, rfl⟩ hdm hsg (hs1.mono (hG3.trans hG4)) (hs2.mono hG4) (hrep.mono ((hG2.trans hG3).trans hG4)), by simp only [nd_tot, V.tots, List.length_nil]; omega, by rw [V.out]; simp [outW], rfl, by omega, by omega⟩
 ·have cx_dv := fun {p : Int} (hp : 0 ≤ p ∧ p + cp ≤ 600000000000) => hD (nth fs 0) (nth_mem h0) (.inr rfl) G r code p l hR hs hp
  repeat' (first | (refine jR ?_) | (refine k_op rfl ?_; first | refine c_st1 rfl rfl rfl rfl ?_ | refine c_bsl rfl rfl rfl rfl rfl rfl fun _ => ?_ | (refine c_m1s rfl rfl rfl (cx_dv (by omega)) rfl ?_; rintro _ G1 _ hle ⟨w1, b1, q1, rfl, hrep, htot, hone, rfl, hq1, hq2⟩; dsimp only [zA, fA]; skip)))
  all_goals
   rename_i y9 _ y11 y12 _ y1 y2
   refine Nx.sealC (b := y1) fun G2 hG2 hs1 => ?_
   refine Nx.sealC (b := y2) fun G3 hG3 hs2 => ?_
   refine Nx.sealC (b := y11) fun G4 hG4 hsg => ?_
   exact k_rr (vs := [_]) rfl ⟨rfl, trivial⟩ rfl (by repeat (first | exact List.nil_sublist _ | apply List.Sublist.cons_cons)) ⟨((hle.trans hG2).trans hG3).trans hG4, .nd 85 [] (nth fs 0).tag [w1], y11, _, rfl, .uni kd y11 y1 y2 b1 1 ⟨85, nm, fs⟩ (nth fs 0) w1 (Nat.le_refl _) ⟨href.symm, rfl⟩ (nth_mem h0) hsg (hs1.mono (hG3.trans hG4)) (hs2.mono hG4) (hrep.mono ((hG2.trans hG3).trans hG4)), by simp only [nd_tot, V.tots, List.length_nil]; omega, by rw [V.out]; simp [outW], rfl, by omega, by omega⟩
theorem dt_rec0 (hr : refV vs kd = some ((a, ca), ⟨82, nm, fs⟩)) (hvl : vs.length ≤ 1000000) (hk : kOk kd = true) (hkl : kd.length ≤ 1000) (h8 : fs.length ≤ 8) (hd : -1000 ≤ deep ∧ deep ≤ 0) : DrawT u vs kd deep 10 100 := by
 intro G r code p l hR hs hp
 have href := refV_ty vs kd
 rw [hr] at href
 have cx_rf := c_ref (G := G) (k := kd) hR hvl hk (by omega)
 rw [hr] at cx_rf
 have cx_rf : PuG Tryz.prog 63 [u, S kd] G (· = Tu [Ag [U8 (82 : Nat), S nm, .slice a fs.length ca], Bo true]) := cx_rf
 refine m_enter [(0, _), (1, _), (2, _), (3, _)] Tryz.func122 (by kernel_rfl) Tryz.ntmps122 rfl rfl (by repeat' constructor) fun B hB hW => ?_
 repeat' (first | (refine jR ?_) | (refine k_op rfl ?_; first | refine c_al rfl rfl fun _ => ?_ | refine c_stA rfl rfl rfl rfl rfl rfl ?_ | refine jV (g_ld rfl rfl rfl) ?_ | refine c_bsl rfl rfl rfl rfl rfl rfl fun _ => ?_ | refine jV (g_bsB rfl rfl (by (repeat (first | exact BL.nil | apply BL.lit rfl)); done)) ?_ | refine jV (g_bld rfl rfl) ?_ | refine c_bx rfl rfl rfl fun _ => ?_ | (refine c_rt rfl rfl rfl cx_rf rfl ?_)) | (refine k_ff rfl rfl ?_))
 rename_i y9 _ y11
 refine k_loop (ι := Unit) (fun i => True) (fun i => [(0, Pt r 0), (1, u), (2, S kd), (3, I deep), (9, Pt y9 0), (11, Pt y11 0), (13, I 0)]) (fun _ => G) (fun i => [.blk y11 (.cells (List.toArray [S kd, S [82], nilS, nilS]) tLv (0, 0)), .blk y9 (.cells (List.toArray [U8 (82 : Nat), S nm, .slice a fs.length ca]) tTyG (0, 0)), rdO r code p tRdr]) (fun i => 0) () ?_ (by repeat' constructor) rfl (by repeat (first | exact List.Sublist.refl _ | apply List.Sublist.cons_cons | apply List.Sublist.cons)) (fun i Hi => ?_)
 ·trivial
 by_cases h0 : 0 < fs.length
 all_goals repeat' (first | (refine jR ?_) | (refine k_op rfl ?_; first | refine jV (g_ld rfl rfl rfl) ?_ | refine jV (g_lenL rfl) ?_ | (refine jV (g_pickT rfl rfl rfl) ?_) | (refine jV (g_pickF rfl rfl rfl) ?_)) | (refine k_gt rfl rfl (dTt (by omega)) ?_) | (refine k_gf rfl rfl (dFf (by omega)) ?_) | (refine k_ff rfl (by first | rfl | (refine decide_eq_false ?_; (omega))) ?_))
 all_goals
  refine Nx.sealC (b := y11) fun G2 hG2 hsg => ?_
  exact k_rr (vs := [_]) rfl ⟨rfl, trivial⟩ rfl (by repeat (first | exact List.Sublist.refl _ | apply List.Sublist.cons)) ⟨hG2, .nd 82 [] 0 [], y11, p, rfl, .recd kd y11 ⟨82, nm, fs⟩ [] [] none none 0 0 ⟨href.symm, rfl⟩ hsg ⟨rfl, .inl ⟨rfl, rfl⟩⟩ ⟨rfl, .inl ⟨rfl, rfl⟩⟩ rfl (fun i hi => absurd hi (by simp)) (fun i hi => absurd hi (by simp)), by simp [nd_tot, V.tots], by rw [V.out]; simp [outW], rfl, by omega, by omega⟩
theorem dt_rec (hr : refV vs kd = some ((a, ca), ⟨82, nm, fs⟩)) (hvl : vs.length ≤ 1000000) (hk : kOk kd = true) (hkl : kd.length ≤ 1000) (h8 : fs.length ≤ 8) (hw : SchW (tys vs)) (hcp : 0 ≤ cp ∧ cp ≤ 100000000) (hct : ct ≤ 100000000)
  (hD : ∀ d ∈ fs, DrawC u vs d.kind (deep - 1) cp ct) (hd : 0 < deep ∧ deep ≤ 1000) : DrawT u vs kd deep (8 * cp + 20) (8 * ct + 200) := by
 intro G r code p l hR hs hp
 have href := refV_ty vs kd
 rw [hr] at href
 have cx_rf := c_ref (G := G) (k := kd) hR hvl hk (by omega)
 rw [hr] at cx_rf
 have htm := refT_mem href.symm
 have cx_rf : PuG Tryz.prog 63 [u, S kd] G (· = Tu [Ag [U8 (82 : Nat), S nm, .slice a fs.length ca], Bo true]) := cx_rf
 refine m_enter [(0, _), (1, _), (2, _), (3, _)] Tryz.func122 (by kernel_rfl) Tryz.ntmps122 rfl rfl (by repeat' constructor) fun B hB hW => ?_
 repeat' (first | (refine jR ?_) | (refine k_op rfl ?_; first | refine c_al rfl rfl fun _ => ?_ | refine c_stA rfl rfl rfl rfl rfl rfl ?_ | refine jV (g_ld rfl rfl rfl) ?_ | refine c_bsl rfl rfl rfl rfl rfl rfl fun _ => ?_ | refine jV (g_bsB rfl rfl (by (repeat (first | exact BL.nil | apply BL.lit rfl)); done)) ?_ | refine jV (g_bld rfl rfl) ?_ | refine c_bx rfl rfl rfl fun _ => ?_ | (refine c_rt rfl rfl rfl cx_rf rfl ?_)) | (refine k_ff rfl rfl ?_))
 rename_i y9 _ y11
 refine Nx.addNil tInt5 1 (Nx.addNil tPtr5 1 ?_)
 refine Nx.perm (((List.perm_append_comm (l₁ := [_, _, _]) (l₂ := [_])).cons _).cons _) ?_
 dsimp only [zA, fA]
 refine k_loop (ι := List (Fld × V) × List Nat × Option Addr × Nat × Option Addr × Nat × Nat × Int × Gh) (fun j => ((j.2.1.length = j.1.length ∧ (∀ i, i < j.1.length → (nth j.1 i).1 ∈ fs) ∧ ∀ i, i < j.1.length → RepR j.2.2.2.2.2.2.2.2 (tys vs) (nth j.1 i).2 (nth j.1 i).1.kind (nth j.2.1 i)) ∧ Gh.le G j.2.2.2.2.2.2.2.2) ∧ (j.1.length ≤ j.2.2.2.2.2.2.1 ∧ j.2.2.2.2.2.2.1 ≤ fs.length) ∧ V.tots (nd61 j.1) ≤ (ct + 20) * j.1.length ∧ p ≤ j.2.2.2.2.2.2.2.1 ∧ j.2.2.2.2.2.2.2.1 ≤ p + (cp + 1) * ((j.2.2.2.2.2.2.1 : Nat) : Int)) (fun j => [(0, Pt r 0), (1, u), (2, S kd), (3, I deep), (9, Pt y9 0), (11, Pt y11 0), (13, I ((j.2.2.2.2.2.2.1 : Nat) : Int))]) (fun j => j.2.2.2.2.2.2.2.2) (fun j => [.acc (.slice j.2.2.2.2.1 j.1.length j.2.2.2.2.2.1) tPtr5 1 j.1.length (rows ptR j.2.1), .acc (.slice j.2.2.1 j.1.length j.2.2.2.1) tInt5 1 j.1.length (rows inR (j.1.map fun p => p.1.tag)), rdO r code j.2.2.2.2.2.2.2.1 tRdr, .blk y11 (.cells (List.toArray [S kd, S [82], .slice j.2.2.1 j.1.length j.2.2.2.1, .slice j.2.2.2.2.1 j.1.length j.2.2.2.2.2.1]) tLv (0, 0)), .blk y9 (.cells (List.toArray [U8 (82 : Nat), S nm, .slice a fs.length ca]) tTyG (0, 0))]) (fun j => fs.length - j.2.2.2.2.2.2.1) ([], [], none, 0, none, 0, 0, p, G) ?_ (by repeat' constructor) rfl (by repeat (first | exact List.Sublist.refl _ | apply List.Sublist.cons_cons | apply List.Sublist.cons)) (fun j Hj => ?_)
 ·refine ⟨⟨⟨rfl, fun i hi => absurd hi (by simp), fun i hi => absurd hi (by simp)⟩, Gh.le.refl _⟩, ?_, ?_, ?_, ?_⟩
  ·exact ⟨Nat.le_refl _, Nat.zero_le _⟩
  ·simp [nd61, V.tots]
  ·dsimp only; omega
  ·dsimp only; simp
 obtain ⟨gs, bs, a1, c1, a2, c2, i, q, Gq⟩ := j
 dsimp only at Hj ⊢
 obtain ⟨⟨⟨hbl, hfm, hreps⟩, hgq⟩, hil, htt, hq0, hq1⟩ := Hj
 have hcl : (cp + 1) * ((i : Nat) : Int) ≤ (cp + 1) * 8 := Int.mul_le_mul_of_nonneg_left (by omega) (by omega)
 have hcl0 : 0 ≤ (cp + 1) * ((i : Nat) : Int) := Int.mul_nonneg (by omega) (by omega)
 have htl : (ct + 20) * gs.length ≤ (ct + 20) * 8 := Nat.mul_le_mul_left _ (by omega)
 by_cases hgo : i < fs.length
 ·have hcl3 : (cp + 1) * ((i : Nat) : Int) + (cp + 1) ≤ (cp + 1) * 8 := by
   have := Int.mul_le_mul_of_nonneg_left (show ((i : Nat) : Int) + 1 ≤ 8 by omega) (show 0 ≤ cp + 1 by omega)
   rwa [Int.mul_add, Int.mul_one] at this
  obtain ⟨bf, of, cf, ef, hsf⟩ := (hR.fl _ (refV_mem hr)).expl (by dsimp only; omega)
  simp only [slX, Value.slice.injEq] at ef
  obtain ⟨rfl, -, rfl⟩ := ef
  dsimp only at hsf
  have hdm : nth fs i ∈ fs := nth_mem hgo
  have hdk : kindIn (tys vs) (nth fs i).kind = true := kind_in hw htm (by simp) hdm
  have cx_dv := fun {p : Int} (hp : 0 ≤ p ∧ p + cp ≤ 600000000000) => hD (nth fs i) hdm Gq r code p l (hR.mono hgq) (hs.mono hgq) hp
  have hsf := hsf.mono hgq
  repeat' (first | refine jM ?_ | (refine k_op rfl ?_; first | refine jV (g_ld rfl rfl rfl) ?_ | (refine jV (g_ldRF rfl rfl (by assumption) ?_ rfl rfl) ?_; (focus ((omega); done))) | refine jV (g_lenL rfl) ?_ | (refine jV (g_iaddrN rfl rfl (by omega)) ?_) | (refine jV (g_pickT rfl rfl rfl) ?_) | (refine c_m1s rfl rfl rfl (cx_dv (by omega)) rfl ?_; rintro _ G1 _ hle ⟨w1, b1, q1, rfl, hrep, htot, hone, rfl, hq1, hq2⟩; dsimp only [zA, fA]; (try have hsf := hsf.mono hle))) | (refine k_gt rfl rfl (dTt (by omega)) ?_) | (refine k_tt rfl (dTt (by omega)) ?_))
  have hgl := hgq.trans hle
  have cx_pk3 : ∀ {p : Int}, 0 ≤ p ∧ p ≤ 1000000000000 → FnG Tryz.prog 50 [Pt r 0, I 3] G1 [rdO r code p tRdr] (fun v L' => L' = [rdO r code (p + 1) tRdr] ∧ (v = I 0 ∨ ∃ k, v = I k ∧ 0 < k)) := fun {p} hp => (c_pick (b := r) (p := p) (n := 3) ⟨hp.1, hp.2, by decide⟩ (hs.mono hgl)).mono fun v G' L' ⟨h1, k, h2, h3, h4, h5⟩ => ⟨h1, h3, by subst h2; rcases (show k = 0 ∨ 0 < k by omega) with rfl | h; exact .inl rfl; exact .inr ⟨k, rfl, h⟩⟩
  have cx_out := c_outS hw hrep (by omega)
  have cx_sta := c_standS (f := nth fs i) (hR.mono hgl) hw hdk
  have hms : (cp + 1) * ((i + 1 : Nat) : Int) = (cp + 1) * ((i : Nat) : Int) + (cp + 1) := by rw [Int.natCast_succ, Int.mul_add, Int.mul_one]
  by_cases heq : w1.out = standF (tys vs) (nth fs i)
  ·(refine k_any (s_any (id := 18) [.blk y9 (.cells (List.toArray [U8 (82 : Nat), S nm, .slice (some ⟨bf, of, none⟩) fs.length ca]) tTyG (0, 0))] (by intro y hy; simp only [List.mem_cons, List.not_mem_nil, or_false] at hy ⊢; simp [hy]) mixed ?_); refine jU 14 [0] (bts 15 1) ?_ ?_; (focus (repeat' (exact trivial))); refine x_all [1] (by kernel_rfl) (by decide) ⟨?_, trivial⟩; (refine x_opg rfl rfl ?_; (refine c_m1g rfl rfl rfl (cx_pk3 (by omega)) rfl ?_; rintro _ _ ⟨rfl, rfl | ⟨k, rfl, hk0⟩⟩ <;> dsimp only [zA, fA])) <;> (refine jS (bts 15 3) ?_; refine jT 11 [2, 3] (bts 15 15) ?_; (try (first | (refine Nx.re (d := 107) (v' := Bo true) rfl (congrArg Value.bool (dTt ‹_›)) ?_) | (refine Nx.re (d := 107) (v' := Bo false) rfl (congrArg Value.bool rfl) ?_))); refine jT 7 [4, 6, 7, 9] (bts 15 735) ?_; (first | refine jG (bts 15 991) 8 rfl (g_ld rfl rfl rfl) ?_ | refine jN (bts 15 991) 8 rfl ?_); (first | (refine jG (bts 15 2015) 10 rfl (g_iaddrN rfl rfl (by omega)) ?_) | refine jN (bts 15 2015) 10 rfl ?_); (first | (refine jG (bts 15 4063) 11 rfl (g_ldR rfl rfl (by assumption) ?_) ?_; (focus ((omega); done))) | refine jN (bts 15 4063) 11 rfl ?_); (first | refine jN (bts 15 4095) 5 rfl ?_ | (refine jA 5 rfl ?_; (refine c_rt rfl rfl rfl cx_out rfl ?_); refine jS (bts 15 4095) ?_)); (first | refine jN (bts 15 8191) 12 rfl ?_ | (refine jA 12 rfl ?_; (refine c_rt rfl rfl rfl cx_sta rfl ?_); refine jS (bts 15 8191) ?_)); refine jT 1 [13] (bts 15 16383) ?_; (first | (refine jG (bts 15 32767) 14 rfl (g_pickT rfl rfl rfl) ?_) | (refine jG (bts 15 32767) 14 rfl (g_pickF rfl rfl rfl) ?_)); refine x_done (by kernel_rfl) (k_bk ?_)))
   all_goals repeat' (first | refine jM ?_ | (refine k_ff rfl ?_ ?_; (focus ((first | rfl | (simp [*]; done)); done))))
   all_goals
    refine Nx.perm ((List.Perm.swap _ _ _).trans ((List.Perm.swap _ _ _).cons _)) ?_
    exact k_rd (gs, bs, a1, c1, a2, c2, i + 1, q1 + 1, G1) ⟨⟨⟨hbl, hfm, fun i hi => (hreps i hi).mono hle⟩, hgl⟩, ⟨by dsimp only; omega, by dsimp only; omega⟩, htt, by dsimp only; omega, by dsimp only; rw [hms]; omega⟩ (by dsimp only; omega) (by repeat' constructor) rfl sRr
  ·(refine k_any (s_any (id := 18) [.blk y9 (.cells (List.toArray [U8 (82 : Nat), S nm, .slice (some ⟨bf, of, none⟩) fs.length ca]) tTyG (0, 0))] (by intro y hy; simp only [List.mem_cons, List.not_mem_nil, or_false] at hy ⊢; simp [hy]) mixed ?_); refine jU 14 [0] (bts 15 1) ?_ ?_; (focus (repeat' (exact trivial))); refine x_all [1] (by kernel_rfl) (by decide) ⟨?_, trivial⟩; (refine x_opg rfl rfl ?_; (refine c_m1g rfl rfl rfl (cx_pk3 (by omega)) rfl ?_; rintro _ _ ⟨rfl, rfl | ⟨k, rfl, hk0⟩⟩ <;> dsimp only [zA, fA])) <;> (refine jS (bts 15 3) ?_; refine jT 11 [2, 3] (bts 15 15) ?_; (try (first | (refine Nx.re (d := 107) (v' := Bo true) rfl (congrArg Value.bool (dTt ‹_›)) ?_) | (refine Nx.re (d := 107) (v' := Bo false) rfl (congrArg Value.bool rfl) ?_))); refine jT 7 [4, 6, 7, 9] (bts 15 735) ?_; (first | refine jG (bts 15 991) 8 rfl (g_ld rfl rfl rfl) ?_ | refine jN (bts 15 991) 8 rfl ?_); (first | (refine jG (bts 15 2015) 10 rfl (g_iaddrN rfl rfl (by omega)) ?_) | refine jN (bts 15 2015) 10 rfl ?_); (first | (refine jG (bts 15 4063) 11 rfl (g_ldR rfl rfl (by assumption) ?_) ?_; (focus ((omega); done))) | refine jN (bts 15 4063) 11 rfl ?_); (first | refine jN (bts 15 4095) 5 rfl ?_ | (refine jA 5 rfl ?_; (refine c_rt rfl rfl rfl cx_out rfl ?_); refine jS (bts 15 4095) ?_)); (first | refine jN (bts 15 8191) 12 rfl ?_ | (refine jA 12 rfl ?_; (refine c_rt rfl rfl rfl cx_sta rfl ?_); refine jS (bts 15 8191) ?_)); refine jT 1 [13] (bts 15 16383) ?_; (first | (refine jG (bts 15 32767) 14 rfl (g_pickT rfl rfl rfl) ?_) | (refine jG (bts 15 32767) 14 rfl (g_pickF rfl rfl rfl) ?_)); refine x_done (by kernel_rfl) (k_bk ?_)))
   ·repeat' (first | refine jM ?_ | (refine k_ff rfl rfl ?_))
    refine Nx.perm ((List.Perm.swap _ _ _).trans ((List.Perm.swap _ _ _).cons _)) ?_
    exact k_rd (gs, bs, a1, c1, a2, c2, i + 1, q1 + 1, G1) ⟨⟨⟨hbl, hfm, fun i hi => (hreps i hi).mono hle⟩, hgl⟩, ⟨by dsimp only; omega, by dsimp only; omega⟩, htt, by dsimp only; omega, by dsimp only; rw [hms]; omega⟩ (by dsimp only; omega) (by repeat' constructor) rfl sRr
   ·repeat' (first | (refine jR ?_) | (refine k_tt rfl (dTt ‹_›) ?_))
    have hl' : (gs ++ [(nth fs i, w1)]).length = gs.length + 1 := by simp
    have hbl' : (bs ++ [b1]).length = (gs ++ [(nth fs i, w1)]).length := by simp [hbl]
    have hnth : ∀ j, j < (gs ++ [(nth fs i, w1)]).length → (j < gs.length ∧ nth (gs ++ [(nth fs i, w1)]) j = nth gs j ∧ nth (bs ++ [b1]) j = nth bs j) ∨ (nth (gs ++ [(nth fs i, w1)]) j = (nth fs i, w1) ∧ nth (bs ++ [b1]) j = b1) := fun j hj => by
     by_cases h1 : j < gs.length
     ·exact .inl ⟨h1, by rw [nth_eq hj, nth_eq h1, List.getElem_append_left h1], by rw [nth_eq (by omega), nth_eq (by omega), List.getElem_append_left (by omega)]⟩
     ·have h2 : j = gs.length := by omega
      exact .inr ⟨by rw [nth_eq hj]; simp [h2], by rw [nth_eq (by omega)]; simp [h2, hbl]⟩
    have hfm' : ∀ j, j < (gs ++ [(nth fs i, w1)]).length → (nth (gs ++ [(nth fs i, w1)]) j).1 ∈ fs := fun j hj => by
     rcases hnth j hj with ⟨h1, h2, _⟩ | ⟨h2, _⟩
     ·rw [h2]; exact hfm j h1
     ·rw [h2]; exact hdm
    have hreps' : ∀ j, j < (gs ++ [(nth fs i, w1)]).length → RepR G1 (tys vs) (nth (gs ++ [(nth fs i, w1)]) j).2 (nth (gs ++ [(nth fs i, w1)]) j).1.kind (nth (bs ++ [b1]) j) := fun j hj => by
     rcases hnth j hj with ⟨h1, h2, h3⟩ | ⟨h2, h3⟩
     ·rw [h2, h3]; exact (hreps j h1).mono hle
     ·rw [h2, h3]; exact hrep
    have hrow1 : rows inR (gs.map fun p => p.1.tag) ++ [I (nth fs i).tag] = rows inR ((gs ++ [(nth fs i, w1)]).map fun p => p.1.tag) := by rw [List.map_append]; exact (rows_snoc inR _ (nth fs i).tag).symm
    have hrow2 : rows ptR bs ++ [Pt b1 0] = rows ptR (bs ++ [b1]) := (rows_snoc ptR bs b1).symm
    have hnd : V.tots (nd61 (gs ++ [(nth fs i, w1)])) = V.tots (nd61 gs) + (20 + w1.tot) := by simp [nd61, tots_app, V.tots, nd_tot]
    have hmt : (ct + 20) * (gs.length + 1) = (ct + 20) * gs.length + (ct + 20) := Nat.mul_succ _ _
    (refine k_any (s_any (id := 19) [.blk y9 (.cells (List.toArray [U8 (82 : Nat), S nm, .slice (some ⟨bf, of, none⟩) fs.length ca]) tTyG (0, 0))] (by intro y hy; simp only [List.mem_cons, List.not_mem_nil, or_false] at hy ⊢; simp [hy]) mixed ?_); refine jU 10 [0, 1, 2, 3, 5, 7] (bts 16 175) ?_ ?_; (focus (repeat' (exact trivial))); (refine jG (bts 16 239) 6 rfl (g_ld rfl rfl rfl) ?_); ((refine jG (bts 16 495) 8 rfl (g_iaddrN rfl rfl ?_) ?_; (focus ((omega); done)))); refine jU 7 [9] (bts 16 1007) ?_ ?_; (focus (repeat' (exact trivial))); ((refine jG (bts 16 2031) 10 rfl (g_ldRF rfl rfl (by assumption) ?_ rfl rfl) ?_; (focus ((omega); done)))); refine x_all [4, 11] (by kernel_rfl) (by decide) ⟨?_, ?_, trivial⟩; (focus (refine x_opg rfl rfl ?_; (refine jV (g_ld rfl rfl rfl) ?_); refine jK (bts 16 2047) ?_; refine jA 11 rfl ?_; (refine c_bsl rfl rfl rfl rfl rfl rfl fun _ => ?_); refine jK (bts 16 4095) ?_; refine jA 12 rfl ?_; ((refine c_apX rfl rfl rfl rfl rfl rfl rfl rfl rfl ?_ fun _ _ => ?_; (focus ((omega); done)))); refine jK (bts 16 8191) ?_; refine jU 1 [13, 14] (bts 16 32767) ?_ ?_; (focus (repeat' (exact trivial))); refine jA 15 rfl ?_; (refine c_st1 rfl rfl rfl rfl ?_); refine jK (bts 16 65535) ?_; refine x_done (by kernel_rfl) (k_bk ?_))); rotate_left 1; (focus (refine x_opg rfl rfl ?_; (refine c_bsl rfl rfl rfl rfl rfl rfl fun _ => ?_); refine jK (bts 16 4079) ?_; refine jA 4 rfl ?_; (refine jV (g_ld rfl rfl rfl) ?_); refine jK (bts 16 4095) ?_; refine jA 12 rfl ?_; ((refine c_apX rfl rfl rfl rfl rfl rfl rfl rfl rfl ?_ fun _ _ => ?_; (focus ((omega); done)))); refine jK (bts 16 8191) ?_; refine jU 1 [13, 14] (bts 16 32767) ?_ ?_; (focus (repeat' (exact trivial))); refine jA 15 rfl ?_; (refine c_st1 rfl rfl rfl rfl ?_); refine jK (bts 16 65535) ?_; refine x_done (by kernel_rfl) (k_bk ?_))); rotate_left 1)
    all_goals repeat' (first | refine jM ?_ | (refine k_op rfl ?_; first | refine c_st1 rfl rfl rfl rfl ?_ | refine jV (g_ld rfl rfl rfl) ?_ | refine c_bsl rfl rfl rfl rfl rfl rfl fun _ => ?_ | (refine c_apX rfl rfl rfl rfl rfl rfl rfl rfl rfl (by omega) fun _ _ => ?_)))
    all_goals
     rename_i _ y1 yc1 _ y2 yc2
     rw [hrow1, hrow2]
     exact k_rd (gs ++ [(nth fs i, w1)], bs ++ [b1], some ⟨y1, 0, none⟩, yc1, some ⟨y2, 0, none⟩, yc2, i + 1, q1 + 1, G1) ⟨⟨⟨hbl', hfm', hreps'⟩, hgl⟩, ⟨by dsimp only; rw [hl']; omega, by dsimp only; omega⟩, by dsimp only; rw [hl', hmt, hnd]; omega, by dsimp only; omega, by dsimp only; rw [hms]; omega⟩ (by dsimp only; omega) (by repeat' constructor) rfl (by rw [hl']; repeat (first | exact List.Sublist.refl _ | apply List.Sublist.cons_cons | apply List.Sublist.cons))
 ·repeat' (first | (refine jR ?_) | (refine k_op rfl ?_; first | refine jV (g_ld rfl rfl rfl) ?_ | refine jV (g_lenL rfl) ?_ | (refine jV (g_pickF rfl rfl rfl) ?_)) | (refine k_gf rfl rfl (dFf (by omega)) ?_) | (refine k_ff rfl rfl ?_))
  refine Nx.sealS (v := .slice a2 gs.length c2) fun G2 hG2 hs1 => ?_
  refine Nx.sealS (v := .slice a1 gs.length c1) fun G3 hG3 hs2 => ?_
  refine Nx.sealC (b := y11) fun G4 hG4 hsg => ?_
  exact k_rr (vs := [_]) rfl ⟨rfl, trivial⟩ rfl (by repeat (first | exact List.nil_sublist _ | apply List.Sublist.cons_cons)) ⟨hgq.trans ((hG2.trans hG3).trans hG4), .nd 82 [] 0 (nd61 gs), y11, q, rfl, .recd kd y11 ⟨82, nm, fs⟩ gs bs a1 a2 c1 c2 ⟨href.symm, rfl⟩ hsg (hs2.mono hG4) (hs1.mono (hG3.trans hG4)) hbl hfm (fun i hi => (hreps i hi).mono ((hG2.trans hG3).trans hG4)), by rw [nd_tot]; simp only [List.length_nil]; omega, by rw [V.out]; simp [outW], rfl, by omega, by omega⟩
end
theorem kind_ne' {ts : List Ty} {k : List UInt8} (h : kindIn ts k = true) : ∃ c r, k = c :: r := by
 cases k with
 | nil => unfold kindIn kindOk kOk at h; simp at h
 | cons c r => exact ⟨c, r, rfl⟩
def cpk : Nat → Int
 | 0 => 105
 | d + 1 => 8 * cpk d + 40
def ctt : Nat → Nat
 | 0 => 480
 | d + 1 => 8 * ctt d + 400
theorem cpk_le : ∀ d, d ≤ 4 → 0 ≤ cpk d ∧ cpk d ≤ 500000 ∧ ctt d ≤ 3000000 ∧ 105 ≤ cpk d ∧ 480 ≤ ctt d := by decide
theorem draw0 {u : Value} {vs : List TyX} (hw : SchW (tys vs)) (hu : u.oneCell' = true) : ∀ (n : Nat) {k : List UInt8} {deep : Int}, n ≤ 9 → deep ≤ 0 → (n : Int) - 900 ≤ deep → kindIn (tys vs) k = true → (∀ t, refT (tys vs) k = some t → endsN (tys vs) n t = true) → DrawC u vs k deep (15 + 10 * n) (300 + 20 * n) := by
 have hvl : vs.length ≤ 8 := by have := hw.len; unfold tys at this; simpa using this
 intro n
 induction n with
 | zero =>
  intro k deep _ hd hd2 hk he
  obtain ⟨c, r, rfl⟩ := kind_ne' hk
  have hkk := kindOk_kOk (kindIn_ok hk)
  simp only [List.length_cons] at hkk
  by_cases h1 : c.toNat = 91
  ·obtain rfl := u8_eq h1 (by decide)
   exact (dv_list (cp := 0) (ct := 0) (by omega) (by omega) (fun h => absurd h (by omega)) hu (by omega) (by omega)).le (by omega) (by omega)
  by_cases h2 : c.toNat = 63
  ·obtain rfl := u8_eq h2 (by decide)
   exact (dv_opt (cp := 0) (ct := 0) (by omega) (by omega) (fun h => absurd h (by omega)) hu (by omega) (by omega)).le (by omega) (by omega)
  have h91 : ¬ (c.toNat = 91 ∨ c.toNat = 63) := fun h => by rcases h with h | h <;> omega
  cases hr : refT (tys vs) (c :: r) with
  | some t => have := he t hr; simp [endsN] at this
  | none =>
   rcases plain_kinds hk h91 hr with e1 | e1 | e1
   ·rw [e1]; exact dv_num.le (by omega) (by omega)
   ·rw [e1]; exact dv_txt.le (by omega) (by omega)
   ·rw [e1]; exact dv_flag.le (by omega) (by omega)
 | succ n ih =>
  intro k deep hn hd hd2 hk he
  obtain ⟨c, r, rfl⟩ := kind_ne' hk
  have hkk := kindOk_kOk (kindIn_ok hk)
  have hkk1 := hkk.1
  simp only [List.length_cons] at hkk
  by_cases h1 : c.toNat = 91
  ·obtain rfl := u8_eq h1 (by decide)
   exact (dv_list (cp := 0) (ct := 0) (by omega) (by omega) (fun h => absurd h (by omega)) hu (by omega) (by omega)).le (by omega) (by omega)
  by_cases h2 : c.toNat = 63
  ·obtain rfl := u8_eq h2 (by decide)
   exact (dv_opt (cp := 0) (ct := 0) (by omega) (by omega) (fun h => absurd h (by omega)) hu (by omega) (by omega)).le (by omega) (by omega)
  have h91 : ¬ (c.toNat = 91 ∨ c.toNat = 63) := fun h => by rcases h with h | h <;> omega
  cases hr : refT (tys vs) (c :: r) with
  | none =>
   rcases plain_kinds hk h91 hr with e1 | e1 | e1
   ·rw [e1]; exact dv_num.le (by omega) (by omega)
   ·rw [e1]; exact dv_txt.le (by omega) (by omega)
   ·rw [e1]; exact dv_flag.le (by omega) (by omega)
  | some t =>
   obtain ⟨r', e⟩ := refT_64 hr
   simp only [List.cons.injEq] at e
   obtain ⟨rfl, rfl⟩ := e
   have href := refV_ty vs (64 :: r)
   rw [hr] at href
   rcases hrv : refV vs (64 :: r) with _ | ⟨⟨a, ca⟩, ⟨so, nm, fs⟩⟩
   ·rw [hrv] at href; cases href
   rw [hrv] at href
   obtain rfl := (Option.some.inj href).symm
   dsimp only at hr he
   have hTW := hw.ty _ (refT_mem hr)
   have h8 : fs.length ≤ 8 := hTW.len
   refine dv_typed ?_ (by omega)
   rcases hTW.sort with h3 | h3 | h3 <;> dsimp only at h3 <;> subst h3
   ·exact fun G r code p l g1 g2 g3 => ((dt_rec0 hrv (by omega) hkk1 (by simp only [List.length_cons]; omega) h8 (by omega)) G r code p l g1 g2 ⟨g3.1, by omega⟩).mono fun _ _ _ ⟨h6, w, b, q, h7, h8, h9, h10, h11, h12, h13⟩ => ⟨h6, w, b, q, h7, h8, by omega, h10, h11, h12, by omega⟩
   ·have h0 : 0 < fs.length := List.length_pos_iff.2 (hTW.ne (by simp))
    refine fun G r code p l g1 g2 g3 => ((dt_uni (cp := 15 + 10 * n) (ct := 300 + 20 * n) hrv (by omega) hkk1 (by simp only [List.length_cons]; omega) h0 h8 hw (by omega) (by omega) (fun d hdm hc => ?_) (by omega)) G r code p l g1 g2 ⟨g3.1, by omega⟩).mono fun _ _ _ ⟨h6, w, b, q, h7, h8, h9, h10, h11, h12, h13⟩ => ⟨h6, w, b, q, h7, h8, by omega, h10, h11, h12, by omega⟩
    rcases hc with hc | rfl
    ·omega
    refine ih (by omega) (by omega) (by omega) (kind_in hw (refT_mem hr) (by simp) hdm) fun t' ht' => ?_
    have := he _ hr
    rw [endsN, if_neg (by simp), kind0_nth] at this
    dsimp only at this
    rw [ht'] at this
    exact this
   ·have h0 : 0 < fs.length := List.length_pos_iff.2 (hTW.ne (by simp))
    exact fun G r code p l g1 g2 g3 => ((dt_enm hrv (by omega) hkk1 (by simp only [List.length_cons]; omega) h0 h8 hw) G r code p l g1 g2 ⟨g3.1, by omega⟩).mono fun _ _ _ ⟨h6, w, b, q, h7, h8, h9, h10, h11, h12, h13⟩ => ⟨h6, w, b, q, h7, h8, by omega, h10, h11, h12, by omega⟩
theorem draw_all {u : Value} {vs : List TyX} (hw : SchW (tys vs)) (hu : u.oneCell' = true) : ∀ (m : Nat) {k : List UInt8} {deep : Int}, m ≤ 4 → deep ≤ m → -800 ≤ deep → kindIn (tys vs) k = true → DrawC u vs k deep (cpk m) (ctt m) := by
 have hvl : vs.length ≤ 8 := by have := hw.len; unfold tys at this; simpa using this
 have hz : ∀ {k : List UInt8} {deep : Int}, deep ≤ 0 → -800 ≤ deep → kindIn (tys vs) k = true → DrawC u vs k deep 105 480 := fun {k deep} h1 h2 h3 => (draw0 hw hu ((tys vs).length + 1) (by have := hw.len; omega) h1 (by have := hw.len; omega) h3 (fun t ht => ends_of hw t ht)).le (by have := hw.len; omega) (by have := hw.len; omega)
 intro m
 induction m with
 | zero => intro k deep _ hd hd2 hk; exact hz hd hd2 hk
 | succ m ih =>
  intro k deep hm hd hd2 hk
  have hcm := cpk_le m (by omega)
  have e1 : cpk (m + 1) = 8 * cpk m + 40 := rfl
  have e2 : ctt (m + 1) = 8 * ctt m + 400 := rfl
  by_cases hd0 : deep ≤ 0
  ·exact (hz hd0 hd2 hk).le (by omega) (by omega)
  have hD : ∀ {k : List UInt8}, kindIn (tys vs) k = true → DrawC u vs k (deep - 1) (cpk m) (ctt m) := fun {k} hk => ih (by omega) (by omega) (by omega) hk
  obtain ⟨c, r, rfl⟩ := kind_ne' hk
  have hkk := kindOk_kOk (kindIn_ok hk)
  have hkk1 := hkk.1
  simp only [List.length_cons] at hkk
  by_cases h1 : c.toNat = 91
  ·obtain rfl := u8_eq h1 (by decide)
   exact (dv_list (by omega) (by omega) (fun _ => hD (kindIn_tail (.inl rfl) hk)) hu (by omega) (by omega)).le (by omega) (by omega)
  by_cases h2 : c.toNat = 63
  ·obtain rfl := u8_eq h2 (by decide)
   exact (dv_opt (by omega) (by omega) (fun _ => hD (kindIn_tail (.inr rfl) hk)) hu (by omega) (by omega)).le (by omega) (by omega)
  have h91 : ¬ (c.toNat = 91 ∨ c.toNat = 63) := fun h => by rcases h with h | h <;> omega
  cases hr : refT (tys vs) (c :: r) with
  | none =>
   rcases plain_kinds hk h91 hr with e1 | e1 | e1
   ·rw [e1]; exact dv_num.le (by omega) (by omega)
   ·rw [e1]; exact dv_txt.le (by omega) (by omega)
   ·rw [e1]; exact dv_flag.le (by omega) (by omega)
  | some t =>
   obtain ⟨r', e⟩ := refT_64 hr
   simp only [List.cons.injEq] at e
   obtain ⟨rfl, rfl⟩ := e
   have href := refV_ty vs (64 :: r)
   rw [hr] at href
   rcases hrv : refV vs (64 :: r) with _ | ⟨⟨a, ca⟩, ⟨so, nm, fs⟩⟩
   ·rw [hrv] at href; cases href
   rw [hrv] at href
   obtain rfl := (Option.some.inj href).symm
   dsimp only at hr
   have hTW := hw.ty _ (refT_mem hr)
   have h8 : fs.length ≤ 8 := hTW.len
   refine dv_typed ?_ (by omega)
   rcases hTW.sort with h3 | h3 | h3 <;> dsimp only at h3 <;> subst h3
   ·exact fun G r code p l g1 g2 g3 => ((dt_rec hrv (by omega) hkk1 (by simp only [List.length_cons]; omega) h8 hw (by omega) (by omega) (fun d hdm => hD (kind_in hw (refT_mem hr) (by simp) hdm)) (by omega)) G r code p l g1 g2 ⟨g3.1, by omega⟩).mono fun _ _ _ ⟨h6, w, b, q, h7, h8, h9, h10, h11, h12, h13⟩ => ⟨h6, w, b, q, h7, h8, by omega, h10, h11, h12, by omega⟩
   ·have h0 : 0 < fs.length := List.length_pos_iff.2 (hTW.ne (by simp))
    exact fun G r code p l g1 g2 g3 => ((dt_uni hrv (by omega) hkk1 (by simp only [List.length_cons]; omega) h0 h8 hw (by omega) (by omega) (fun d hdm _ => hD (kind_in hw (refT_mem hr) (by simp) hdm)) (by omega)) G r code p l g1 g2 ⟨g3.1, by omega⟩).mono fun _ _ _ ⟨h6, w, b, q, h7, h8, h9, h10, h11, h12, h13⟩ => ⟨h6, w, b, q, h7, h8, by omega, h10, h11, h12, by omega⟩
   ·have h0 : 0 < fs.length := List.length_pos_iff.2 (hTW.ne (by simp))
    exact fun G r code p l g1 g2 g3 => ((dt_enm hrv (by omega) hkk1 (by simp only [List.length_cons]; omega) h0 h8 hw) G r code p l g1 g2 ⟨g3.1, by omega⟩).mono fun _ _ _ ⟨h6, w, b, q, h7, h8, h9, h10, h11, h12, h13⟩ => ⟨h6, w, b, q, h7, h8, by omega, h10, h11, h12, by omega⟩
theorem c_l91Schema {r : Nat} {code : Value} {p : Int} {l : List UInt8} (hp : 0 ≤ p ∧ p ≤ 600000000000) (hs : SlV G code 1 l.length (u8s l)) :
  FnG Tryz.prog 23 [Pt r 0] G [rdO r code p tRdr] (fun v L' => ∃ x q, v = S x ∧ x.length ≤ 20000 ∧ L' = [rdO r code q tRdr] ∧ p ≤ q ∧ q ≤ p + 700) := by
 refine jH [(0, _)] Tryz.func23 Tryz.ntmps23 fun B hB hW => ?_
 repeat' (first | (refine run (t := tb) 400 rfl ?_ ?_; (focus (repeat' (first | exact trivial | apply And.intro | omega | (simp only [List.length_append, List.length_cons, List.length_nil, Int.toNat_natCast]; omega))))) | (refine k_op rfl ?_; first | refine c_bsl rfl rfl rfl rfl rfl rfl fun _ => ?_ | (refine jV (g_iaddr rfl rfl (by omega)) ?_) | (refine c_ldMS 64 rfl rfl rfl ?_ rfl (fun xs hxs => ?_); (focus ((simp only [List.length_append, List.length_cons, List.length_nil, List.length_take]; omega); done))) | (refine jV (g_pickT rfl rfl rfl) ?_) | (refine jV (g_pickF rfl rfl rfl) ?_) | (refine c_m1g rfl rfl rfl (c_l91Type ?_ (by (repeat (assumption)); done) ?_ ?_) rfl ?_; (focus ((omega); done)); (focus ((first | assumption | (simp; done)); done)); (focus ((simp; done); done)); rintro _ _ ⟨ty, q1, rfl, hty, hty1, rfl, hq1, hq2⟩; dsimp only [zA, fA]) | (refine c_m1g rfl rfl rfl (c_pick ?_ (by (repeat (assumption)); done)) rfl ?_; (focus ((first | omega | (simp; omega)); done)); rintro _ _ ⟨k, rfl, rfl, hk0, hk1⟩; dsimp only [zA, fA]) | (refine c_rt rfl rfl rfl (c_SchemaOkS ?_) rfl ?_; (focus ((simp; omega); done)))) | refine k_gb rfl rfl (fun _ => ?_) (fun _ => ?_) | (refine k_ff rfl rfl ?_) | refine k_if rfl (fun _ => ?_) (fun _ => ?_))
 all_goals (first | exact k_rr (vs := [_]) rfl ⟨rfl, trivial⟩ rfl (by repeat (first | exact List.nil_sublist _ | apply List.Sublist.cons_cons)) ⟨rfl, _, _, rfl, by (simp only [List.length_append, List.length_cons, List.length_nil, List.length_take, List.length_drop]; omega), rfl, by omega, by omega⟩ | skip)
 all_goals simp only [List.length_append, List.length_cons, List.length_nil] at hk1
 all_goals (refine k_any (s_any (id := 6) [] (fun _ h => absurd h (by simp)) mixed ?_); refine jU 7 [0, 1, 2, 4, 9, 10, 11, 12] (bts 15 7703) ?_ ?_; (focus (repeat' (first | exact trivial | apply And.intro | omega | (simp only [List.length_append, List.length_cons, List.length_nil, Int.toNat_natCast]; omega)))); refine x_all [3, 5] (by kernel_rfl) (by decide) ⟨?_, ?_, trivial⟩; (focus (refine x_opg rfl rfl ?_; (refine c_bsl rfl rfl rfl rfl rfl rfl fun _ => ?_); refine jK (bts 15 7711) ?_; refine jA 5 rfl ?_; ((refine c_m1g rfl rfl rfl (c_pick ?_ (by (repeat (assumption)); done)) rfl ?_; (focus ((omega); done)); rintro _ _ ⟨k, rfl, rfl, hk0, hk1⟩; dsimp only [zA, fA])); refine jK (bts 15 7743) ?_; ((refine jG (bts 15 7807) 6 rfl (g_iaddr rfl rfl ?_) ?_; (focus ((omega); done)))); refine jA 7 rfl ?_; ((refine c_ldMS 64 rfl rfl rfl ?_ rfl (fun xs hxs => ?_); (focus ((simp only [List.length_append, List.length_cons, List.length_nil, List.length_take]; omega); done)))); refine jK (bts 15 7935) ?_; refine jU 0 [8, 13, 14] (bts 15 32767) ?_ ?_; (focus (repeat' (first | exact trivial | apply And.intro | (simp only [List.length_append, List.length_cons, List.length_nil, List.length_take, List.length_drop]; omega)))); refine x_done (by kernel_rfl) (k_bk ?_))); rotate_left 1; (focus (refine x_opg rfl rfl ?_; ((refine c_m1g rfl rfl rfl (c_pick ?_ (by (repeat (assumption)); done)) rfl ?_; (focus ((omega); done)); rintro _ _ ⟨k, rfl, rfl, hk0, hk1⟩; dsimp only [zA, fA])); refine jK (bts 15 7735) ?_; refine jA 3 rfl ?_; (refine c_bsl rfl rfl rfl rfl rfl rfl fun _ => ?_); refine jK (bts 15 7743) ?_; ((refine jG (bts 15 7807) 6 rfl (g_iaddr rfl rfl ?_) ?_; (focus ((omega); done)))); refine jA 7 rfl ?_; ((refine c_ldMS 64 rfl rfl rfl ?_ rfl (fun xs hxs => ?_); (focus ((simp only [List.length_append, List.length_cons, List.length_nil, List.length_take]; omega); done)))); refine jK (bts 15 7935) ?_; refine jU 0 [8, 13, 14] (bts 15 32767) ?_ ?_; (focus (repeat' (first | exact trivial | apply And.intro | (simp only [List.length_append, List.length_cons, List.length_nil, List.length_take, List.length_drop]; omega)))); refine x_done (by kernel_rfl) (k_bk ?_))); rotate_left 1)
 all_goals repeat' (refine jR ?_)
 all_goals exact k_rr (vs := [_]) rfl ⟨rfl, trivial⟩ rfl (by repeat (first | exact List.nil_sublist _ | apply List.Sublist.cons_cons | apply List.Sublist.cons)) ⟨rfl, _, _, rfl, by (simp only [List.length_append, List.length_cons, List.length_nil, List.length_take, List.length_drop]; omega), rfl, by omega, by omega⟩
theorem c_l91Some {r : Nat} {code : Value} {p : Int} {l s : List UInt8} (hp : 0 ≤ p ∧ p ≤ 600000000000) (hs : SlV G code 1 l.length (u8s l)) (hsl : s.length ≤ 10000000) :
  FnG Tryz.prog 24 [Pt r 0, S s] G [rdO r code p tRdr] (fun v L' => ∃ x q, v = S x ∧ x.length ≤ 400 ∧ L' = [rdO r code q tRdr] ∧ p ≤ q ∧ q ≤ p + 20) := by
 have cx_lkg : ∀ {k : List UInt8} (G : Gh), k.length ≤ 1000 → FnS Tryz.prog 27 [S s, S k] G (fun v _ => ∃ u b, v = Tu [u, Bo b]) := fun {k} G h => (c_l3Kind (G := G) (s := s) (k := k) (by omega) (by omega)).mono fun v G' L' ⟨h1, h2, u, vs, h3, _⟩ => ⟨h1, h2, u, _, h3⟩
 refine jB (Post := fun v G' L' => G' = G ∧ _) [(0, _), (1, _)] Tryz.func24 Tryz.ntmps24 fun B hok hB hW => ?_
 repeat' (first | (refine jR ?_) | (refine k_op rfl ?_; first | refine c_bsl rfl rfl rfl rfl rfl rfl fun _ => ?_ | (refine jV (g_iaddr rfl rfl (by omega)) ?_) | (refine c_ldMS 64 rfl rfl rfl ?_ rfl (fun xs hxs => ?_); (focus ((simp only [List.length_append, List.length_cons, List.length_nil, List.length_take]; omega); done))) | (refine c_m1g rfl rfl rfl (c_pick ?_ (by (repeat (assumption)); done)) rfl ?_; (focus ((omega); done)); rintro _ _ ⟨k, rfl, rfl, hk0, hk1⟩; dsimp only [zA, fA]) | (refine c_m1g rfl rfl rfl (c_l91Kind ?_ (by (repeat (assumption)); done)) rfl ?_; (focus ((omega); done)); rintro _ _ ⟨kd, q1, rfl, hkd, rfl, hq1, hq2⟩; dsimp only [zA, fA]) | (refine c_fns rfl rfl rfl ((cx_lkg _) (by omega)) rfl ?_; rintro _ G hle ⟨u1, b1, rfl⟩; skip)) | refine k_if rfl (fun _ => ?_) (fun _ => ?_) | refine k_cd rfl (fun _ => ?_) (fun _ => ?_))
 all_goals refine Nx.base hok hB ?_
 all_goals exact k_rr (vs := [_]) rfl ⟨rfl, trivial⟩ rfl (by repeat (first | exact List.Sublist.refl _ | exact List.nil_sublist _ | apply List.Sublist.cons_cons)) ⟨rfl, _, _, rfl, by (first | omega | (simp only [List.length_append, List.length_cons, List.length_nil, List.length_take, List.length_drop]; omega)), rfl, by omega, by omega⟩
theorem c_l91Of {r : Nat} {code : Value} {p : Int} {l s k : List UInt8} (hp : 0 ≤ p ∧ p ≤ 500000000000) (hs : SlV G code 1 l.length (u8s l)) (hsl : s.length ≤ 10000000) (hkl : k.length ≤ 1000) :
  FnG Tryz.prog 46 [Pt r 0, S s, S k] G [rdO r code p tRdr] (fun v L' => ∃ x q, v = S x ∧ x.length ≤ 20000 ∧ L' = [rdO r code q tRdr] ∧ p ≤ q ∧ q ≤ p + 3000000) := by
 by_cases hk : kindS s k = true
 case neg =>
  have hk2 : kindS s k = false := by simpa using hk
  have cx_lk1 : ∀ G, FnS Tryz.prog 27 [S s, S k] G (fun v _ => ∃ u, v = Tu [u, Bo false]) := fun G => by
   refine (c_l3Kind (G := G) (s := s) (k := k) (by omega) (by omega)).mono ?_
   rintro v G' L' ⟨h1, h2, u, vs, rfl, _⟩
   exact ⟨h1, h2, u, by rw [hk2]⟩
  refine jB (Post := fun v G' L' => G' = G ∧ _) [(0, _), (1, _), (2, _)] Tryz.func46 Tryz.ntmps46 fun B hok hB hW => ?_
  repeat' (first | (refine jR ?_) | (refine k_op rfl ?_; (refine c_fns rfl rfl rfl (cx_lk1 _) rfl ?_; rintro _ G hle ⟨u1, rfl⟩; skip)) | (refine k_tt rfl rfl ?_))
  all_goals refine Nx.base hok hB ?_
  all_goals exact k_rr (vs := [_]) rfl ⟨rfl, trivial⟩ rfl sRr ⟨rfl, _, _, rfl, by (simp only [List.length_append, List.length_cons, List.length_nil, List.length_take, List.length_drop]; omega), rfl, by omega, by omega⟩
 obtain ⟨ts, hsc, hki, hw⟩ := kindS_some2 hk
 have cx_lka : ∀ G, FnS Tryz.prog 27 [S s, S k] G (fun v G' => ∃ a c vs, v = Tu [.slice a vs.length c, Bo true] ∧ SchR G' (.slice a vs.length c) vs ∧ tys vs = ts) := fun G => by
  refine (c_l3Kind (G := G) (s := s) (k := k) (by omega) (by omega)).mono ?_
  rintro v G' L' ⟨h1, h2, u, vs, rfl, h4, _, h6⟩
  obtain ⟨_, ⟨rfl, h0⟩ | ⟨b, o, cap, rfl, _, _⟩⟩ := h4.sl
  ·exact ⟨h1, h2, none, 0, vs, by rw [hk, h0], by rw [h0]; exact h4, h6 ts hsc hki⟩
  ·exact ⟨h1, h2, _, cap, vs, by rw [hk], h4, h6 ts hsc hki⟩
 refine jB (Post := fun v G' L' => G' = G ∧ _) [(0, _), (1, _), (2, _)] Tryz.func46 Tryz.ntmps46 fun B hok hB hW => ?_
 repeat' (first | (refine jR ?_) | (refine k_op rfl ?_; (refine c_fns rfl rfl rfl (cx_lka _) rfl ?_; rintro _ G hle ⟨av1, cv1, vs1, rfl, hR1, hT1⟩; skip)) | (refine k_ff rfl rfl ?_))
 subst hT1
 have hg0 := hle
 have hu1 := hR1.sl.one
 have cx_dv := fun {p : Int} (hp : 0 ≤ p ∧ p + cpk 4 ≤ 600000000000) => draw_all hw hu1 4 (k := k) (deep := 4) (by omega) (by omega) (by omega) hki G r code p l hR1 (hs.mono hle) hp
 have hc4 : cpk 4 = 453480 := by decide
 have ht4 : ctt 4 = 2200080 := by decide
 rw [hc4, ht4] at cx_dv
 repeat' ((refine k_op rfl ?_; (refine c_m1s rfl rfl rfl (cx_dv (by omega)) rfl ?_; rintro _ G1 _ hle ⟨w1, b1, q1, rfl, hrep, htot, hone, rfl, hq1, hq2⟩; dsimp only [zA, fA]; skip)))
 have hg1 := hle
 have hob := outR hw hrep
 unfold OutB at hob
 have cx_out := c_outS hw hrep (by omega)
 repeat' (first | (refine jR ?_) | (refine k_op rfl ?_; (refine c_rt rfl rfl rfl cx_out rfl ?_)))
 refine k_loop (ι := List UInt8 × Int × Int × Gh) (fun j => Gh.le G1 j.2.2.2 ∧ (0 ≤ j.2.1 ∧ j.2.1 ≤ 3) ∧ (1 ≤ j.1.length ∧ j.1.length ≤ 2 * ctt (j.2.1.toNat + 1)) ∧ p ≤ j.2.2.1 ∧ j.2.2.1 ≤ p + 500000 * (4 - j.2.1)) (fun j => [(0, Pt r 0), (2, S k), (7, .slice av1 vs1.length cv1), (9, S j.1), (10, I j.2.1)]) (fun j => j.2.2.2) (fun j => [rdO r code j.2.2.1 tRdr]) (fun j => j.2.1.toNat) (w1.out, 3, q1, G1) ?_ (by repeat' constructor) rfl sRr (fun j Hj => ?_)
 ·refine ⟨Gh.le.refl _, by dsimp only; omega, ⟨hone, ?_⟩, by dsimp only; omega, by dsimp only; omega⟩
  show w1.out.length ≤ 2 * ctt 4
  omega
 obtain ⟨t, d, q, Gq⟩ := j
 dsimp only at Hj ⊢
 obtain ⟨hgq, hd, ⟨ht1, ht2⟩, hq3, hq4⟩ := Hj
 have hs2 := hs.mono ((hg0.trans hg1).trans hgq)
 clear cx_dv cx_out hrep
 by_cases hgo : 150 < t.length ∧ 0 < d
 ·obtain ⟨hgo1, hgo2⟩ := hgo
  have hcm := cpk_le d.toNat (by omega)
  have cx_dv := fun {p : Int} (hp : 0 ≤ p ∧ p + 500000 ≤ 600000000000) => ((draw_all hw hu1 d.toNat (k := k) (deep := d) (by omega) (by omega) (by omega) hki).le hcm.2.1 (Nat.le_refl _)) Gq r code p l (hR1.mono (hg1.trans hgq)) hs2 hp
  repeat' (first | (refine jR ?_) | (refine k_op rfl ?_; first | (refine jV (g_pickT rfl rfl rfl) ?_) | (refine c_m1s rfl rfl rfl (cx_dv (by omega)) rfl ?_; rintro _ G1 _ hle ⟨w1, b1, q1, rfl, hrep, htot, hone, rfl, hq1, hq2⟩; dsimp only [zA, fA]; skip)) | (refine k_gt rfl rfl (dTt (by omega)) ?_) | (refine k_tt rfl (dTt ‹_›) ?_))
  have hob := outR hw hrep
  unfold OutB at hob
  have cx_out := c_outS hw hrep (by omega)
  have e : (d - 1).toNat + 1 = d.toNat := by omega
  repeat' (first | refine jM ?_ | (refine k_op rfl ?_; (refine c_rt rfl rfl rfl cx_out rfl ?_)))
  exact k_rd (w1.out, d - 1, q1, G1) ⟨hgq.trans hle, by dsimp only; omega, ⟨hone, by dsimp only; rw [e]; omega⟩, by dsimp only; omega, by dsimp only; omega⟩ (by dsimp only; omega) (by repeat' constructor) rfl sRr
 ·have hx : t.length ≤ 150 ∨ d ≤ 0 := by omega
  have hl : t.length ≤ 8480 := by
   rcases hx with hx | hx
   ·omega
   ·have e : d = 0 := by omega
    subst e
    have : ctt (Int.toNat 0 + 1) = 4240 := by decide
    omega
  repeat' (first | (refine jR ?_) | (refine k_op rfl ?_; first | (refine jV (g_pickT rfl rfl rfl) ?_) | (refine jV (g_pickF rfl rfl rfl) ?_) | (refine c_m1g rfl rfl rfl (c_pick ?_ (by (repeat (assumption)); done)) rfl ?_; (focus ((omega); done)); rintro _ _ ⟨k, rfl, rfl, hk0, hk1⟩; dsimp only [zA, fA])) | refine k_g rfl rfl (fun _ => ?_) (fun _ => ?_) | (refine k_ff rfl (by first | rfl | (refine decide_eq_false ?_; (omega))) ?_) | refine k_if rfl (fun _ => ?_) (fun _ => ?_))
  all_goals refine Nx.base hok hB ?_
  all_goals (first | exact k_rr (vs := [_]) rfl ⟨rfl, trivial⟩ rfl sRr ⟨rfl, _, _, rfl, by (omega), rfl, by omega, by omega⟩ | skip)
  all_goals (refine k_any (s_any (id := 11) [] (fun _ h => absurd h (by simp)) mixed ?_); refine jU 7 [0, 1, 2, 4, 9, 10, 11, 12] (bts 15 7703) ?_ ?_; (focus (repeat' (first | exact trivial | apply And.intro | omega))); refine x_all [3, 5] (by kernel_rfl) (by decide) ⟨?_, ?_, trivial⟩; (focus (refine x_opg rfl rfl ?_; (refine c_bsl rfl rfl rfl rfl rfl rfl fun _ => ?_); refine jK (bts 15 7711) ?_; refine jA 5 rfl ?_; ((refine c_m1g rfl rfl rfl (c_pick ?_ (by (repeat (assumption)); done)) rfl ?_; (focus ((omega); done)); rintro _ _ ⟨k, rfl, rfl, hk0, hk1⟩; dsimp only [zA, fA])); refine jK (bts 15 7743) ?_; ((refine jG (bts 15 7807) 6 rfl (g_iaddr rfl rfl ?_) ?_; (focus ((omega); done)))); refine jA 7 rfl ?_; ((refine c_ldMS 64 rfl rfl rfl ?_ rfl (fun xs hxs => ?_); (focus ((simp only [List.length_append, List.length_cons, List.length_nil, List.length_take]; omega); done)))); refine jK (bts 15 7935) ?_; refine jU 0 [8, 13, 14] (bts 15 32767) ?_ ?_; (focus (repeat' (first | exact trivial | apply And.intro | (simp only [List.length_append, List.length_cons, List.length_nil, List.length_take, List.length_drop]; omega)))); refine x_done (by kernel_rfl) (k_bk ?_))); rotate_left 1; (focus (refine x_opg rfl rfl ?_; ((refine c_m1g rfl rfl rfl (c_pick ?_ (by (repeat (assumption)); done)) rfl ?_; (focus ((omega); done)); rintro _ _ ⟨k, rfl, rfl, hk0, hk1⟩; dsimp only [zA, fA])); refine jK (bts 15 7735) ?_; refine jA 3 rfl ?_; (refine c_bsl rfl rfl rfl rfl rfl rfl fun _ => ?_); refine jK (bts 15 7743) ?_; ((refine jG (bts 15 7807) 6 rfl (g_iaddr rfl rfl ?_) ?_; (focus ((omega); done)))); refine jA 7 rfl ?_; ((refine c_ldMS 64 rfl rfl rfl ?_ rfl (fun xs hxs => ?_); (focus ((simp only [List.length_append, List.length_cons, List.length_nil, List.length_take]; omega); done)))); refine jK (bts 15 7935) ?_; refine jU 0 [8, 13, 14] (bts 15 32767) ?_ ?_; (focus (repeat' (first | exact trivial | apply And.intro | (simp only [List.length_append, List.length_cons, List.length_nil, List.length_take, List.length_drop]; omega)))); refine x_done (by kernel_rfl) (k_bk ?_))); rotate_left 1)
  all_goals repeat' (refine jR ?_)
  all_goals exact k_rr (vs := [_]) rfl ⟨rfl, trivial⟩ rfl (by repeat (first | exact List.Sublist.refl _ | exact List.nil_sublist _ | apply List.Sublist.cons_cons | apply List.Sublist.cons)) ⟨rfl, _, _, rfl, by (simp only [List.length_append, List.length_cons, List.length_nil, List.length_take, List.length_drop]; omega), rfl, by omega, by omega⟩
theorem c_l91Three {r : Nat} {code : Value} {p : Int} {l : List UInt8} (hp : 0 ≤ p ∧ p ≤ 400000000000) (hs : SlV G code 1 l.length (u8s l)) :
  FnG Tryz.prog 39 [Pt r 0] G [rdO r code p tRdr] (fun v L' => ∃ s k x q, v = Tu [S s, S k, S x] ∧ (s.length ≤ 20000 ∧ k.length ≤ 400 ∧ x.length ≤ 20000) ∧ L' = [rdO r code q tRdr] ∧ p ≤ q ∧ q ≤ p + 4000000) := by
 refine jH [(0, _)] Tryz.func39 Tryz.ntmps39 fun B hB hW => ?_
 repeat' (first | (refine jR ?_) | (refine k_op rfl ?_; first | (refine c_m1g rfl rfl rfl (c_l91Schema ?_ (by (repeat (assumption)); done)) rfl ?_; (focus ((omega); done)); rintro _ _ ⟨sc, q1, rfl, hsc, rfl, hq1, hq2⟩; dsimp only [zA, fA]) | (refine c_m1g rfl rfl rfl (c_l91Some ?_ (by (repeat (assumption)); done) ?_) rfl ?_; (focus ((omega); done)); (focus ((omega); done)); rintro _ _ ⟨kd, q1, rfl, hkd, rfl, hq1, hq2⟩; dsimp only [zA, fA]) | (refine c_m1g rfl rfl rfl (c_l91Of ?_ (by (repeat (assumption)); done) ?_ ?_) rfl ?_; (focus ((omega); done)); (focus ((omega); done)); (focus ((omega); done)); rintro _ _ ⟨tx, q1, rfl, htx, rfl, hq1, hq2⟩; dsimp only [zA, fA])))
 exact k_rr (vs := [_, _, _]) rfl ⟨rfl, rfl, rfl, trivial⟩ rfl sRr ⟨rfl, _, _, _, _, rfl, ⟨by omega, by omega, by omega⟩, rfl, by omega, by omega⟩
end Go.E
namespace Go.E
set_option maxRecDepth 20000
set_option maxHeartbeats 2000000
open Go.Proofs
variable {G : Gh}
theorem typed_none {ts : List Ty} {f : List UInt8 → List UInt8 → Option (V × List UInt8)} {t : Ty} {e : UInt8} {s : List UInt8} (h : t.sort = 82 ∧ ¬ e.toNat = 123 ∨ t.sort = 69 ∧ ¬ e.toNat = 35 ∨ t.sort = 85 ∧ ¬ e.toNat = 60) : rdTyped ts f t (e :: s) = none := by
 unfold rdTyped
 dsimp only
 rcases h with ⟨h1, h2⟩ | ⟨h1, h2⟩ | ⟨h1, h2⟩
 ·rw [if_pos h1, if_neg h2]
 ·rw [if_neg (by omega), if_pos h1, if_neg h2]
 ·rw [if_neg (by omega), if_neg (by omega), if_neg h2]
theorem c_namX {n : Nat} {u : Value} {vs : List TyX} {x : TyX} {k s : List UInt8} {e : UInt8} (hu : u.oneCell' = true) (cx_rf : PuG Tryz.prog 63 [u, S k] G (· = Tu [Ag [U8 x.2.sort, S x.2.name, slX x], Bo true])) (hso : x.2.sort = 82 ∧ ¬ e.toNat = 123 ∨ x.2.sort = 69 ∧ ¬ e.toNat = 35 ∨ x.2.sort = 85 ∧ ¬ e.toNat = 60) (hs : s.length ≤ 1000) (hn : n ≤ 1000) :
  FnS Tryz.prog 75 [Ag [u], S (e :: s), S k, I (n + 1 : Nat)] G (ReadP (tys vs) (rdTyped (tys vs) (rd (tys vs) n) x.2 (e :: s)) k) := by
 have hno := typed_none (ts := tys vs) (f := rd (tys vs) n) (s := s) hso
 have he0 : bt (e :: s) (Int.toNat 0) = e.toNat := bt_zero e s
 have hel : (e :: s).length = s.length + 1 := rfl
 rcases hso with ⟨h1, h2⟩ | ⟨h1, h2⟩ | ⟨h1, h2⟩
 all_goals
  have h1' : (x.2.sort : Int) = 82 ∨ (x.2.sort : Int) = 69 ∨ (x.2.sort : Int) = 85 := by omega
  refine jB [(0, _), (1, _), (2, _), (3, _)] Tryz.func75 Tryz.ntmps75 fun B hok hB hW => ?_
  repeat' (first | refine jM ?_ | (refine k_op rfl ?_; first | refine c_bx rfl rfl rfl fun _ => ?_ | refine jV (g_ld rfl rfl rfl) ?_ | refine c_al rfl rfl fun _ => ?_ | refine c_stA rfl rfl rfl rfl rfl rfl ?_ | (refine jV (g_pickT rfl rfl rfl) ?_) | (refine jV (g_pickF rfl rfl rfl) ?_) | (refine c_rt rfl rfl rfl cx_rf rfl ?_)) | (refine k_gt rfl rfl (dTt (by omega)) ?_) | (refine k_gf rfl rfl (dFf (by omega)) ?_) | (refine k_ff rfl (by first | rfl | (refine decide_eq_false ?_; (omega))) ?_))
  all_goals refine jZ (vs := [_, _, _]) rfl ⟨rfl, rfl, rfl, trivial⟩ rfl ⟨Gh.le.refl _, rfl, ?_⟩
  all_goals (rw [oneOf_three]; exact ⟨_, _, _, rfl, fun h => (by cases h), fun _ => hno⟩)
theorem c_namR {n : Nat} {u : Value} {vs : List TyX} {x : TyX} {k s : List UInt8} (hR : ReadC n u vs) (h : SchR G u vs) (hw : SchW (tys vs)) (hx : x ∈ vs) (hrf : refT (tys vs) k = some x.2) (cx_rf : PuG Tryz.prog 63 [u, S k] G (· = Tu [Ag [U8 x.2.sort, S x.2.name, slX x], Bo true])) (hso : x.2.sort = 82) (hs : s.length ≤ 999) (hn : n ≤ 1000) (hkl : k.length ≤ 1000) :
  FnS Tryz.prog 75 [Ag [u], S (123 :: s), S k, I (n + 1 : Nat)] G (ReadP (tys vs) (rdTyped (tys vs) (rd (tys vs) n) x.2 (123 :: s)) k) := by
 have cx_rc := c_recordS (s := s) hR h hw hx hrf hso (by omega) hn hkl
 have he0 : bt (123 :: s) (Int.toNat 0) = 123 := bt_zero 123 s
 have hel : (123 :: s).length = s.length + 1 := rfl
 have h1' : (x.2.sort : Int) = 82 := by omega
 refine jB [(0, _), (1, _), (2, _), (3, _)] Tryz.func75 Tryz.ntmps75 fun B hok hB hW => ?_
 repeat' (first | refine jM ?_ | (refine k_op rfl ?_; first | refine c_bx rfl rfl rfl fun _ => ?_ | refine jV (g_ld rfl rfl rfl) ?_ | refine c_al rfl rfl fun _ => ?_ | refine c_stA rfl rfl rfl rfl rfl rfl ?_ | (refine jV (g_pickT rfl rfl rfl) ?_) | (refine c_rt rfl rfl rfl cx_rf rfl ?_)) | (refine k_gt rfl rfl (dTt ‹_›) ?_) | (refine k_tt rfl rfl ?_) | (refine k_any (s_any (id := 3) _ (fun _ h => h) mixed ?_); refine jU 9 [1, 2, 3, 5] (bts 13 46) ?_ ?_; (focus (repeat' (first | exact trivial | apply And.intro | omega))); (refine jG (bts 13 47) 0 rfl (g_ldA rfl rfl rfl rfl) ?_); (refine jG (bts 13 63) 4 rfl (g_ldA rfl rfl rfl rfl) ?_); refine jA 6 rfl ?_; (refine c_fns rfl rfl rfl cx_rc rfl ?_; rintro _ G hle ⟨q1, r1, ok1, rfl, hyes, hno⟩; skip); refine jS (bts 13 127) ?_; refine jT 0 [7, 8, 9, 10, 11, 12] (bts 13 8191) ?_; refine x_done (by kernel_rfl) (k_bk ?_)))
 refine jZ (vs := [_, _, _]) rfl ⟨rfl, rfl, rfl, trivial⟩ rfl ⟨hle, rfl, ?_⟩
 rw [oneOf_three]
 exact ⟨_, _, _, rfl, hyes, hno⟩
theorem c_namE {n : Nat} {u : Value} {vs : List TyX} {x : TyX} {k s : List UInt8} (h : SchR G u vs) (hw : SchW (tys vs)) (hx : x ∈ vs) (hrf : refT (tys vs) k = some x.2) (cx_rf : PuG Tryz.prog 63 [u, S k] G (· = Tu [Ag [U8 x.2.sort, S x.2.name, slX x], Bo true])) (hso : x.2.sort = 69) (hs : s.length ≤ 999) (hn : n ≤ 1000) :
  FnS Tryz.prog 75 [Ag [u], S (35 :: s), S k, I (n + 1 : Nat)] G (ReadP (tys vs) (rdTyped (tys vs) (rd (tys vs) n) x.2 (35 :: s)) k) := by
 have hxt : x.2 ∈ tys vs := List.mem_map_of_mem hx
 have hTW := hw.ty _ hxt
 have hfl := hTW.len
 have cx_tg := c_tag (G := G) (u := u) (x := x) (s := s) (by omega) h.sl.one (h.fl x hx) (by omega)
 have he0 : bt (35 :: s) (Int.toNat 0) = 35 := bt_zero 35 s
 have hel : (35 :: s).length = s.length + 1 := rfl
 have h1' : (x.2.sort : Int) = 69 := by omega
 have hRT : rdTyped (tys vs) (rd (tys vs) n) x.2 (35 :: s) = match rdNum 200 s with
   | none => none
   | some (n, r) => if (fldT x.2.fields n).isSome = true then some (.nd 69 [] n [], r) else none := by
  unfold rdTyped
  dsimp only
  rw [if_neg (by omega), if_pos hso, if_pos (show (35 : UInt8).toNat = 35 from rfl)]
  cases rdNum 200 s <;> rfl
 unfold rdNum at hRT
 simp only [tyF] at cx_tg
 refine jB [(0, _), (1, _), (2, _), (3, _)] Tryz.func75 Tryz.ntmps75 fun B hok hB hW => ?_
 repeat' (first | refine jM ?_ | (refine k_op rfl ?_; first | refine c_bx rfl rfl rfl fun _ => ?_ | refine jV (g_ld rfl rfl rfl) ?_ | refine c_al rfl rfl fun _ => ?_ | refine c_stA rfl rfl rfl rfl rfl rfl ?_ | (refine jV (g_pickT rfl rfl rfl) ?_) | (refine jV (g_pickF rfl rfl rfl) ?_) | refine c_bsl rfl rfl rfl rfl rfl rfl fun _ => ?_ | refine jV (g_bld rfl rfl) ?_ | (refine c_rt rfl rfl rfl cx_rf rfl ?_)) | (refine k_gt rfl rfl (dTt ‹_›) ?_) | (refine k_gf rfl rfl (dFf (by omega)) ?_) | (refine k_tt rfl rfl ?_) | (refine k_ff rfl rfl ?_) | (refine k_any (s_any (id := 5) _ (fun _ h => h) mixed ?_); refine jU 11 [1, 2] (bts 13 6) ?_ ?_; (focus (repeat' (first | exact trivial | apply And.intro | omega))); (refine jG (bts 13 7) 0 rfl (g_ldA rfl rfl rfl rfl) ?_); (refine jG (bts 13 15) 3 rfl (g_ldA rfl rfl rfl rfl) ?_); refine x_all [4, 9] (by kernel_rfl) (by decide) ⟨?_, ?_, trivial⟩; (focus (refine x_opg rfl rfl ?_; (refine c_pu rfl rfl rfl cx_tg rfl ?_; rintro _ ⟨nt, rfl, hnt⟩); refine jK (bts 13 31) ?_; refine jU 4 [5, 6, 7, 8] (bts 13 511) ?_ ?_; (focus (repeat' (exact trivial))); refine jA 9 rfl ?_; (refine c_al rfl rfl fun _ => ?_); refine jK (bts 13 1023) ?_; refine jA 10 rfl ?_; (refine c_stA rfl rfl rfl rfl rfl rfl ?_); refine jK (bts 13 2047) ?_; refine jU 0 [11, 12] (bts 13 8191) ?_ ?_; (focus (repeat' (exact trivial))); refine x_done (by kernel_rfl) (k_bk ?_))); rotate_left 1; (focus (refine x_opg rfl rfl ?_; (refine c_al rfl rfl fun _ => ?_); refine jK (bts 13 527) ?_; refine jA 4 rfl ?_; (refine c_pu rfl rfl rfl cx_tg rfl ?_; rintro _ ⟨nt, rfl, hnt⟩); refine jK (bts 13 543) ?_; refine jU 3 [5, 6, 7, 8] (bts 13 1023) ?_ ?_; (focus (repeat' (exact trivial))); refine jA 10 rfl ?_; (refine c_stA rfl rfl rfl rfl rfl rfl ?_); refine jK (bts 13 2047) ?_; refine jU 0 [11, 12] (bts 13 8191) ?_ ?_; (focus (repeat' (exact trivial))); refine x_done (by kernel_rfl) (k_bk ?_))); rotate_left 1))
 all_goals
  rename_i y y8
  refine Nx.sealC (b := y) fun G2 hG2 hsy => ?_
  refine Nx.sealC (b := y8) fun G3 hG3 hsg => ?_
  refine jZ (vs := [_, _, _]) rfl ⟨rfl, rfl, rfl, trivial⟩ rfl ⟨(hG2.trans hG3), rfl, ?_⟩
  rw [oneOf_three]
  refine ⟨_, _, _, rfl, fun hb => ?_, fun hb => ?_⟩
  ·simp only [Bool.and_eq_true] at hb
   obtain ⟨hb1, hb2⟩ := hb
   obtain ⟨m0, hm⟩ := Option.isSome_iff_exists.1 hb1
   obtain ⟨d, hd⟩ := Option.isSome_iff_exists.1 hb2
   have hnm := hnt m0 hm
   subst hnm
   rw [hd] at hsy
   simp only [Option.getD_some] at hsy
   have hdm : d ∈ x.2.fields := List.mem_of_find?_eq_some hd
   have hdt : d.tag = nt := by have := List.find?_some hd; simpa using this
   exact ⟨.nd 69 [] d.tag [], y8, rfl, by rw [hRT, hm]; dsimp only [Option.map_some]; rw [hd, hdt]; rfl, .enm k y8 y x.2 d ⟨hrf, hso⟩ hdm hsg (hsy.mono hG3)⟩
  ·rw [hRT]
   cases hm : numOf (s.takeWhile isDg) 200 with
   | none => rfl
   | some m0 =>
    have hnm := hnt m0 hm
    subst hnm
    rw [hm] at hb
    dsimp only [Option.map_some]
    rw [if_neg]
    intro h2
    rw [h2] at hb; cases hb
theorem c_namU {n : Nat} {u : Value} {vs : List TyX} {x : TyX} {k s : List UInt8} (hR : ReadC n u vs) (h : SchR G u vs) (hw : SchW (tys vs)) (hx : x ∈ vs) (hrf : refT (tys vs) k = some x.2) (cx_rf : PuG Tryz.prog 63 [u, S k] G (· = Tu [Ag [U8 x.2.sort, S x.2.name, slX x], Bo true])) (hso : x.2.sort = 85) (hs : s.length ≤ 999) (hn : n ≤ 1000) :
  FnS Tryz.prog 75 [Ag [u], S (60 :: s), S k, I (n + 1 : Nat)] G (ReadP (tys vs) (rdTyped (tys vs) (rd (tys vs) n) x.2 (60 :: s)) k) := by
 have edn : ((n + 1 : Nat) : Int) - 1 = (n : Nat) := by omega
 have hxt : x.2 ∈ tys vs := List.mem_map_of_mem hx
 have hTW := hw.ty _ hxt
 have hfl := hTW.len
 have cx_tg := c_tag (G := G) (u := u) (x := x) (s := s) (by omega) h.sl.one (h.fl x hx) (by omega)
 have he0 : bt (60 :: s) (Int.toNat 0) = 60 := bt_zero 60 s
 have hel : (60 :: s).length = s.length + 1 := rfl
 have h1' : (x.2.sort : Int) = 85 := by omega
 have hRT : rdTyped (tys vs) (rd (tys vs) n) x.2 (60 :: s) = match rdField (rd (tys vs) n) x.2 s with
   | none => none
   | some ((d, v), r) => match r with
    | [] => none
    | c' :: r' => if c'.toNat = 62 then some (.nd 85 [] d.tag [v], r') else none := by
  unfold rdTyped
  dsimp only
  rw [if_neg (by omega), if_neg (by omega), if_pos (show (60 : UInt8).toNat = 60 from rfl)]
  cases rdField (rd (tys vs) n) x.2 s <;> rfl
 simp only [tyF] at cx_tg
 refine jB [(0, _), (1, _), (2, _), (3, _)] Tryz.func75 Tryz.ntmps75 fun B hok hB hW => ?_
 repeat' (first | refine jM ?_ | (refine k_op rfl ?_; first | refine c_bx rfl rfl rfl fun _ => ?_ | refine jV (g_ld rfl rfl rfl) ?_ | refine c_al rfl rfl fun _ => ?_ | refine c_stA rfl rfl rfl rfl rfl rfl ?_ | (refine jV (g_pickT rfl rfl rfl) ?_) | (refine jV (g_pickF rfl rfl rfl) ?_) | (refine c_rt rfl rfl rfl cx_rf rfl ?_)) | (refine k_gt rfl rfl (dTt ‹_›) ?_) | (refine k_gf rfl rfl (dFf (by omega)) ?_) | (refine k_tt rfl rfl ?_) | (refine k_ff rfl rfl ?_))
 (refine k_any (s_any (id := 8) _ (fun _ h => h) mixed ?_); refine jU 11 [1, 2] (bts 13 6) ?_ ?_; (focus (repeat' (first | exact trivial | apply And.intro | omega))); (refine jG (bts 13 7) 0 rfl (g_ldA rfl rfl rfl rfl) ?_); (refine jG (bts 13 15) 3 rfl (g_ldA rfl rfl rfl rfl) ?_); refine x_all [4, 9] (by kernel_rfl) (by decide) ⟨?_, ?_, trivial⟩; (focus (refine x_opg rfl rfl ?_; (refine c_pu rfl rfl rfl cx_tg rfl ?_; rintro _ ⟨nt, rfl, hnt⟩); refine jK (bts 13 31) ?_; refine jU 4 [5, 6, 7, 8] (bts 13 511) ?_ ?_; (focus (repeat' (exact trivial))); refine jA 9 rfl ?_; (refine c_al rfl rfl fun _ => ?_); refine jK (bts 13 1023) ?_; refine jA 10 rfl ?_; (refine c_stA rfl rfl rfl rfl rfl rfl ?_); refine jK (bts 13 2047) ?_; refine jU 0 [11, 12] (bts 13 8191) ?_ ?_; (focus (repeat' (exact trivial))); refine x_done (by kernel_rfl) (k_bk ?_))); rotate_left 1; (focus (refine x_opg rfl rfl ?_; (refine c_al rfl rfl fun _ => ?_); refine jK (bts 13 527) ?_; refine jA 4 rfl ?_; (refine c_pu rfl rfl rfl cx_tg rfl ?_; rintro _ ⟨nt, rfl, hnt⟩); refine jK (bts 13 543) ?_; refine jU 3 [5, 6, 7, 8] (bts 13 1023) ?_ ?_; (focus (repeat' (exact trivial))); refine jA 10 rfl ?_; (refine c_stA rfl rfl rfl rfl rfl rfl ?_); refine jK (bts 13 2047) ?_; refine jU 0 [11, 12] (bts 13 8191) ?_ ?_; (focus (repeat' (exact trivial))); refine x_done (by kernel_rfl) (k_bk ?_))); rotate_left 1)
 all_goals
  have hnone : ∀ {v : Value} {G' : Gh} {r : List UInt8}, rdField (rd (tys vs) n) x.2 s = none → v = Tu [.pointer none, S r, Bo false] → ReadP (tys vs) (rdTyped (tys vs) (rd (tys vs) n) x.2 (60 :: s)) k v G' := fun h1 h2 => ⟨_, _, _, h2, fun h => (by cases h), fun _ => by rw [hRT, h1]⟩
  cases hb16 : (numOf (s.takeWhile isDg) 200).isSome && (fldT x.2.fields nt).isSome with
  | false =>
   have hno : rdField (rd (tys vs) n) x.2 s = none := by
    cases hm : numOf (s.takeWhile isDg) 200 with
    | none => exact field_none (.inl hm)
    | some m0 =>
     refine field_none (.inr ⟨m0, hm, ?_⟩)
     rw [hm] at hb16
     rw [← hnt m0 hm]
     cases hf : fldT x.2.fields nt with
     | none => rfl
     | some d => rw [hf] at hb16; cases hb16
   repeat' (first | (refine jR ?_) | (refine k_op rfl ?_; (refine jV (g_pickT rfl rfl rfl) ?_)) | (refine k_gt rfl rfl rfl ?_) | (refine k_tt rfl rfl ?_))
   all_goals refine jZ (vs := [_, _, _]) rfl ⟨rfl, rfl, rfl, trivial⟩ rfl ⟨Gh.le.refl _, rfl, ?_⟩
   all_goals exact hnone hno rfl
  | true =>
   simp only [Bool.and_eq_true] at hb16
   obtain ⟨hb1, hb2⟩ := hb16
   obtain ⟨m0, hm⟩ := Option.isSome_iff_exists.1 hb1
   obtain ⟨d, hd⟩ := Option.isSome_iff_exists.1 hb2
   have hnm := hnt m0 hm
   subst hnm
   rw [hd]
   simp only [Option.getD_some]
   have hdm : d ∈ x.2.fields := List.mem_of_find?_eq_some hd
   have hwl := while_len isDg s
   cases hdw : s.dropWhile isDg with
   | nil =>
    have hno : rdField (rd (tys vs) n) x.2 s = none := field_noeq hm (fun s2 h => by rw [hdw] at h; cases h)
    repeat' (first | (refine jR ?_) | (refine k_op rfl ?_; first | (refine jV (g_pickT rfl rfl rfl) ?_) | (refine jV (g_pickF rfl rfl rfl) ?_)) | (refine k_gt rfl rfl rfl ?_) | (refine k_gf rfl rfl rfl ?_) | (refine k_tt rfl rfl ?_))
    all_goals refine jZ (vs := [_, _, _]) rfl ⟨rfl, rfl, rfl, trivial⟩ rfl ⟨Gh.le.refl _, rfl, ?_⟩
    all_goals exact hnone hno rfl
   | cons e r2 =>
    have he20 : bt (e :: r2) (Int.toNat 0) = e.toNat := bt_zero e r2
    have hel2 : (e :: r2).length = r2.length + 1 := rfl
    by_cases h61 : e.toNat = 61
    case neg =>
     have hno : rdField (rd (tys vs) n) x.2 s = none := field_noeq hm (fun s2 h => by rw [hdw] at h; simp only [List.cons.injEq] at h; exact h61 (by rw [h.1]; rfl))
     repeat' (first | refine jM ?_ | (refine k_op rfl ?_; (refine jV (g_pickF rfl rfl rfl) ?_)) | (refine k_gf rfl rfl rfl ?_) | (refine k_tt rfl (dTt (by omega)) ?_))
     all_goals refine jZ (vs := [_, _, _]) rfl ⟨rfl, rfl, rfl, trivial⟩ rfl ⟨Gh.le.refl _, rfl, ?_⟩
     all_goals exact hnone hno rfl
    have he61 : e = 61 := UInt8.toNat_inj.1 h61
    have hfs := field_some (f := rd (tys vs) n) (t := x.2) (s := s) hm hd (by rw [hdw, he61])
    have hdk : kindIn (tys vs) d.kind = true := kind_in hw hxt (by omega) hdm
    rw [hdw, List.length_cons] at hwl
    have cx_rd := hR G d.kind r2 h hdk (by omega)
    rw [← edn] at cx_rd
    repeat' (first | refine jM ?_ | (refine k_op rfl ?_; (refine jV (g_pickF rfl rfl rfl) ?_)) | (refine k_gf rfl rfl rfl ?_) | (refine k_ff rfl (dFf (by omega)) ?_))
    (refine k_any (s_any (id := 11) _ (fun _ h => h) mixed ?_); refine jU 10 [1, 2, 3, 5, 6] (bts 15 110) ?_ ?_; (focus (repeat' (first | exact trivial | apply And.intro | omega))); (refine jG (bts 15 111) 0 rfl (g_ldA rfl rfl rfl rfl) ?_); (refine jG (bts 15 127) 4 rfl (g_ld rfl rfl rfl) ?_); refine jA 7 rfl ?_; (refine c_fns rfl rfl rfl cx_rd rfl ?_; rintro _ G hle ⟨q1, r1, ok1, rfl, hyes, hno⟩; skip); refine jS (bts 15 255) ?_; refine jT 0 [8, 9, 10, 11, 12, 13, 14] (bts 15 32767) ?_; refine x_done (by kernel_rfl) (k_bk ?_))
    cases ok1 with
    | false =>
     have hno2 : rdField (rd (tys vs) n) x.2 s = none := by rw [hfs, hno rfl]; rfl
     repeat' (first | (refine jR ?_) | (refine k_op rfl ?_; (refine jV (g_pickT rfl rfl rfl) ?_)) | (refine k_gt rfl rfl rfl ?_) | (refine k_tt rfl rfl ?_))
     all_goals refine jZ (vs := [_, _, _]) rfl ⟨rfl, rfl, rfl, trivial⟩ rfl ⟨hle, rfl, ?_⟩
     all_goals exact hnone hno2 rfl
    | true =>
     obtain ⟨w, wb, rfl, hf, hrep⟩ := hyes rfl
     have hfd : rdField (rd (tys vs) n) x.2 s = some ((d, w), r1) := by rw [hfs, hf]; rfl
     rw [hfd] at hRT
     dsimp only at hRT
     cases r1 with
     | nil =>
      repeat' (first | (refine jR ?_) | (refine k_op rfl ?_; first | (refine jV (g_pickT rfl rfl rfl) ?_) | (refine jV (g_pickF rfl rfl rfl) ?_)) | (refine k_gt rfl rfl rfl ?_) | (refine k_gf rfl rfl rfl ?_) | (refine k_tt rfl rfl ?_))
      all_goals refine jZ (vs := [_, _, _]) rfl ⟨rfl, rfl, rfl, trivial⟩ rfl ⟨hle, rfl, ?_⟩
      all_goals (rw [oneOf_three]; exact ⟨_, _, _, rfl, fun h => (by cases h), fun _ => hRT⟩)
     | cons e3 r3 =>
      have he30 : bt (e3 :: r3) (Int.toNat 0) = e3.toNat := bt_zero e3 r3
      have hel3 : (e3 :: r3).length = r3.length + 1 := rfl
      dsimp only at hRT
      by_cases h62 : e3.toNat = 62
      case neg =>
       rw [if_neg h62] at hRT
       repeat' (first | refine jM ?_ | (refine k_op rfl ?_; (refine jV (g_pickF rfl rfl rfl) ?_)) | (refine k_gf rfl rfl rfl ?_) | (refine k_tt rfl (dTt (by omega)) ?_))
       all_goals refine jZ (vs := [_, _, _]) rfl ⟨rfl, rfl, rfl, trivial⟩ rfl ⟨hle, rfl, ?_⟩
       all_goals (rw [oneOf_three]; exact ⟨_, _, _, rfl, fun h => (by cases h), fun _ => hRT⟩)
      rw [if_pos h62] at hRT
      repeat' (first | refine jM ?_ | (refine k_op rfl ?_; (refine jV (g_pickF rfl rfl rfl) ?_)) | (refine k_gf rfl rfl rfl ?_) | (refine k_ff rfl (dFf (by omega)) ?_))
      (refine k_any (s_any (id := 14) _ (fun _ h => h) mixed ?_); refine jU 8 [0, 1, 4, 8, 9] (bts 13 787) ?_ ?_; (focus (repeat' (first | exact trivial | apply And.intro | omega))); (refine jG (bts 13 791) 2 rfl (g_ld rfl rfl rfl) ?_); refine x_all [3, 5] (by kernel_rfl) (by decide) ⟨?_, ?_, trivial⟩; (focus (refine x_opg rfl rfl ?_; (refine c_bsl rfl rfl rfl rfl rfl rfl fun _ => ?_); refine jS (bts 13 799) ?_; refine jA 5 rfl ?_; (refine c_bsl rfl rfl rfl rfl rfl rfl fun _ => ?_); refine jS (bts 13 831) ?_; (refine jG (bts 13 895) 6 rfl (g_bld rfl rfl) ?_); refine jA 7 rfl ?_; (refine c_bx rfl rfl rfl fun _ => ?_); refine jS (bts 13 1023) ?_; refine jU 0 [10, 11, 12] (bts 13 8191) ?_ ?_; (focus (repeat' (exact trivial))); refine x_done (by kernel_rfl) (k_bk ?_))); rotate_left 1; (focus (refine x_opg rfl rfl ?_; (refine c_bsl rfl rfl rfl rfl rfl rfl fun _ => ?_); refine jS (bts 13 823) ?_; refine jA 3 rfl ?_; (refine c_bsl rfl rfl rfl rfl rfl rfl fun _ => ?_); refine jS (bts 13 831) ?_; (refine jG (bts 13 895) 6 rfl (g_bld rfl rfl) ?_); refine jA 7 rfl ?_; (refine c_bx rfl rfl rfl fun _ => ?_); refine jS (bts 13 1023) ?_; refine jU 0 [10, 11, 12] (bts 13 8191) ?_ ?_; (focus (repeat' (exact trivial))); refine x_done (by kernel_rfl) (k_bk ?_))); rotate_left 1)
      all_goals repeat' (refine jR ?_)
      all_goals
       rename_i y1 y2 y8
       refine Nx.sealC (b := y1) fun G2 hG2 hs1 => ?_
       refine Nx.sealC (b := y2) fun G3 hG3 hs2 => ?_
       refine Nx.sealC (b := y8) fun G4 hG4 hsg => ?_
       refine jZ (vs := [_, _, _]) rfl ⟨rfl, rfl, rfl, trivial⟩ rfl ⟨(((hle.trans hG2).trans hG3).trans hG4), rfl, ?_⟩
       rw [oneOf_three]
       first | exact ⟨_, _, _, rfl, fun _ => ⟨.nd 85 [] d.tag [w], y8, rfl, hRT, .uni k y8 y1 y2 wb 1 x.2 d w (Nat.le_refl _) ⟨hrf, hso⟩ hdm hsg (hs1.mono (hG3.trans hG4)) (hs2.mono hG4) (hrep.mono ((hG2.trans hG3).trans hG4))⟩, fun h => (by cases h)⟩ | exact ⟨_, _, _, rfl, fun _ => ⟨.nd 85 [] d.tag [w], y8, rfl, hRT, .uni k y8 y2 y1 wb 1 x.2 d w (Nat.le_refl _) ⟨hrf, hso⟩ hdm hsg (hs2.mono hG4) (hs1.mono (hG3.trans hG4)) (hrep.mono ((hG2.trans hG3).trans hG4))⟩, fun h => (by cases h)⟩
theorem rd_nil {ts : List Ty} {n : Nat} {k : List UInt8} : rd ts n k [] = none := by
 cases h : rd ts n k [] with
 | none => rfl
 | some x => have := rd_short h; simp at this
theorem c_read0 {n : Nat} {u : Value} {vs : List TyX} {k s : List UInt8} (hc : s = [] ∨ n = 0) (hn : n ≤ 1000) : FnS Tryz.prog 40 [Ag [u], S s, S k, I (n : Nat)] G (ReadP (tys vs) (rd (tys vs) n k s) k) := by
 have hno : rd (tys vs) n k s = none := by
  rcases hc with rfl | rfl
  ·exact rd_nil
  ·rfl
 by_cases hs : s = []
 ·refine jB [(0, _), (1, _), (2, _), (3, _)] Tryz.func40 Tryz.ntmps40 fun B hok hB hW => ?_
  repeat' (first | (refine jR ?_) | (refine k_op rfl ?_; first | refine c_bx rfl rfl rfl fun _ => ?_ | (refine jV (g_pickT rfl rfl rfl) ?_)) | (refine k_gt rfl rfl (dTt ‹_›) ?_) | (refine k_tt rfl rfl ?_))
  refine jZ (vs := [_, _, _]) rfl ⟨rfl, rfl, rfl, trivial⟩ rfl ⟨Gh.le.refl _, rfl, ?_⟩
  rw [oneOf_three]
  exact ⟨_, _, _, rfl, fun h => (by cases h), fun _ => hno⟩
 ·have hn0 : n = 0 := by
   rcases hc with h | h
   ·exact absurd h hs
   ·exact h
  refine jB [(0, _), (1, _), (2, _), (3, _)] Tryz.func40 Tryz.ntmps40 fun B hok hB hW => ?_
  repeat' (first | (refine jR ?_) | (refine k_op rfl ?_; first | refine c_bx rfl rfl rfl fun _ => ?_ | (refine jV (g_pickF rfl rfl rfl) ?_)) | (refine k_gf rfl rfl (dFf ‹_›) ?_) | (refine k_tt rfl (dTt (by omega)) ?_))
  refine jZ (vs := [_, _, _]) rfl ⟨rfl, rfl, rfl, trivial⟩ rfl ⟨Gh.le.refl _, rfl, ?_⟩
  rw [oneOf_three]
  exact ⟨_, _, _, rfl, fun h => (by cases h), fun _ => hno⟩
theorem c_readL {n : Nat} {u : Value} {vs : List TyX} {k s : List UInt8} {e : UInt8} (hR : ReadC n u vs) (h : SchR G u vs) (hk : kindIn (tys vs) (91 :: k) = true) (hs : s.length ≤ 999) (hn : n ≤ 999) :
  FnS Tryz.prog 40 [Ag [u], S (e :: s), S (91 :: k), I (n + 1 : Nat)] G (ReadP (tys vs) (rd (tys vs) (n + 1) (91 :: k) (e :: s)) (91 :: k)) := by
 have hrd : rd (tys vs) (n + 1) (91 :: k) (e :: s) = rdList (rd (tys vs) n k) (e :: s) := by rw [rd]; exact rdK_list rfl
 have he0 : bt (e :: s) (Int.toNat 0) = e.toNat := bt_zero e s
 have hel : (e :: s).length = s.length + 1 := rfl
 have hk0 : bt (91 :: k) (Int.toNat 0) = 91 := bt_zero 91 k
 have hkl2 : (91 :: k).length = k.length + 1 := rfl
 by_cases h91 : e.toNat = 91
 ·obtain rfl := u8_eq h91 (by decide)
  have cx_ls := c_listS (s := s) hR h (kindIn_tail (.inl rfl) hk) (by omega) (by omega)
  refine jB [(0, _), (1, _), (2, _), (3, _)] Tryz.func40 Tryz.ntmps40 fun B hok hB hW => ?_
  repeat' (first | refine jM ?_ | (refine k_op rfl ?_; first | refine c_bx rfl rfl rfl fun _ => ?_ | (refine jV (g_pickF rfl rfl rfl) ?_)) | (refine k_gf rfl rfl rfl ?_) | (refine k_tt rfl rfl ?_) | (refine k_ff rfl rfl ?_) | (refine k_any (s_any (id := 7) _ (fun _ h => h) mixed ?_); refine jU 8 [1, 2, 3, 4] (bts 12 30) ?_ ?_; (focus (repeat' (first | exact trivial | apply And.intro | omega))); (refine jG (bts 12 31) 0 rfl (g_ldA rfl rfl rfl rfl) ?_); refine jA 5 rfl ?_; (refine c_fns rfl rfl rfl cx_ls rfl ?_; rintro _ G hle ⟨q1, r1, ok1, rfl, hyes, hno⟩; skip); refine jS (bts 12 63) ?_; refine jT 0 [6, 7, 8, 9, 10, 11] (bts 12 4095) ?_; refine x_done (by kernel_rfl) (k_bk ?_)))
  refine jZ (vs := [_, _, _]) rfl ⟨rfl, rfl, rfl, trivial⟩ rfl ⟨hle, rfl, ?_⟩
  rw [oneOf_three, hrd]
  exact ⟨_, _, _, rfl, hyes, hno⟩
 ·have hno : rdList (rd (tys vs) n k) (e :: s) = none := by unfold rdList; dsimp only; rw [if_neg h91]
  refine jB [(0, _), (1, _), (2, _), (3, _)] Tryz.func40 Tryz.ntmps40 fun B hok hB hW => ?_
  repeat' (first | refine jM ?_ | (refine k_op rfl ?_; first | refine c_bx rfl rfl rfl fun _ => ?_ | (refine jV (g_pickF rfl rfl rfl) ?_)) | (refine k_gf rfl rfl rfl ?_) | (refine k_tt rfl (by first | rfl | (refine decide_eq_true ?_; (omega))) ?_) | (refine k_ff rfl rfl ?_))
  refine jZ (vs := [_, _, _]) rfl ⟨rfl, rfl, rfl, trivial⟩ rfl ⟨Gh.le.refl _, rfl, ?_⟩
  rw [oneOf_three, hrd]
  exact ⟨_, _, _, rfl, fun h => (by cases h), fun _ => hno⟩
theorem c_readO {n : Nat} {u : Value} {vs : List TyX} {k s : List UInt8} {e : UInt8} (hR : ReadC n u vs) (h : SchR G u vs) (hk : kindIn (tys vs) (63 :: k) = true) (hs : s.length ≤ 999) (hn : n ≤ 999) :
  FnS Tryz.prog 40 [Ag [u], S (e :: s), S (63 :: k), I (n + 1 : Nat)] G (ReadP (tys vs) (rd (tys vs) (n + 1) (63 :: k) (e :: s)) (63 :: k)) := by
 have edn : ((n + 1 : Nat) : Int) - 1 = (n : Nat) := by omega
 have hrd : rd (tys vs) (n + 1) (63 :: k) (e :: s) = if e.toNat = 45 then some (.nd 63 [] 0 [], s) else if e.toNat = 43 then (rd (tys vs) n k s).map fun x => (.nd 63 [] 0 [x.1], x.2) else none := by
  rw [rd]; unfold rdK
  dsimp only
  rw [if_neg (show ¬ (63 : UInt8).toNat = 91 by decide), if_pos (show (63 : UInt8).toNat = 63 from rfl)]
 have he0 : bt (e :: s) (Int.toNat 0) = e.toNat := bt_zero e s
 have hel : (e :: s).length = s.length + 1 := rfl
 have hk0 : bt (63 :: k) (Int.toNat 0) = 63 := bt_zero 63 k
 have hkl2 : (63 :: k).length = k.length + 1 := rfl
 rw [hrd]
 by_cases h45 : e.toNat = 45
 ·rw [if_pos h45]
  refine jB [(0, _), (1, _), (2, _), (3, _)] Tryz.func40 Tryz.ntmps40 fun B hok hB hW => ?_
  repeat' (first | refine jM ?_ | (refine k_op rfl ?_; first | refine c_bx rfl rfl rfl fun _ => ?_ | (refine jV (g_pickF rfl rfl rfl) ?_)) | (refine k_gf rfl rfl rfl ?_) | (refine k_tt rfl (by first | rfl | (refine decide_eq_true ?_; (omega))) ?_) | (refine k_ff rfl rfl ?_) | (refine k_any (s_any (id := 10) _ (fun _ h => h) mixed ?_); refine jU 5 [0, 3, 4] (bts 8 25) ?_ ?_; (focus (repeat' (first | exact trivial | apply And.intro | omega))); (refine jG (bts 8 27) 1 rfl (g_bld rfl rfl) ?_); refine jA 2 rfl ?_; (refine c_bx rfl rfl rfl fun _ => ?_); refine jS (bts 8 31) ?_; refine jT 0 [5, 6, 7] (bts 8 255) ?_; refine x_done (by kernel_rfl) (k_bk ?_)))
  rename_i y
  refine Nx.sealC (b := y) fun G2 hG2 hsy => ?_
  refine jZ (vs := [_, _, _]) rfl ⟨rfl, rfl, rfl, trivial⟩ rfl ⟨hG2, rfl, ?_⟩
  rw [oneOf_three]
  exact ⟨_, _, _, rfl, fun _ => ⟨_, y, rfl, rfl, .non k y hsy⟩, fun h => (by cases h)⟩
 rw [if_neg h45]
 by_cases h43 : e.toNat = 43
 ·rw [if_pos h43]
  have cx_rd := hR G k s h (kindIn_tail (.inr rfl) hk) (by omega)
  rw [← edn] at cx_rd
  refine jB [(0, _), (1, _), (2, _), (3, _)] Tryz.func40 Tryz.ntmps40 fun B hok hB hW => ?_
  repeat' (first | refine jM ?_ | (refine k_op rfl ?_; first | refine c_bx rfl rfl rfl fun _ => ?_ | (refine jV (g_pickF rfl rfl rfl) ?_) | refine jV (g_bld rfl rfl) ?_ | refine c_bsl rfl rfl rfl rfl rfl rfl fun _ => ?_) | (refine k_gf rfl rfl rfl ?_) | (refine k_tt rfl rfl ?_) | (refine k_ff rfl (by first | rfl | (refine decide_eq_false ?_; (omega))) ?_) | (refine k_any (s_any (id := 13) _ (fun _ h => h) mixed ?_); refine jU 9 [1, 2, 3, 4, 5, 6] (bts 15 126) ?_ ?_; (focus (repeat' (first | exact trivial | apply And.intro | omega))); (refine jG (bts 15 127) 0 rfl (g_ldA rfl rfl rfl rfl) ?_); refine jA 7 rfl ?_; (refine c_fns rfl rfl rfl cx_rd rfl ?_; rintro _ G hle ⟨q1, r1, ok1, rfl, hyes, hno⟩; skip); refine jS (bts 15 255) ?_; refine jT 0 [8, 9, 10, 11, 12, 13, 14] (bts 15 32767) ?_; refine x_done (by kernel_rfl) (k_bk ?_)))
  rename_i y1 y8
  refine Nx.sealC (b := y1) fun G2 hG2 hs1 => ?_
  refine Nx.sealC (b := y8) fun G3 hG3 hsg => ?_
  refine jZ (vs := [_, _, _]) rfl ⟨rfl, rfl, rfl, trivial⟩ rfl ⟨((hle.trans hG2).trans hG3), rfl, ?_⟩
  rw [oneOf_three]
  refine ⟨_, _, _, rfl, fun hb => ?_, fun hb => by rw [hno hb]; rfl⟩
  obtain ⟨w, wb, rfl, hf, hrep⟩ := hyes hb
  exact ⟨.nd 63 [] 0 [w], y8, rfl, by rw [hf]; rfl, .opt k y8 y1 wb 1 w (Nat.le_refl _) hsg (hs1.mono hG3) (hrep.mono (hG2.trans hG3))⟩
 ·rw [if_neg h43]
  refine jB [(0, _), (1, _), (2, _), (3, _)] Tryz.func40 Tryz.ntmps40 fun B hok hB hW => ?_
  repeat' (first | refine jM ?_ | (refine k_op rfl ?_; first | refine c_bx rfl rfl rfl fun _ => ?_ | (refine jV (g_pickF rfl rfl rfl) ?_)) | (refine k_gf rfl rfl rfl ?_) | (refine k_tt rfl (by first | rfl | (refine decide_eq_true ?_; (omega))) ?_) | (refine k_ff rfl (by first | rfl | (refine decide_eq_false ?_; (omega))) ?_))
  refine jZ (vs := [_, _, _]) rfl ⟨rfl, rfl, rfl, trivial⟩ rfl ⟨Gh.le.refl _, rfl, ?_⟩
  rw [oneOf_three]
  exact ⟨_, _, _, rfl, fun h => (by cases h), fun _ => rfl⟩
theorem c_readA {n : Nat} {u : Value} {vs : List TyX} {k s : List UInt8} {e : UInt8} {t : Ty} (hR : ReadC n u vs) (h : SchR G u vs) (hw : SchW (tys vs)) (hk : kindIn (tys vs) k = true) (hrf : refT (tys vs) k = some t) (hs : s.length ≤ 999) (hn : n ≤ 999) :
  FnS Tryz.prog 40 [Ag [u], S (e :: s), S k, I (n + 1 : Nat)] G (ReadP (tys vs) (rd (tys vs) (n + 1) k (e :: s)) k) := by
 obtain ⟨r, rfl⟩ := refT_64 hrf
 have hkk := kindOk_kOk (kindIn_ok hk)
 have hrd : rd (tys vs) (n + 1) (64 :: r) (e :: s) = rdTyped (tys vs) (rd (tys vs) n) t (e :: s) := by
  rw [rd]; unfold rdK
  dsimp only
  rw [if_neg (show ¬ (64 : UInt8).toNat = 91 by decide), if_neg (show ¬ (64 : UInt8).toNat = 63 by decide), hrf]
 have hvl : vs.length ≤ 8 := by have := hw.len; unfold tys at this; simpa using this
 have href := refV_ty vs (64 :: r)
 have cx_rf := c_ref (k := 64 :: r) h (by omega) hkk.1 (by omega)
 rcases hr : refV vs (64 :: r) with _ | x
 ·rw [hr, hrf] at href; cases href
 rw [hr] at href cx_rf
 have htx : x.2 = t := by rw [hrf] at href; exact Option.some.inj href
 subst htx
 have hx := refV_mem hr
 have cx_na : FnS Tryz.prog 75 [Ag [u], S (e :: s), S (64 :: r), I (n + 1 : Nat)] G (ReadP (tys vs) (rdTyped (tys vs) (rd (tys vs) n) x.2 (e :: s)) (64 :: r)) := by
  have hso := (hw.ty _ (List.mem_map_of_mem hx)).sort
  by_cases h1 : x.2.sort = 82 ∧ e.toNat = 123
  ·obtain rfl := u8_eq h1.2 (by decide)
   exact c_namR hR h hw hx hrf cx_rf h1.1 hs (by omega) (by omega)
  by_cases h2 : x.2.sort = 69 ∧ e.toNat = 35
  ·obtain rfl := u8_eq h2.2 (by decide)
   exact c_namE h hw hx hrf cx_rf h2.1 hs (by omega)
  by_cases h3 : x.2.sort = 85 ∧ e.toNat = 60
  ·obtain rfl := u8_eq h3.2 (by decide)
   exact c_namU hR h hw hx hrf cx_rf h3.1 hs (by omega)
  refine c_namX h.sl.one cx_rf ?_ (by omega) (by omega)
  rcases hso with h4 | h4 | h4 <;> omega
 have hel : (e :: s).length = s.length + 1 := rfl
 have hk0 : bt (64 :: r) (Int.toNat 0) = 64 := bt_zero 64 r
 have hkl2 : (64 :: r).length = r.length + 1 := rfl
 refine jB [(0, _), (1, _), (2, _), (3, _)] Tryz.func40 Tryz.ntmps40 fun B hok hB hW => ?_
 repeat' (first | refine jM ?_ | (refine k_op rfl ?_; first | refine c_bx rfl rfl rfl fun _ => ?_ | (refine jV (g_pickF rfl rfl rfl) ?_) | refine jV (g_ldA rfl rfl rfl rfl) ?_ | (refine c_fns rfl rfl rfl cx_na rfl ?_; rintro _ G hle ⟨q1, r1, ok1, rfl, hyes, hno⟩; skip)) | (refine k_gf rfl rfl rfl ?_) | (refine k_tt rfl rfl ?_) | (refine k_ff rfl rfl ?_))
 refine jZ (vs := [_, _, _]) rfl ⟨rfl, rfl, rfl, trivial⟩ rfl ⟨hle, rfl, ?_⟩
 rw [oneOf_three, hrd]
 exact ⟨_, _, _, rfl, hyes, hno⟩
theorem c_readP {n : Nat} {u : Value} {vs : List TyX} {s : List UInt8} {c e : UInt8} (hu : u.oneCell' = true) (hc : c = 110 ∨ c = 116 ∨ c = 102) (hr : refT (tys vs) [c] = none) (hs : s.length ≤ 999) (hn : n ≤ 999) :
  FnS Tryz.prog 40 [Ag [u], S (e :: s), S [c], I (n + 1 : Nat)] G (ReadP (tys vs) (rd (tys vs) (n + 1) [c] (e :: s)) [c]) := by
 have hrd := rd_plain (ts := tys vs) (n := n) (s := e :: s) hc hr
 have hel : (e :: s).length = s.length + 1 := rfl
 have cx_pl : FnS Tryz.prog 76 [Ag [u], S (e :: s), S [c]] G (ReadP (tys vs) (rd (tys vs) (n + 1) [c] (e :: s)) [c]) := by
  rw [hrd]
  rcases hc with rfl | rfl | rfl
  ·rw [if_pos rfl]; exact c_plainN hu (by omega)
  ·rw [if_neg (by decide), if_pos rfl]; exact c_plainT hu (by omega) (by simp)
  ·rw [if_neg (by decide), if_neg (by decide)]; exact c_plainF hu (by omega)
 clear hrd
 rcases hc with rfl | rfl | rfl
 all_goals
  refine jB [(0, _), (1, _), (2, _), (3, _)] Tryz.func40 Tryz.ntmps40 fun B hok hB hW => ?_
  repeat' (first | (refine run (t := tb) 400 rfl ?_ ?_; (focus (repeat' (first | exact trivial | apply And.intro | omega | (simp only [List.length_append, List.length_cons, List.length_nil, Int.toNat_natCast]; omega))))) | (refine k_op rfl ?_; first | refine c_bx rfl rfl rfl fun _ => ?_ | (refine jV (g_pickF rfl rfl rfl) ?_) | refine jV (g_ldA rfl rfl rfl rfl) ?_ | (refine c_fns rfl rfl rfl cx_pl rfl ?_; rintro _ G hle ⟨q1, r1, ok1, rfl, hyes, hno⟩; skip)) | (refine k_gf rfl rfl rfl ?_) | (refine k_ff rfl rfl ?_))
  refine jZ (vs := [_, _, _]) rfl ⟨rfl, rfl, rfl, trivial⟩ rfl ⟨hle, rfl, ?_⟩
  rw [oneOf_three]
  exact ⟨_, _, _, rfl, hyes, hno⟩
theorem readC_all {u : Value} {vs : List TyX} (hw : SchW (tys vs)) : ∀ n, n ≤ 1000 → ReadC n u vs
 | 0, _ => fun G k s _ _ _ => c_read0 (.inr rfl) (by omega)
 | n + 1, hn => fun G k s h hk hs => by
  have hR := readC_all (u := u) (vs := vs) hw n (by omega)
  match s, hs with
  | [], _ => exact c_read0 (.inl rfl) hn
  | e :: s, hs =>
   simp only [List.length_cons] at hs
   match k, hk with
   | [], hk => cases hk
   | c :: k, hk =>
    by_cases h1 : c.toNat = 91
    ·obtain rfl := u8_eq h1 (by decide)
     exact c_readL hR h hk (by omega) (by omega)
    by_cases h2 : c.toNat = 63
    ·obtain rfl := u8_eq h2 (by decide)
     exact c_readO hR h hk (by omega) (by omega)
    have h91 : ¬ (c.toNat = 91 ∨ c.toNat = 63) := fun h => by rcases h with h | h <;> omega
    cases hr : refT (tys vs) (c :: k) with
    | some t => exact c_readA hR h hw hk hr (by omega) (by omega)
    | none =>
     rcases plain_kinds hk h91 hr with e1 | e1 | e1
     all_goals
      simp only [List.cons.injEq] at e1
      obtain ⟨rfl, rfl⟩ := e1
      exact c_readP h.sl.one (by simp) hr (by omega) (by omega)
theorem c_l4Of0 {s k w : List UInt8} (h : s.length ≤ 1048576 ∧ k.length ≤ 1048576 ∧ w.length ≤ 1048576) (hno : givenV s k w = none) : FnS Tryz.prog 31 [S s, S k, S w] G (fun v _ => ∃ u q, v = Tu [u, .pointer q, Bo false]) := by
 by_cases hk : kindS s k = true
 case neg =>
  have hk2 : kindS s k = false := by simpa using hk
  have cx_lk1 : ∀ G, FnS Tryz.prog 27 [S s, S k] G (fun v _ => ∃ u, v = Tu [u, Bo false]) := fun G => by
   refine (c_l3Kind (G := G) (s := s) (k := k) (by omega) (by omega)).mono ?_
   rintro v G' L' ⟨h1, h2, u, vs, rfl, _⟩
   exact ⟨h1, h2, u, by rw [hk2]⟩
  refine jB [(0, _), (1, _), (2, _)] Tryz.func31 Tryz.ntmps31 fun B hok hB hW => ?_
  repeat' (first | (refine jR ?_) | (refine k_op rfl ?_; first | (refine jV (g_pickT rfl rfl rfl) ?_) | (refine c_fns rfl rfl rfl (cx_lk1 _) rfl ?_; rintro _ G hle ⟨u1, rfl⟩; skip)) | (refine k_gt rfl rfl rfl ?_) | (refine k_tt rfl rfl ?_))
  all_goals refine jZ (vs := [_, _, _]) rfl ⟨rfl, rfl, rfl, trivial⟩ rfl ⟨hle, rfl, ?_⟩
  all_goals exact ⟨_, _, rfl⟩
 obtain ⟨ts, hs, hki, hw⟩ := kindS_some2 hk
 have hvo : valOf ts k w = none := by unfold givenV at hno; rw [hs] at hno; dsimp only at hno; rwa [if_pos hki] at hno
 have cx_lka : ∀ G, FnS Tryz.prog 27 [S s, S k] G (fun v G' => ∃ a c vs, v = Tu [.slice a vs.length c, Bo true] ∧ SchR G' (.slice a vs.length c) vs ∧ tys vs = ts) := fun G => by
  refine (c_l3Kind (G := G) (s := s) (k := k) (by omega) (by omega)).mono ?_
  rintro v G' L' ⟨h1, h2, u, vs, rfl, h4, _, h6⟩
  obtain ⟨_, ⟨rfl, h0⟩ | ⟨b, o, cap, rfl, _, _⟩⟩ := h4.sl
  ·exact ⟨h1, h2, none, 0, vs, by rw [hk, h0], by rw [h0]; exact h4, h6 ts hs hki⟩
  ·exact ⟨h1, h2, _, cap, vs, by rw [hk], h4, h6 ts hs hki⟩
 by_cases hl : w.length ≤ 400
 case neg =>
  refine jB [(0, _), (1, _), (2, _)] Tryz.func31 Tryz.ntmps31 fun B hok hB hW => ?_
  repeat' (first | (refine jR ?_) | (refine k_op rfl ?_; first | (refine jV (g_pickF rfl rfl rfl) ?_) | (refine c_fns rfl rfl rfl (cx_lka _) rfl ?_; rintro _ G hle ⟨av1, cv1, vs1, rfl, hR1, hT1⟩; skip)) | (refine k_gf rfl rfl rfl ?_) | (refine k_tt rfl (dTt (by omega)) ?_))
  all_goals refine jZ (vs := [_, _, _]) rfl ⟨rfl, rfl, rfl, trivial⟩ rfl ⟨hle, rfl, ?_⟩
  all_goals exact ⟨_, _, rfl⟩
 refine jB [(0, _), (1, _), (2, _)] Tryz.func31 Tryz.ntmps31 fun B hok hB hW => ?_
 repeat' (first | (refine jR ?_) | (refine k_op rfl ?_; first | (refine jV (g_pickF rfl rfl rfl) ?_) | refine jV (g_bld rfl rfl) ?_ | (refine c_fns rfl rfl rfl (cx_lka _) rfl ?_; rintro _ G hle ⟨av1, cv1, vs1, rfl, hR1, hT1⟩; skip)) | (refine k_gf rfl rfl rfl ?_) | (refine k_ff rfl (dFf (by omega)) ?_))
 have hR := readC_all (u := .slice av1 vs1.length cv1) (vs := vs1) (by rw [hT1]; exact hw) 12 (by omega) G k w hR1 (by rw [hT1]; exact hki) (by omega)
 obtain ⟨f, hf⟩ : ∃ f, f = rd (tys vs1) 12 k w := ⟨_, rfl⟩
 rw [← hf] at hR
 have cx_rd := hR
 clear hR
 repeat' (first | (refine jR ?_) | (refine k_op rfl ?_; first | (refine jV (g_pickT rfl rfl rfl) ?_) | (refine jV (g_pickF rfl rfl rfl) ?_) | (refine c_fns rfl rfl rfl cx_rd rfl ?_; rintro _ G hle ⟨q1, r1, ok1, rfl, hyes, hno⟩; skip)) | refine k_gb rfl rfl (fun _ => ?_) (fun _ => ?_))
 all_goals rename_i hok
 ·have hr : decide (r1 = []) = false := decide_eq_false fun h => by
   obtain ⟨v, b, _, h2, _⟩ := hyes hok
   unfold valOf at hvo
   rw [if_pos hl, ← hT1, ← hf, h2, h] at hvo
   cases hvo
  refine jZ (vs := [_, _, _]) rfl ⟨rfl, rfl, rfl, trivial⟩ rfl ⟨(Gh.le.trans (by assumption) hle), rfl, ?_⟩
  exact ⟨_, _, by rw [hr]; rfl⟩
 ·refine jZ (vs := [_, _, _]) rfl ⟨rfl, rfl, rfl, trivial⟩ rfl ⟨(Gh.le.trans (by assumption) hle), rfl, ?_⟩
  exact ⟨_, _, rfl⟩
theorem c_l4Of1 {s k w : List UInt8} {v : V} {ts : List Ty} (h : s.length ≤ 1048576 ∧ k.length ≤ 1048576 ∧ w.length ≤ 1048576) (hs : schemaOf s = some ts) (hki : kindIn ts k = true) (hvo : valOf ts k w = some v) :
  FnS Tryz.prog 31 [S s, S k, S w] G (fun r G' => ∃ u b, r = Tu [u, Pt b 0, Bo true] ∧ RepR G' ts v k b) := by
 have hw := schemaOf_w hs
 have hk : kindS s k = true := by unfold kindS; rw [hs]; exact hki
 have hl : w.length ≤ 400 := by
  by_cases hl : w.length ≤ 400
  ·exact hl
  ·unfold valOf at hvo; rw [if_neg hl] at hvo; cases hvo
 have h12 : rd ts 12 k w = some (v, []) := by
  unfold valOf at hvo
  rw [if_pos hl] at hvo
  split at hvo
  ·rename_i v' hv; rw [hv]; exact congrArg (fun x => some (x, [])) (Option.some.inj hvo)
  ·cases hvo
 have cx_lka : ∀ G, FnS Tryz.prog 27 [S s, S k] G (fun v G' => ∃ a c vs, v = Tu [.slice a vs.length c, Bo true] ∧ SchR G' (.slice a vs.length c) vs ∧ tys vs = ts) := fun G => by
  refine (c_l3Kind (G := G) (s := s) (k := k) (by omega) (by omega)).mono ?_
  rintro v G' L' ⟨h1, h2, u, vs, rfl, h4, _, h6⟩
  obtain ⟨_, ⟨rfl, h0⟩ | ⟨b, o, cap, rfl, _, _⟩⟩ := h4.sl
  ·exact ⟨h1, h2, none, 0, vs, by rw [hk, h0], by rw [h0]; exact h4, h6 ts hs hki⟩
  ·exact ⟨h1, h2, _, cap, vs, by rw [hk], h4, h6 ts hs hki⟩
 refine jB [(0, _), (1, _), (2, _)] Tryz.func31 Tryz.ntmps31 fun B hok hB hW => ?_
 repeat' (first | (refine jR ?_) | (refine k_op rfl ?_; first | (refine jV (g_pickF rfl rfl rfl) ?_) | refine jV (g_bld rfl rfl) ?_ | (refine c_fns rfl rfl rfl (cx_lka _) rfl ?_; rintro _ G hle ⟨av1, cv1, vs1, rfl, hR1, hT1⟩; skip)) | (refine k_gf rfl rfl rfl ?_) | (refine k_ff rfl (dFf (by omega)) ?_))
 subst hT1
 have cx_rd : FnS Tryz.prog 40 [Ag [.slice av1 vs1.length cv1], S w, S k, I (12 : Nat)] G (fun r G' => ∃ b, r = Tu [Pt b 0, S [], Bo true] ∧ RepR G' (tys vs1) v k b) := by
  refine (readC_all (u := .slice av1 vs1.length cv1) (vs := vs1) hw 12 (by omega) G k w hR1 hki (by omega)).mono ?_
  rintro r G' L' ⟨h1, h2, q, rest, ok, rfl, h3, h4⟩
  cases ok with
  | false => rw [h12] at h4; cases h4 rfl
  | true =>
   obtain ⟨v', b, rfl, h5, h6⟩ := h3 rfl
   rw [h12] at h5
   simp only [Option.some.injEq, Prod.mk.injEq] at h5
   obtain ⟨rfl, rfl⟩ := h5
   exact ⟨h1, h2, b, rfl, h6⟩
 refine k_op rfl ?_
 refine c_fns rfl rfl rfl cx_rd rfl ?_
 rintro _ G2 hle2 ⟨b, rfl, hrep⟩
 repeat' (first | (refine jR ?_) | (refine k_op rfl ?_; (refine jV (g_pickT rfl rfl rfl) ?_)) | (refine k_gt rfl rfl rfl ?_))
 refine jZ (vs := [_, _, _]) rfl ⟨rfl, rfl, rfl, trivial⟩ rfl ⟨(Gh.le.trans hle hle2), rfl, ?_⟩
 exact ⟨_, b, rfl, hrep⟩
theorem c_nanI {n : Int} : PuG Tryz.prog 123 [I n] G (· = Bo false) := by
 refine jE [(0, _)] Tryz.func123 Tryz.ntmps123 fun B hB => ?_
 repeat' (refine jR ?_)
 refine jZ (vs := [_]) rfl ⟨rfl, trivial⟩ rfl ⟨rfl, rfl, ?_⟩
 rw [oneOf_one]; simp
theorem c_nanS {s : List UInt8} : PuG Tryz.prog 124 [S s] G (· = Bo false) := by
 refine jE [(0, _)] Tryz.func124 Tryz.ntmps124 fun B hB => ?_
 repeat' (refine jR ?_)
 refine jZ (vs := [_]) rfl ⟨rfl, trivial⟩ rfl ⟨rfl, rfl, ?_⟩
 rw [oneOf_one]; simp
theorem c_cmpI {n m : Int} : PuG Tryz.prog 85 [I n, I m] G (· = I (sgn n m)) := by
 unfold sgn
 rcases Int.lt_trichotomy n m with h | h | h
 ·rw [if_pos h]
  refine jE [(0, _), (1, _)] Tryz.func85 Tryz.ntmps85 fun B hB => ?_
  repeat' (first | (refine jR ?_) | (refine k_op rfl ?_; (refine c_rt rfl rfl rfl c_nanI rfl ?_)) | (refine k_tt rfl (dTt ‹_›) ?_) | (refine k_ff rfl rfl ?_))
  refine jZ (vs := [_]) rfl ⟨rfl, trivial⟩ rfl ⟨rfl, rfl, ?_⟩
  rfl
 ·rw [if_neg (by omega), if_neg (by omega)]
  refine jE [(0, _), (1, _)] Tryz.func85 Tryz.ntmps85 fun B hB => ?_
  repeat' (first | (refine jR ?_) | (refine k_op rfl ?_; (refine c_rt rfl rfl rfl c_nanI rfl ?_)) | (refine k_ff rfl (by first | rfl | (refine decide_eq_false ?_; (omega))) ?_))
  refine jZ (vs := [_]) rfl ⟨rfl, trivial⟩ rfl ⟨rfl, rfl, ?_⟩
  rfl
 ·rw [if_neg (by omega), if_pos h]
  refine jE [(0, _), (1, _)] Tryz.func85 Tryz.ntmps85 fun B hB => ?_
  repeat' (first | (refine jR ?_) | (refine k_op rfl ?_; (refine c_rt rfl rfl rfl c_nanI rfl ?_)) | (refine k_tt rfl (dTt ‹_›) ?_) | (refine k_ff rfl (by first | rfl | (refine decide_eq_false ?_; (omega))) ?_))
  refine jZ (vs := [_]) rfl ⟨rfl, trivial⟩ rfl ⟨rfl, rfl, ?_⟩
  rfl
theorem bl_tot : ∀ {x y : List UInt8}, Op.bytesLess x y = false → Op.bytesLess y x = false → x = y
 | [], [], _, _ => rfl
 | [], _ :: _, h, _ => by cases h
 | _ :: _, [], _, h => by cases h
 | a :: x, b :: y, h, h' => by
  unfold Op.bytesLess at h h'
  simp only [Bool.or_eq_false_iff, decide_eq_false_iff_not, Bool.and_eq_false_iff, beq_eq_false_iff_ne, ne_eq] at h h'
  have hab : a = b := by
   refine UInt8.toNat_inj.1 ?_
   have h1 := h.1
   have h2 := h'.1
   rw [UInt8.lt_iff_toNat_lt] at h1 h2
   omega
  subst hab
  have h1 : Op.bytesLess x y = false := h.2.resolve_left (by simp)
  have h2 : Op.bytesLess y x = false := h'.2.resolve_left (by simp)
  rw [bl_tot h1 h2]
theorem c_cmpS {s t : List UInt8} : PuG Tryz.prog 86 [S s, S t] G (· = I (cmpB s t)) := by
 unfold cmpB
 cases h1 : Op.bytesLess s t
 ·cases h2 : Op.bytesLess t s
  ·obtain rfl := bl_tot h1 h2
   have h3 : (!(Op.bytesLess s s || decide (s = s))) = false := by simp
   refine jE [(0, _), (1, _)] Tryz.func86 Tryz.ntmps86 fun B hB => ?_
   repeat' (first | (refine jR ?_) | (refine k_op rfl ?_; (refine c_rt rfl rfl rfl c_nanS rfl ?_)) | (refine k_ff rfl (by first | rfl | assumption) ?_))
   all_goals refine jZ (vs := [_]) rfl ⟨rfl, trivial⟩ rfl ⟨rfl, rfl, ?_⟩
   all_goals rfl
  ·have h3 : (!(Op.bytesLess s t || decide (s = t))) = true := by
    have : ¬ s = t := by rintro rfl; rw [h1] at h2; cases h2
    simp [h1, this]
   refine jE [(0, _), (1, _)] Tryz.func86 Tryz.ntmps86 fun B hB => ?_
   repeat' (first | (refine jR ?_) | (refine k_op rfl ?_; (refine c_rt rfl rfl rfl c_nanS rfl ?_)) | (refine k_tt rfl ‹_› ?_) | (refine k_ff rfl (by first | rfl | assumption) ?_))
   all_goals refine jZ (vs := [_]) rfl ⟨rfl, trivial⟩ rfl ⟨rfl, rfl, ?_⟩
   all_goals rfl
 ·refine jE [(0, _), (1, _)] Tryz.func86 Tryz.ntmps86 fun B hB => ?_
  repeat' (first | (refine jR ?_) | (refine k_op rfl ?_; (refine c_rt rfl rfl rfl c_nanS rfl ?_)) | (refine k_tt rfl ‹_› ?_) | (refine k_ff rfl rfl ?_))
  all_goals refine jZ (vs := [_]) rfl ⟨rfl, trivial⟩ rfl ⟨rfl, rfl, ?_⟩
  all_goals rfl
theorem cmps_step {ks us : List V} {i : Nat} (h1 : i < ks.length) (h2 : i < us.length) : V.cmps (ks.drop i) (us.drop i) = if V.cmp (nth ks i) (nth us i) ≠ 0 then V.cmp (nth ks i) (nth us i) else V.cmps (ks.drop (i + 1)) (us.drop (i + 1)) := by
 rw [List.drop_eq_getElem_cons h1, List.drop_eq_getElem_cons h2, V.cmps, nth_eq h1, nth_eq h2]
theorem cmps_end {ks us : List V} {i : Nat} (h1 : i < ks.length) (h2 : ¬ i < us.length) : V.cmps (ks.drop i) (us.drop i) = 1 := by
 rw [List.drop_eq_getElem_cons h1, (show us.drop i = [] from List.drop_eq_nil_of_le (by omega)), V.cmps]
theorem cmps_nil {ks us : List V} {i : Nat} (h1 : i = ks.length) : V.cmps (ks.drop i) (us.drop i) = if i < us.length then -1 else 0 := by
 rw [(show ks.drop i = [] from List.drop_eq_nil_of_le (by omega)), V.cmps.eq_1]
 by_cases h : i < us.length
 ·rw [if_neg (by rw [List.drop_eq_nil_iff]; omega), if_pos h]
 ·rw [if_pos (by rw [List.drop_eq_nil_iff]; omega), if_neg h]
abbrev fCF : FuncId := 87
theorem c_cmpF {ks us : List V} {cs ds : List VC} {a b : Option Addr} {k l : Nat} (hk : ks.length ≤ 100000) (hu : us.length ≤ 100000) (hcl : cs.length = ks.length) (hdl : ds.length = us.length)
  (hs1 : SlV G (.slice a ks.length k) 4 cs.length (rows vcF cs)) (hs2 : SlV G (.slice b us.length l) 4 ds.length (rows vcF ds))
  (ih : ∀ i, i < ks.length → i < us.length → PuG Tryz.prog 47 [Ag (vcF (nth cs i)), Ag (vcF (nth ds i))] G (· = I (V.cmp (nth ks i) (nth us i)))) :
  PuG Tryz.prog fCF [.slice a ks.length k, .slice b us.length l, .func (.func 47) #[] #[]] G (· = I (V.cmps ks us)) := by
 refine jE [(0, _), (1, _), (2, _)] Tryz.func87 Tryz.ntmps87 fun B hB => ?_
 repeat' (first | (refine jR ?_) | (refine k_op rfl ?_; (refine jV (g_lenL rfl) ?_)))
 refine k_loop (ι := Nat) (fun i => i ≤ ks.length ∧ V.cmps ks us = V.cmps (ks.drop i) (us.drop i)) (fun i => [(0, .slice a ks.length k), (1, .slice b us.length l), (2, .func (.func 47) #[] #[]), (11, .slice a ks.length k), (12, I ks.length), (13, I i)]) (fun _ => G) (fun i => []) (fun i => ks.length - i) 0 ?_ (by repeat' constructor) rfl sRr (fun i Hi => ?_)
 ·exact ⟨Nat.zero_le _, rfl⟩
 obtain ⟨hi0, he⟩ := Hi
 by_cases hi : i < ks.length
 ·obtain ⟨b1, o1, c1, e, hg1⟩ := hs1.expl (by omega)
  simp only [Value.slice.injEq] at e
  obtain ⟨rfl, -, rfl⟩ := e
  by_cases hj : i < us.length
  ·have cx_cmp := ih i hi hj
   have hst := cmps_step hi hj
   obtain ⟨b2, o2, c2, e, hg2⟩ := hs2.expl (by omega)
   simp only [Value.slice.injEq] at e
   obtain ⟨rfl, -, rfl⟩ := e
   by_cases h0 : V.cmp (nth ks i) (nth us i) = 0
   ·rw [if_neg (by simpa using h0)] at hst
    repeat' (first | (refine jR ?_) | (refine k_op rfl ?_; first | refine jV (g_lenL rfl) ?_ | (refine jV (g_iaddrN rfl rfl (by omega)) ?_) | (refine jV (g_ldR rfl rfl (by assumption) ?_) ?_; (focus ((omega); done))) | refine jV (g_ldA rfl rfl rfl rfl) ?_ | refine c_al rfl rfl fun _ => ?_ | refine c_stA rfl rfl rfl rfl rfl rfl ?_) | (refine k_tt rfl (dTt (by omega)) ?_) | (refine k_ff rfl (dFf (by omega)) ?_))
    refine k_op rfl ?_
    refine c_rt rfl rfl rfl cx_cmp rfl ?_
    repeat' (first | refine jM ?_ | (refine k_ff rfl (dFf (by omega)) ?_))
    exact k_rd (i + 1) ⟨by omega, he.trans hst⟩ (by omega) (by repeat' constructor) rfl (by repeat (exact List.nil_sublist _))
   ·rw [if_pos h0] at hst
    repeat' (first | (refine jR ?_) | (refine k_op rfl ?_; first | refine jV (g_lenL rfl) ?_ | (refine jV (g_iaddrN rfl rfl (by omega)) ?_) | (refine jV (g_ldR rfl rfl (by assumption) ?_) ?_; (focus ((omega); done))) | refine jV (g_ldA rfl rfl rfl rfl) ?_ | refine c_al rfl rfl fun _ => ?_ | refine c_stA rfl rfl rfl rfl rfl rfl ?_) | (refine k_tt rfl (dTt (by omega)) ?_) | (refine k_ff rfl (dFf (by omega)) ?_))
    refine k_op rfl ?_
    refine c_rt rfl rfl rfl cx_cmp rfl ?_
    repeat' (first | (refine jR ?_) | (refine k_tt rfl (dTt ‹_›) ?_))
    refine jZ (vs := [_]) rfl ⟨rfl, trivial⟩ rfl ⟨rfl, rfl, ?_⟩
    rw [oneOf_one, he, hst]
  ·have hst := cmps_end hi hj
   repeat' (first | (refine jR ?_) | (refine k_op rfl ?_; first | refine jV (g_lenL rfl) ?_ | (refine jV (g_iaddrN rfl rfl (by omega)) ?_) | (refine jV (g_ldR rfl rfl (by assumption) ?_) ?_; (focus ((omega); done))) | refine c_al rfl rfl fun _ => ?_ | refine c_stA rfl rfl rfl rfl rfl rfl ?_) | (refine k_tt rfl (dTt (by omega)) ?_))
   refine jZ (vs := [_]) rfl ⟨rfl, trivial⟩ rfl ⟨rfl, rfl, ?_⟩
   rw [oneOf_one, he, hst]
 ·have hin : i = ks.length := by omega
  have hst := cmps_nil (us := us) hin
  by_cases hj : i < us.length
  ·rw [if_pos hj] at hst
   repeat' (first | (refine jR ?_) | (refine k_op rfl ?_; (refine jV (g_lenL rfl) ?_)) | (refine k_tt rfl (dTt (by omega)) ?_) | (refine k_ff rfl (dFf (by omega)) ?_))
   refine jZ (vs := [_]) rfl ⟨rfl, trivial⟩ rfl ⟨rfl, rfl, ?_⟩
   rw [oneOf_one, he, hst]
  ·rw [if_neg hj] at hst
   repeat' (first | (refine jR ?_) | (refine k_op rfl ?_; (refine jV (g_lenL rfl) ?_)) | (refine k_ff rfl (dFf (by omega)) ?_))
   refine jZ (vs := [_]) rfl ⟨rfl, trivial⟩ rfl ⟨rfl, rfl, ?_⟩
   rw [oneOf_one, he, hst]
theorem ck_inv {w : Nat} {x : List UInt8} {t : Int} {ks : List V} {u : V} (h : V.ck (.nd w x t ks) u) : w = u.what ∧ ((w = 85 ∨ w = 61) ∧ t ≠ u.tag ∨ V.cks ks u.kids) := by rw [V.ck] at h; exact h
theorem c_cmp_num {x y : List UInt8} {t t' p q : Int} {a b : Option Addr} {n m k l : Nat} (hx : x.length ≤ 100000 ∧ y.length ≤ 100000) (h1 : numOf x 999999 = some p) (h2 : numOf y 999999 = some q) : PuG Tryz.prog 47 [Ag [U8 (110 : Nat), S x, I t, .slice a n k], Ag [U8 (110 : Nat), S y, I t', .slice b m l]] G (· = I (sgn p q)) := by
 have hp : ∀ {x : List UInt8} {p : Int}, x.length ≤ 100000 → numOf x 999999 = some p → PuG Tryz.prog 71 [S x, I 999999] G (· = Tu [I p, Bo true]) := fun hl h => by
  refine (c_plainNumberB (G := G) (by omega)).mono ?_
  rintro v G' L' ⟨g1, g2, n, rfl, h4, _⟩
  exact ⟨g1, g2, by rw [h4 _ h, h]; rfl⟩
 have cx_pnum := hp hx.1 h1
 clear hp
 refine jE [(0, _), (1, _)] Tryz.func47 Tryz.ntmps47 fun B hB => ?_
 repeat' (first | (refine jR ?_) | (refine k_op rfl ?_; first | refine c_bx rfl rfl rfl fun _ => ?_ | refine jV (g_ld rfl rfl rfl) ?_ | (refine c_rt rfl rfl rfl cx_pnum rfl ?_) | (refine c_pu rfl rfl rfl (c_plainNumber (by omega)) rfl ?_; rintro _ ⟨n, rfl, hnum⟩) | (refine c_rt rfl rfl rfl c_cmpI rfl ?_)) | (refine k_tt rfl rfl ?_))
 refine jZ (vs := [_]) rfl ⟨rfl, trivial⟩ rfl ⟨rfl, rfl, ?_⟩
 obtain rfl := hnum _ h2
 rfl
theorem c_cmp_txt {w : Nat} {x y : List UInt8} {t t' : Int} {a b : Option Addr} {n m k l : Nat} (h : w = 116 ∨ w = 102) : PuG Tryz.prog 47 [Ag [U8 (w : Nat), S x, I t, .slice a n k], Ag [U8 (w : Nat), S y, I t', .slice b m l]] G (· = I (cmpB x y)) := by
 rcases h with rfl | rfl
 all_goals
  refine jE [(0, _), (1, _)] Tryz.func47 Tryz.ntmps47 fun B hB => ?_
  repeat' (first | (refine jR ?_) | (refine k_op rfl ?_; first | refine c_bx rfl rfl rfl fun _ => ?_ | refine jV (g_ld rfl rfl rfl) ?_ | (refine c_rt rfl rfl rfl c_cmpS rfl ?_)) | (refine k_tt rfl rfl ?_) | (refine k_ff rfl rfl ?_))
  refine jZ (vs := [_]) rfl ⟨rfl, trivial⟩ rfl ⟨rfl, rfl, ?_⟩
  rfl
theorem c_cmp_tag {w : Nat} {x y : List UInt8} {t t' : Int} {a b : Option Addr} {n m k l : Nat} (h : w = 69 ∨ (w = 85 ∨ w = 61) ∧ t ≠ t') : PuG Tryz.prog 47 [Ag [U8 (w : Nat), S x, I t, .slice a n k], Ag [U8 (w : Nat), S y, I t', .slice b m l]] G (· = I (sgn t t')) := by
 rcases h with rfl | ⟨rfl | rfl, h⟩
 all_goals
  refine jE [(0, _), (1, _)] Tryz.func47 Tryz.ntmps47 fun B hB => ?_
  repeat' (first | (refine jR ?_) | (refine k_op rfl ?_; first | refine c_bx rfl rfl rfl fun _ => ?_ | refine jV (g_ld rfl rfl rfl) ?_ | (refine c_rt rfl rfl rfl c_cmpI rfl ?_)) | (refine k_tt rfl (by first | rfl | (refine decide_eq_true ?_; (assumption))) ?_) | (refine k_ff rfl rfl ?_))
  refine jZ (vs := [_]) rfl ⟨rfl, trivial⟩ rfl ⟨rfl, rfl, ?_⟩
  rfl
theorem c_cmp_kid {w : Nat} {x y : List UInt8} {t t' z : Int} {a b : Option Addr} {n m k l : Nat} (h : (w = 91 ∨ w = 63 ∨ w = 82) ∨ (w = 85 ∨ w = 61) ∧ t = t') (cx_cf : PuG Tryz.prog fCF [.slice a n k, .slice b m l, .func (.func 47) #[] #[]] G (· = I z)) :
  PuG Tryz.prog 47 [Ag [U8 (w : Nat), S x, I t, .slice a n k], Ag [U8 (w : Nat), S y, I t', .slice b m l]] G (· = I z) := by
 rcases h with (rfl | rfl | rfl) | ⟨rfl | rfl, rfl⟩
 all_goals
  refine jE [(0, _), (1, _)] Tryz.func47 Tryz.ntmps47 fun B hB => ?_
  repeat' (first | (refine jR ?_) | (refine k_op rfl ?_; first | refine c_bx rfl rfl rfl fun _ => ?_ | refine jV (g_ld rfl rfl rfl) ?_ | (refine c_rt rfl rfl rfl cx_cf rfl ?_)) | (refine k_tt rfl rfl ?_) | (refine k_ff rfl (by first | rfl | (refine decide_eq_false ?_; (omega))) ?_))
  refine jZ (vs := [_]) rfl ⟨rfl, trivial⟩ rfl ⟨rfl, rfl, ?_⟩
  rfl
theorem num_wf {x : List UInt8} {t : Int} {ks : List V} (h : V.wf (.nd 110 x t ks)) : ∃ m : Int, numOf x 999999 = some m := by
 rw [V.wf] at h
 have h1 := h.1
 unfold wfW at h1
 simp only [Nat.reduceEqDiff, false_and, or_false, true_and] at h1
 obtain ⟨_, _, m, h2, h3, _, h4⟩ := h1
 exact ⟨m, h4⟩
theorem c_cmp : ∀ (n : Nat) {v u : V} {c d : VC}, v.tot ≤ n → v.tot ≤ 100000 → u.tot ≤ 100000 → v.wf → u.wf → V.ck v u → V.rep G v c → V.rep G u d → PuG Tryz.prog 47 [Ag (vcF c), Ag (vcF d)] G (· = I (v.cmp u)) := by
 intro n
 induction n with
 | zero => intro v u c d h1; have := tot_pos v; omega
 | succ n ih =>
  intro v u c d h1 h2 h3 hv hu hck hr hs
  obtain ⟨w, x, t, ks⟩ := v
  obtain ⟨w', y, t', us⟩ := u
  obtain ⟨hw, hck⟩ := ck_inv hck
  simp only [V.what] at hw
  subst hw
  simp only [V.tag, V.kids] at hck
  rw [nd_tot] at h1 h2 h3
  obtain ⟨a, k, cs, rfl, _, _, _, hcl, hsl, hks⟩ := rep_inv hr
  obtain ⟨b, l, ds, rfl, _, _, _, hdl, hsm, hus⟩ := rep_inv hs
  have hkl := tots_len ks
  have hul := tots_len us
  simp only [vcF, VC.sl]
  have hvv := hv
  have huu := hu
  rw [V.wf] at hv hu
  have hW := hv.1
  by_cases h110 : w = 110
  ·subst h110
   obtain ⟨p, hp⟩ := num_wf hvv
   obtain ⟨q, hq⟩ := num_wf huu
   have e : V.cmp (.nd 110 x t ks) (.nd 110 y t' us) = sgn p q := by rw [V.cmp, if_pos rfl, hp, V.text, hq]; rfl
   rw [e]
   exact c_cmp_num (by omega) hp hq
  by_cases htx : w = 116 ∨ w = 102
  ·have e : V.cmp (.nd w x t ks) (.nd w y t' us) = cmpB x y := by rw [V.cmp, if_neg h110, if_pos htx]; rfl
   rw [e]; exact c_cmp_txt htx
  by_cases h69 : w = 69
  ·have e : V.cmp (.nd w x t ks) (.nd w y t' us) = sgn t t' := by rw [V.cmp, if_neg h110, if_neg htx, if_pos h69]; rfl
   rw [e]; exact c_cmp_tag (.inl h69)
  by_cases htg : (w = 85 ∨ w = 61) ∧ t ≠ t'
  ·have e : V.cmp (.nd w x t ks) (.nd w y t' us) = sgn t t' := by rw [V.cmp, if_neg h110, if_neg htx, if_neg h69]; exact if_pos htg
   rw [e]; exact c_cmp_tag (.inr htg)
  have e : V.cmp (.nd w x t ks) (.nd w y t' us) = V.cmps ks us := by rw [V.cmp, if_neg h110, if_neg htx, if_neg h69]; exact if_neg htg
  rw [e]
  have hcks := hck.resolve_left htg
  refine c_cmp_kid ?_ (c_cmpF (by omega) (by omega) hcl hdl hsl hsm fun i hi hj => ?_)
  ·unfold wfW at hW
   by_cases h5 : w = 85 ∨ w = 61
   ·exact .inr ⟨h5, by by_cases e : t = t'; exact e; exact absurd ⟨h5, e⟩ htg⟩
   ·exact .inl (by omega)
  ·have h4 := tot_nth hi
   have h5 := tot_nth hj
   exact ih (by omega) (by omega) (by omega) (wf_nth hv.2 hi) (wf_nth hu.2 hj) (cks_nth hcks i hi hj) (reps_nth hks i hi) (reps_nth hus i hj)
theorem wf_kids {w : Nat} {x : List UInt8} {t : Int} {ks : List V} (h : V.wf (.nd w x t ks)) : V.wfs ks := by rw [V.wf] at h; exact h.2
theorem slv_onec {b cc : Nat} {v : Value} (h0 : 1 ≤ cc) (h : Seg G b 0 [v]) : SlV G (.slice (some ⟨b, 0, none⟩) 1 cc) 1 1 [v] := ⟨rfl, .inr ⟨b, 0, cc, rfl, h0, h⟩⟩
theorem slv_one {b : Nat} {v : Value} (h : Seg G b 0 [v]) : SlV G (.slice (some ⟨b, 0, none⟩) 1 1) 1 1 [v] := ⟨rfl, .inr ⟨b, 0, 1, rfl, Nat.le_refl _, h⟩⟩
end Go.E
