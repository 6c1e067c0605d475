/- Contracts and plain laws that the statement rests on, part 6. Conditions: as each says. -/
import Derived.Test.YtaafndolbdancaaGreatDoorZ5
set_option linter.unusedVariables false
set_option linter.unusedSimpArgs false
namespace Go.E
set_option maxRecDepth 20000
set_option maxHeartbeats 2000000
def rbFlag : List UInt8 → Option (Bool × List UInt8)
 | [] => none
 | b :: r => if b.toNat = 0 then some (false, r) else if b.toNat = 1 then some (true, r) else none
theorem fldT_tagI {fs : List Fld} {n : Int} {d : Fld} (h : fldT fs n = some d) : d.tag = n ∧ d ∈ fs := ⟨by have := List.find?_some h; simpa using this, List.mem_of_find?_eq_some h⟩
theorem kind_64 {ts : List Ty} {k : List UInt8} {t : Ty} (h : refT ts k = some t) : ∃ k', k = 64 :: k' := by
 cases k with
 | nil => simp [refT, refN] at h
 | cons c k' =>
  by_cases h64 : c.toNat = 64
  ·exact ⟨k', by rw [show c = 64 from UInt8.toNat_inj.1 h64]⟩
  ·exact (refT_no h rfl h64).elim
def rkItems (st : Bool) (f : List UInt8 → Option (V × List UInt8)) : Nat → List UInt8 → List V → Option (List V × List UInt8)
 | 0, _, _ => none
 | m + 1, s, acc => match rbFlag s with
  | none => none
  | some (false, r) => some (acc, r)
  | some (true, r) => match f r with
   | none => none
   | some (v, r') => if st = true ∧ 20 ≤ acc.length then none else rkItems st f m r' (acc ++ [v])
def rkFlds (st : Bool) (ts : List Ty) (f : List UInt8 → List UInt8 → Option (V × List UInt8)) (t : Ty) : Nat → Int → List UInt8 → List V → Option (List V × List UInt8)
 | 0, _, _, _ => none
 | m + 1, last, s, acc => match rbFlag s with
  | none => none
  | some (false, r) => some (acc, r)
  | some (true, []) => none
  | some (true, b :: r) => match fldT t.fields (b.toNat : Int) with
   | none => none
   | some d => match f d.kind r with
    | none => none
    | some (v, r') => if st = true ∧ (d.tag ≤ last ∨ v.out = standF ts d) then none else rkFlds st ts f t m d.tag r' (acc ++ [.nd 61 [] d.tag [v]])
def rkTyped (st : Bool) (ts : List Ty) (f : List UInt8 → List UInt8 → Option (V × List UInt8)) (t : Ty) (s : List UInt8) : Option (V × List UInt8) :=
 if t.sort = 82 then (rkFlds st ts f t (s.length + 1) 0 s []).map fun x => (.nd 82 [] 0 x.1, x.2) else match s with
  | [] => none
  | b :: r => match fldT t.fields (b.toNat : Int) with
   | none => none
   | some d => if t.sort = 69 then some (.nd 69 [] d.tag [], r) else (f d.kind r).map fun x => (.nd 85 [] d.tag [x.1], x.2)
def num3 (a b c : UInt8) : Nat := a.toNat * 65536 + b.toNat * 256 + c.toNat
def rkNum (st : Bool) : List UInt8 → Option (V × List UInt8)
 | a :: b :: c :: r => if st = true ∧ 999999 < num3 a b c then none else some (.nd 110 (decI (num3 a b c : Nat)) 0 [], r)
 | _ => none
def rkText (s : List UInt8) : Option (V × List UInt8) := match cut1 0 s with
 | (x, r, true) => if isTx (39 :: (x ++ [39])) = true then some (.nd 116 x 0 [], r) else none
 | _ => none
def rkK (st : Bool) (ts : List Ty) (f : List UInt8 → List UInt8 → Option (V × List UInt8)) : List UInt8 → List UInt8 → Option (V × List UInt8)
 | [], _ => none
 | c :: k, s =>
  if c.toNat = 91 then (rkItems st (f k) (s.length + 1) s []).map fun x => (.nd 91 [] 0 x.1, x.2)
  else if c.toNat = 63 then (match rbFlag s with
   | none => none
   | some (false, r) => some (.nd 63 [] 0 [], r)
   | some (true, r) => (f k r).map fun x => (.nd 63 [] 0 [x.1], x.2))
  else match refT ts (c :: k) with
   | some t => rkTyped st ts f t s
   | none => if c.toNat = 110 then rkNum st s else if c.toNat = 116 then rkText s
    else if c.toNat = 102 then (rbFlag s).map fun x => (.nd 102 (if x.1 = true then [121, 101, 115] else [110, 111]) 0 [], x.2) else none
def rk (st : Bool) (ts : List Ty) : Nat → List UInt8 → List UInt8 → Option (V × List UInt8)
 | 0, _, _ => none
 | n + 1, k, s => rkK st ts (rk st ts n) k s
theorem rbFlag_inv {s r : List UInt8} {b : Bool} (h : rbFlag s = some (b, r)) : s = (if b = true then 1 else 0) :: r := by
 unfold rbFlag at h
 split at h
 ·cases h
 ·rename_i c q
  split at h
  ·rename_i hc
   simp only [Option.some.injEq, Prod.mk.injEq] at h
   obtain ⟨rfl, rfl⟩ := h
   rw [u8_eq hc dC]; rfl
  ·split at h
   ·rename_i hc
    simp only [Option.some.injEq, Prod.mk.injEq] at h
    obtain ⟨rfl, rfl⟩ := h
    rw [u8_eq hc dC]; rfl
   ·cases h
theorem rbFlag_0 (r : List UInt8) : rbFlag (0 :: r) = some (false, r) := by rw [rbFlag, if_pos dC]
theorem rbFlag_1 (r : List UInt8) : rbFlag (1 :: r) = some (true, r) := by rw [rbFlag, if_neg dC, if_pos dC]
section
variable {ts : List Ty}
theorem rkItems_weak {f g : List UInt8 → Option (V × List UInt8)} (h : ∀ s x, f s = some x → g s = some x) : ∀ (m : Nat) (s : List UInt8) (acc : List V) {x : List V × List UInt8}, rkItems true f m s acc = some x → rkItems false g m s acc = some x
 | 0, _, _, _, e => by cases e
 | m + 1, s, acc, x, e => by
  unfold rkItems at e ⊢
  cases hb : rbFlag s with
  | none => rw [hb] at e; cases e
  | some y =>
   rw [hb] at e
   obtain ⟨b, r⟩ := y
   cases b with
   | false => exact e
   | true =>
    dsimp only at e ⊢
    cases hf : f r with
    | none => rw [hf] at e; cases e
    | some y =>
     rw [hf] at e; rw [h r y hf]
     obtain ⟨v, r'⟩ := y
     dsimp only at e ⊢
     split at e
     ·cases e
     ·rw [if_neg (by simp)]; exact rkItems_weak h m r' _ e
theorem rkFlds_weak {f g : List UInt8 → List UInt8 → Option (V × List UInt8)} (h : ∀ k s x, f k s = some x → g k s = some x) {t : Ty} : ∀ (m : Nat) (last : Int) (s : List UInt8) (acc : List V) {x : List V × List UInt8}, rkFlds true ts f t m last s acc = some x → rkFlds false ts g t m last s acc = some x
 | 0, _, _, _, _, e => by cases e
 | m + 1, last, s, acc, x, e => by
  unfold rkFlds at e ⊢
  cases hb : rbFlag s with
  | none => rw [hb] at e; cases e
  | some y =>
   rw [hb] at e
   obtain ⟨b, r⟩ := y
   cases b with
   | false => exact e
   | true =>
    cases r with
    | nil => exact e
    | cons b r =>
     dsimp only at e ⊢
     cases hd : fldT t.fields (b.toNat : Int) with
     | none => rw [hd] at e; cases e
     | some d =>
      rw [hd] at e
      dsimp only at e ⊢
      cases hf : f d.kind r with
      | none => rw [hf] at e; cases e
      | some y =>
       rw [hf] at e; rw [h _ r y hf]
       obtain ⟨v, r'⟩ := y
       dsimp only at e ⊢
       split at e
       ·cases e
       ·rw [if_neg (by simp)]; exact rkFlds_weak h m d.tag r' _ e
theorem rk_weak : ∀ (n : Nat) (k s : List UInt8) {x : V × List UInt8}, rk true ts n k s = some x → rk false ts n k s = some x
 | 0, _, _, _, e => by cases e
 | n + 1, k, s, x, e => by
  have ih : ∀ k s x, rk true ts n k s = some x → rk false ts n k s = some x := fun k s x e => rk_weak n k s e
  replace e : rkK true ts (rk true ts n) k s = some x := e
  show rkK false ts (rk false ts n) k s = some x
  cases k with
  | nil => cases e
  | cons c k =>
   unfold rkK at e ⊢
   dsimp only at e ⊢
   by_cases h91 : c.toNat = 91
   ·rw [if_pos h91] at e ⊢
    cases hf : rkItems true (rk true ts n k) (s.length + 1) s [] with
    | none => rw [hf] at e; cases e
    | some y => rw [hf] at e; rw [rkItems_weak (ih k) _ _ _ hf]; exact e
   ·rw [if_neg h91] at e ⊢
    by_cases h63 : c.toNat = 63
    ·rw [if_pos h63] at e ⊢
     cases hb : rbFlag s with
     | none => rw [hb] at e; cases e
     | some y =>
      rw [hb] at e
      obtain ⟨b, r⟩ := y
      cases b with
      | false => exact e
      | true =>
       dsimp only at e ⊢
       cases hf : rk true ts n k r with
       | none => rw [hf] at e; cases e
       | some y => rw [hf] at e; rw [ih _ _ _ hf]; exact e
    ·rw [if_neg h63] at e ⊢
     cases hr : refT ts (c :: k) with
     | some t =>
      rw [hr] at e
      dsimp only at e ⊢
      unfold rkTyped at e ⊢
      by_cases h82 : t.sort = 82
      ·rw [if_pos h82] at e ⊢
       cases hf : rkFlds true ts (rk true ts n) t (s.length + 1) 0 s [] with
       | none => rw [hf] at e; cases e
       | some y => rw [hf] at e; rw [rkFlds_weak ih _ _ _ _ hf]; exact e
      ·rw [if_neg h82] at e ⊢
       cases s with
       | nil => exact e
       | cons b r =>
        dsimp only at e ⊢
        cases hd : fldT t.fields (b.toNat : Int) with
        | none => rw [hd] at e; cases e
        | some d =>
         rw [hd] at e
         dsimp only at e ⊢
         by_cases h69 : t.sort = 69
         ·rw [if_pos h69] at e ⊢; exact e
         ·rw [if_neg h69] at e ⊢
          cases hf : rk true ts n d.kind r with
          | none => rw [hf] at e; cases e
          | some y => rw [hf] at e; rw [ih _ _ _ hf]; exact e
     | none =>
      rw [hr] at e
      dsimp only at e ⊢
      by_cases h1 : c.toNat = 110
      ·rw [if_pos h1] at e ⊢
       unfold rkNum at e ⊢
       split at e
       ·split at e
        ·cases e
        ·rw [if_neg (by simp)]; exact e
       ·cases e
      ·rw [if_neg h1] at e ⊢; exact e
theorem num3_key {a b c : UInt8} : [u8 ((num3 a b c : Nat) / 65536 : Int), u8 ((num3 a b c : Nat) / 256 : Int), u8 (num3 a b c : Nat)] = [a, b, c] := by
 have h1 := a.toNat_lt
 have h2 := b.toNat_lt
 have h3 := c.toNat_lt
 unfold num3
 have e1 : (((a.toNat * 65536 + b.toNat * 256 + c.toNat : Nat) : Int) / 65536 % 256).toNat = a.toNat := oM
 have e2 : (((a.toNat * 65536 + b.toNat * 256 + c.toNat : Nat) : Int) / 256 % 256).toNat = b.toNat := oM
 have e3 : (((a.toNat * 65536 + b.toNat * 256 + c.toNat : Nat) : Int) % 256).toNat = c.toNat := oM
 unfold u8
 rw [e1, e2, e3]; simp
theorem rkItems_key {f : List UInt8 → Option (V × List UInt8)} {p : V → Prop} (h : ∀ s v r, f s = some (v, r) → p v ∧ s = v.key ++ r) : ∀ (m : Nat) (s : List UInt8) (acc : List V) {vs : List V} {r : List UInt8}, rkItems true f m s acc = some (vs, r) → acc.length ≤ 20 → (∀ v ∈ acc, p v) →
  (∀ v ∈ vs, p v) ∧ vs.length ≤ 20 ∧ ∃ us, vs = acc ++ us ∧ s = mrk [1] (V.keys us) ++ 0 :: r
 | 0, _, _, _, _, e, _, _ => by cases e
 | m + 1, s, acc, vs, r, e, hl, ha => by
  unfold rkItems at e
  cases hb : rbFlag s with
  | none => rw [hb] at e; cases e
  | some y =>
   rw [hb] at e
   obtain ⟨b, q⟩ := y
   have hs := rbFlag_inv hb
   cases b with
   | false =>
    simp only [Option.some.injEq, Prod.mk.injEq] at e
    obtain ⟨rfl, rfl⟩ := e
    exact ⟨ha, hl, [], by simp, by rw [hs]; simp [V.keys, mrk]⟩
   | true =>
    dsimp only at e
    cases hf : f q with
    | none => rw [hf] at e; cases e
    | some y =>
     rw [hf] at e
     obtain ⟨v, r'⟩ := y
     obtain ⟨hp, hq⟩ := h _ _ _ hf
     dsimp only at e
     split at e
     ·cases e
     ·rename_i hc
      obtain ⟨g1, g2, us, g3, g4⟩ := rkItems_key h m r' (acc ++ [v]) e (by simp at hc; simp; omega) (fun u hu => by
       rcases List.mem_append.1 hu with hu | hu
       ·exact ha u hu
       ·simp only [List.mem_singleton] at hu; subst hu; exact hp)
      refine ⟨g1, g2, v :: us, by rw [g3]; simp, ?_⟩
      rw [hs, hq, g4]
      simp [V.keys, mrk]
theorem key_fld (p : Fld × V) : (fldV p).key = u8 p.1.tag :: p.2.key := by
 show V.key (.nd 61 [] p.1.tag [p.2]) = _
 rw [V.key]; simp [V.keys, keyW]
theorem rkFlds_key {f : List UInt8 → List UInt8 → Option (V × List UInt8)} {p : List UInt8 → V → Prop} (h : ∀ k s v r, f k s = some (v, r) → p k v ∧ s = v.key ++ r) {t : Ty} : ∀ (m : Nat) (last : Int) (s : List UInt8) (fs : List (Fld × V)) {vs : List V} {r : List UInt8}, rkFlds true ts f t m last s (fs.map fldV) = some (vs, r) → (∀ q ∈ fs, q.1 ∈ t.fields ∧ p q.1.kind q.2 ∧ q.2.out ≠ standF ts q.1 ∧ q.1.tag ≤ last) → fs.Pairwise (fun a b => a.1.tag < b.1.tag) →
  ∃ gs hs : List (Fld × V), vs = gs.map fldV ∧ (∀ q ∈ gs, q.1 ∈ t.fields ∧ p q.1.kind q.2 ∧ q.2.out ≠ standF ts q.1) ∧ gs.Pairwise (fun a b => a.1.tag < b.1.tag) ∧ gs = fs ++ hs ∧ s = mrk [1] (V.keys (hs.map fldV)) ++ 0 :: r
 | 0, _, _, _, _, _, e, _, _ => by cases e
 | m + 1, last, s, fs, vs, r, e, ha, hp => by
  unfold rkFlds at e
  cases hb : rbFlag s with
  | none => rw [hb] at e; cases e
  | some y =>
   rw [hb] at e
   obtain ⟨b, q⟩ := y
   have hs := rbFlag_inv hb
   cases b with
   | false =>
    simp only [Option.some.injEq, Prod.mk.injEq] at e
    obtain ⟨rfl, rfl⟩ := e
    exact ⟨fs, [], rfl, fun q hq => ⟨(ha q hq).1, (ha q hq).2.1, (ha q hq).2.2.1⟩, hp, by simp, by rw [hs]; simp [V.keys, mrk]⟩
   | true =>
    cases q with
    | nil => cases e
    | cons b q =>
     dsimp only at e
     cases hd : fldT t.fields (b.toNat : Int) with
     | none => rw [hd] at e; cases e
     | some d =>
      rw [hd] at e
      obtain ⟨hd1, hd2⟩ := fldT_tagI hd
      dsimp only at e
      cases hf : f d.kind q with
      | none => rw [hf] at e; cases e
      | some y =>
       rw [hf] at e
       obtain ⟨v, r'⟩ := y
       obtain ⟨hp1, hq⟩ := h _ _ _ _ hf
       dsimp only at e
       split at e
       ·cases e
       ·rename_i hc
        simp only [true_and, not_or, Int.not_le] at hc
        have e2 : fs.map fldV ++ [V.nd 61 [] d.tag [v]] = (fs ++ [(d, v)]).map fldV := by simp
        rw [e2] at e
        obtain ⟨gs, hs2, g1, g2, g3, g4, g5⟩ := rkFlds_key h m d.tag r' (fs ++ [(d, v)]) e (fun q hq => by
         rcases List.mem_append.1 hq with hq | hq
         ·obtain ⟨a1, a2, a3, a4⟩ := ha q hq; exact ⟨a1, a2, a3, oM⟩
         ·simp only [List.mem_singleton] at hq; subst hq; exact ⟨hd2, hp1, hc.2, Int.le_refl _⟩) (by
         rw [List.pairwise_append]
         refine ⟨hp, List.pairwise_singleton _ _, fun a hA b hB => ?_⟩
         simp only [List.mem_singleton] at hB; subst hB
         have := (ha a hA).2.2.2
         show a.1.tag < d.tag
         omega)
        refine ⟨gs, (d, v) :: hs2, g1, g2, g3, by rw [g4]; simp, ?_⟩
        rw [hs, hq, g5, List.map_cons, V.keys, key_fld]
        simp [mrk, hd1]
theorem rk_key : ∀ (n : Nat) (k s : List UInt8) (v : V) (r : List UInt8), rk true ts n k s = some (v, r) → (OfK ts k v ∧ v.deep ≤ n) ∧ s = v.key ++ r
 | 0, _, _, _, _, e => by cases e
 | n + 1, k, s, v, r, e => by
  have ih := fun k s v r => rk_key n k s v r
  replace e : rkK true ts (rk true ts n) k s = some (v, r) := e
  cases k with
  | nil => cases e
  | cons c k =>
   unfold rkK at e
   dsimp only at e
   split at e
   ·rename_i hc
    obtain rfl := u8_eq hc dC
    cases hi : rkItems true (rk true ts n k) (s.length + 1) s [] with
    | none => rw [hi] at e; cases e
    | some y =>
     rw [hi] at e
     obtain ⟨vs, q⟩ := y
     simp only [Option.map_some, Option.some.injEq, Prod.mk.injEq] at e
     obtain ⟨rfl, rfl⟩ := e
     obtain ⟨h1, h2, us, h3, h4⟩ := rkItems_key (p := fun v => OfK ts k v ∧ v.deep ≤ n) (fun s v r => ih k s v r) _ _ _ hi (by simp) (by simp)
     rw [List.nil_append] at h3
     subst h3
     refine ⟨⟨.lst _ _ h2 fun v hv => (h1 v hv).1, ?_⟩, ?_⟩
     ·rw [deep_nd dC]
      have := V.deeps_le (n := n) fun v hv => (h1 v hv).2
      omega
     ·rw [h4, V.key]; simp [keyW, mrk]
   ·rename_i hc
    split at e
    ·rename_i hc2
     obtain rfl := u8_eq hc2 dC
     split at e
     ·cases e
     ·rename_i q hb
      simp only [Option.some.injEq, Prod.mk.injEq] at e
      obtain ⟨rfl, rfl⟩ := e
      exact ⟨⟨.non _, by rw [deep_nd dC]; simp [V.deeps]⟩, by rw [rbFlag_inv hb, V.key]; simp [keyW, V.keys]⟩
     ·rename_i q hb
      cases hf : rk true ts n k q with
      | none => rw [hf] at e; cases e
      | some y =>
       rw [hf] at e
       obtain ⟨u, q2⟩ := y
       simp only [Option.map_some, Option.some.injEq, Prod.mk.injEq] at e
       obtain ⟨rfl, rfl⟩ := e
       obtain ⟨⟨h1, h2⟩, h3⟩ := ih _ _ _ _ hf
       refine ⟨⟨.opt _ _ h1, ?_⟩, ?_⟩
       ·rw [deep_nd dC]
        have := V.deeps_le (ks := [u]) (n := n) fun v hv => by simp only [List.mem_singleton] at hv; subst hv; exact h2
        omega
       ·rw [rbFlag_inv hb, h3, V.key]; simp [keyW, V.keys]
    ·split at e
     ·rename_i t ht
      unfold rkTyped at e
      split at e
      ·rename_i h82
       cases hf : rkFlds true ts (rk true ts n) t (s.length + 1) 0 s [] with
       | none => rw [hf] at e; cases e
       | some y =>
        rw [hf] at e
        obtain ⟨vs, q⟩ := y
        simp only [Option.map_some, Option.some.injEq, Prod.mk.injEq] at e
        obtain ⟨rfl, rfl⟩ := e
        obtain ⟨gs, hs, e1, e2, e3, e4, e5⟩ := rkFlds_key (fs := []) (p := fun k v => OfK ts k v ∧ v.deep ≤ n) (fun k s v r => ih k s v r) _ _ _ hf (by simp) (by simp)
        rw [List.nil_append] at e4
        subst e4 e1
        refine ⟨⟨.recd _ t gs ht h82 (fun p hp => (e2 p hp).1) (fun p hp => (e2 p hp).2.1.1) (fun p hp => (e2 p hp).2.2) e3, ?_⟩, ?_⟩
        ·rw [deep_nd dC]
         have := V.deeps_le (ks := gs.map fldV) (n := n) fun v hv => by
          obtain ⟨p, hp, rfl⟩ := List.mem_map.1 hv
          have := (e2 p hp).2.1.2
          show V.deep (.nd 61 [] p.1.tag [p.2]) ≤ n
          rw [V.deep, if_pos rfl]
          exact V.deeps_le (ks := [p.2]) fun v hv => by simp only [List.mem_singleton] at hv; subst hv; exact this
         omega
        ·rw [e5, V.key]; simp [keyW, mrk]
      ·rename_i h82
       split at e
       ·cases e
       ·rename_i b q
        split at e
        ·cases e
        ·rename_i d hd
         obtain ⟨hd1, hd2⟩ := fldT_tagI hd
         split at e
         ·rename_i h69
          simp only [Option.some.injEq, Prod.mk.injEq] at e
          obtain ⟨rfl, rfl⟩ := e
          exact ⟨⟨.enm _ t d ht h69 hd2, by rw [deep_nd dC]; simp [V.deeps]⟩, by rw [V.key]; simp [keyW, hd1]⟩
         ·rename_i h69
          cases hf : rk true ts n d.kind q with
          | none => rw [hf] at e; cases e
          | some y =>
           rw [hf] at e
           obtain ⟨u, q2⟩ := y
           simp only [Option.map_some, Option.some.injEq, Prod.mk.injEq] at e
           obtain ⟨rfl, rfl⟩ := e
           obtain ⟨⟨h1, h2⟩, h3⟩ := ih _ _ _ _ hf
           refine ⟨⟨.uni _ t d u ht h82 h69 hd2 h1, ?_⟩, ?_⟩
           ·rw [deep_nd dC]
            have := V.deeps_le (ks := [u]) (n := n) fun v hv => by simp only [List.mem_singleton] at hv; subst hv; exact h2
            omega
           ·rw [h3, V.key]; simp [keyW, V.keys, hd1]
     ·rename_i ht
      split at e
      ·rename_i h1
       obtain rfl := u8_eq h1 dC
       unfold rkNum at e
       split at e
       ·rename_i a b c q
        split at e
        ·cases e
        ·rename_i hl
         simp only [Option.some.injEq, Prod.mk.injEq] at e
         obtain ⟨rfl, rfl⟩ := e
         simp only [true_and, Nat.not_lt] at hl
         refine ⟨⟨.num _ _ oM oM, by rw [deep_nd dC]; simp [V.deeps]⟩, ?_⟩
         rw [V.key]
         unfold keyW
         rw [if_pos rfl, numOf_decI oM oM dC, Option.getD_some, num3_key]; rfl
       ·cases e
      ·split at e
       ·rename_i h1
        obtain rfl := u8_eq h1 dC
        unfold rkText at e
        split at e
        ·rename_i x q hx
         split at e
         ·rename_i hi
          simp only [Option.some.injEq, Prod.mk.injEq] at e
          obtain ⟨rfl, rfl⟩ := e
          exact ⟨⟨.txt _ _ hi, by rw [deep_nd dC]; simp [V.deeps]⟩, by rw [cut1_join (c := 0) dC hx, V.key]; simp [keyW]⟩
         ·cases e
        ·cases e
       ·split at e
        ·rename_i h1
         obtain rfl := u8_eq h1 dC
         cases hb : rbFlag s with
         | none => rw [hb] at e; cases e
         | some y =>
          rw [hb] at e
          obtain ⟨b, q⟩ := y
          simp only [Option.map_some, Option.some.injEq, Prod.mk.injEq] at e
          obtain ⟨rfl, rfl⟩ := e
          have hs := rbFlag_inv hb
          cases b with
          | false => exact ⟨⟨.flg _ _ (.inr rfl), by rw [deep_nd dC]; simp [V.deeps]⟩, by rw [hs, V.key]; simp [keyW]⟩
          | true => exact ⟨⟨.flg _ _ (.inl rfl), by rw [deep_nd dC]; simp [V.deeps]⟩, by rw [hs, V.key]; simp [keyW]⟩
        ·cases e
end
variable {ts : List Ty}
theorem mrk_cons1 (v : V) (ks : List V) : mrk [1] (V.keys (v :: ks)) = 1 :: (v.key ++ mrk [1] (V.keys ks)) := by simp [V.keys, mrk]
theorem rkItems_in {f : List UInt8 → Option (V × List UInt8)} {r : List UInt8} : ∀ (ks : List V) (m : Nat) (acc : List V), ks.length < m → acc.length + ks.length ≤ 20 → (∀ v ∈ ks, ∀ r, f (v.key ++ r) = some (v, r)) → rkItems true f m (mrk [1] (V.keys ks) ++ 0 :: r) acc = some (acc ++ ks, r)
 | [], m, acc, hm, _, _ => by
  obtain ⟨m, rfl⟩ : ∃ n, m = n + 1 := ⟨m - 1, by simp at hm; omega⟩
  have e : mrk [1] (V.keys []) ++ 0 :: r = 0 :: r := by simp [V.keys, mrk]
  rw [e, rkItems, rbFlag_0, List.append_nil]
 | v :: ks, m, acc, hm, hl, h => by
  obtain ⟨m, rfl⟩ : ∃ n, m = n + 1 := ⟨m - 1, by simp at hm; omega⟩
  simp only [List.length_cons] at hm hl
  rw [mrk_cons1, List.cons_append, List.append_assoc, rkItems, rbFlag_1]
  dsimp only
  rw [h v (by simp)]
  dsimp only
  rw [if_neg (by simp; omega), rkItems_in ks m (acc ++ [v]) oM (by simp; omega) fun u hu => h u (by simp [hu])]
  simp
theorem rkFlds_in {f : List UInt8 → List UInt8 → Option (V × List UInt8)} {t : Ty} (hw : TyW t) {r : List UInt8} : ∀ (fs : List (Fld × V)) (m : Nat) (last : Int) (acc : List V), fs.length < m → (∀ p ∈ fs, p.1 ∈ t.fields ∧ p.2.out ≠ standF ts p.1 ∧ last < p.1.tag ∧ ∀ r, f p.1.kind (p.2.key ++ r) = some (p.2, r)) → fs.Pairwise (fun a b => a.1.tag < b.1.tag) →
  rkFlds true ts f t m last (mrk [1] (V.keys (fs.map fldV)) ++ 0 :: r) acc = some (acc ++ fs.map fldV, r)
 | [], m, last, acc, hm, _, _ => by
  obtain ⟨m, rfl⟩ : ∃ n, m = n + 1 := ⟨m - 1, by simp at hm; omega⟩
  have e : mrk [1] (V.keys (([] : List (Fld × V)).map fldV)) ++ 0 :: r = 0 :: r := by simp [V.keys, mrk]
  rw [e, rkFlds, rbFlag_0, List.map_nil, List.append_nil]
 | p :: fs, m, last, acc, hm, hf, hp => by
  obtain ⟨m, rfl⟩ : ∃ n, m = n + 1 := ⟨m - 1, by simp at hm; omega⟩
  obtain ⟨h1, h2, h3, h4⟩ := hf p (by simp)
  have ht := (hw.fld _ h1).tag
  rw [List.pairwise_cons] at hp
  have ih := rkFlds_in (f := f) hw (r := r) fs m p.1.tag (acc ++ [fldV p]) (by simp at hm; omega) (fun q hq => ⟨(hf q (by simp [hq])).1, (hf q (by simp [hq])).2.1, hp.1 q hq, (hf q (by simp [hq])).2.2.2⟩) hp.2
  rw [List.map_cons, mrk_cons1, key_fld, List.cons_append, List.cons_append, List.cons_append, List.append_assoc, rkFlds, rbFlag_1]
  dsimp only
  rw [u8_val oM, fldT_mem hw h1]
  dsimp only
  rw [h4]
  dsimp only
  rw [if_neg (by rintro ⟨_, h | h⟩; omega; exact h2 h)]
  show rkFlds true ts f t m p.1.tag _ (acc ++ [fldV p]) = _
  rw [ih]; simp
theorem keys_ge (ks : List V) : ks.length ≤ (mrk [1] (V.keys ks)).length := by
 induction ks with
 | nil => simp
 | cons v ks ih => rw [mrk_cons1, List.length_cons, List.length_cons, List.length_append]; omega
theorem rkText_in {x r : List UInt8} (h : isTx (39 :: (x ++ [39])) = true) : rkText (x ++ 0 :: r) = some (.nd 116 x 0 [], r) := by
 have hn : ∀ j, j < x.length → bt x j ≠ 0 := fun j hj e => by
  unfold isTx at h
  rw [decide_eq_true_eq] at h
  have h1 := h.2.2.2 (j + 1) (by simp; omega)
  rw [bt_succ] at h1
  have h2 : bt (x ++ [39]) j = bt x j := by simp [bt, List.getD, List.getElem?_append_left hj]
  rw [h2, e] at h1
  rcases h1 with h1 | h1
  ·omega
  ·exact absurd h1 dC
 have h1 := cut1_at (k := 0) (s := x ++ 0 :: r) (i := x.length) (by simp) (fun j hj => by
  have h2 : bt (x ++ 0 :: r) j = bt x j := by simp [bt, List.getD, List.getElem?_append_left hj]
  rw [h2]; exact hn j hj) (by simp [bt, List.getD])
 have h2 : (x ++ 0 :: r).take x.length = x := List.take_left
 have h3 : (x ++ 0 :: r).drop (x.length + 1) = r := by
  rw [show x.length + 1 = (x ++ [0]).length by simp, show x ++ 0 :: r = (x ++ [0]) ++ r by simp, List.drop_left]
 unfold rkText
 rw [h1, h2, h3]
 dsimp only
 rw [if_pos h]
theorem num3_in {m : Int} (h0 : 0 ≤ m) (h1 : m ≤ 999999) : num3 (u8 (m / 65536)) (u8 (m / 256)) (u8 m) = m.toNat := by
  have e1 : ((u8 (m / 65536)).toNat : Int) = m / 65536 % 256 := by have := u8_wrap (m / 65536); have h : IntKind.u8.wrap (m / 65536) = m / 65536 % 256 := by simp [IntKind.wrap, IntKind.bits, IntKind.signed]
                                                                   omega
  have e2 : ((u8 (m / 256)).toNat : Int) = m / 256 % 256 := by have := u8_wrap (m / 256); have h : IntKind.u8.wrap (m / 256) = m / 256 % 256 := by simp [IntKind.wrap, IntKind.bits, IntKind.signed]
                                                               omega
  have e3 : ((u8 m).toNat : Int) = m % 256 := by have := u8_wrap m; have h : IntKind.u8.wrap m = m % 256 := by simp [IntKind.wrap, IntKind.bits, IntKind.signed]
                                                 omega
  unfold num3
  omega
theorem rk_in (hw : SchW ts) : ∀ (n : Nat) {k : List UInt8} {v : V}, OfK ts k v → v.deep ≤ n → ∀ r, rk true ts n k (v.key ++ r) = some (v, r)
 | 0, k, v, h, hd, r => by
  obtain ⟨w, x, t, ks⟩ := v
  have hne : w ≠ 61 := by cases h <;> decide
  rw [deep_nd hne] at hd; omega
 | n + 1, k, v, h, hd, r => by
  have ih := fun {k : List UInt8} {v : V} => rk_in hw n (k := k) (v := v)
  show rkK true ts (rk true ts n) k (v.key ++ r) = some (v, r)
  cases h with
  | num k m h1 h2 =>
   have e : V.key (.nd 110 (decI m) 0 []) = [u8 (m / 65536), u8 (m / 256), u8 m] := by rw [V.key]; unfold keyW; rw [if_pos rfl, numOf_decI h1 h2 dC]; rfl
   have hrf : refT ts (110 :: k) = none := by cases h : refT ts (110 :: k) with | none => rfl | some t => exact (refT_no h rfl dC).elim
   have hn := num3_in h1 h2
   rw [e]
   unfold rkK
   try dsimp only
   rw [if_neg dC, if_neg dC, hrf]
   try dsimp only
   rw [if_pos dC]
   simp only [List.cons_append, List.nil_append, rkNum]
   rw [hn, if_neg oM, Int.toNat_of_nonneg h1]
  | txt k x h1 =>
   have hrf : refT ts (116 :: k) = none := by cases h : refT ts (116 :: k) with | none => rfl | some t => exact (refT_no h rfl dC).elim
   rw [show V.key (.nd 116 x 0 []) = x ++ [0] by rw [V.key]; rfl]
   unfold rkK
   try dsimp only
   rw [if_neg dC, if_neg dC, hrf]
   try dsimp only
   rw [if_neg dC, if_pos dC, List.append_assoc, List.singleton_append, rkText_in h1]
  | flg k x h1 =>
   have hrf : refT ts (102 :: k) = none := by cases h : refT ts (102 :: k) with | none => rfl | some t => exact (refT_no h rfl dC).elim
   unfold rkK
   try dsimp only
   rw [if_neg dC, if_neg dC, hrf]
   try dsimp only
   rw [if_neg dC, if_neg dC, if_pos dC]
   rcases h1 with rfl | rfl
   ·rw [show V.key (.nd 102 [121, 101, 115] 0 []) = [1] by rw [V.key]; rfl]; rfl
   ·rw [show V.key (.nd 102 [110, 111] 0 []) = [0] by rw [V.key]; rfl]; rfl
  | lst k ks h1 h2 =>
   rw [deep_nd dC] at hd
   have e : V.key (.nd 91 [] 0 ks) = mrk [1] (V.keys ks) ++ [0] := by rw [V.key]; simp [keyW, mrk]
   have hg := keys_ge ks
   rw [e, List.append_assoc, List.singleton_append]
   unfold rkK
   try dsimp only
   rw [if_pos dC, rkItems_in ks _ [] (by simp; omega) (by simp; omega) fun v hv r => ih (h2 v hv) (by have := V.deep_mem hv; omega) r]; rfl
  | non k =>
   rw [show V.key (.nd 63 [] 0 []) = [0] by rw [V.key]; rfl]
   unfold rkK
   try dsimp only
   rw [if_neg dC, if_pos dC]; rfl
  | opt k v h1 =>
   rw [deep_nd dC] at hd
   have hd2 : v.deep ≤ n := by have := V.deep_mem (ks := [v]) (v := v) (by simp); omega
   have e : V.key (.nd 63 [] 0 [v]) = 1 :: v.key := by rw [V.key]; simp [V.keys, keyW]
   rw [e]
   unfold rkK
   try dsimp only
   rw [if_neg dC, if_pos dC, List.cons_append, rbFlag_1]
   try dsimp only
   rw [ih h1 hd2]; rfl
  | recd k t fs h1 h2 h3 h4 h5 h6 =>
   rw [deep_nd dC] at hd
   obtain ⟨k', rfl⟩ := kind_64 h1
   have e : V.key (.nd 82 [] 0 (fs.map fldV)) = mrk [1] (V.keys (fs.map fldV)) ++ [0] := by rw [V.key]; simp [keyW, mrk]
   have hg := keys_ge (fs.map fldV)
   rw [List.length_map] at hg
   have hW := hw.ty t (refT_mem h1)
   rw [e, List.append_assoc, List.singleton_append]
   have hF := rkFlds_in (ts := ts) (f := rk true ts n) hW (r := r) fs ((mrk [1] (V.keys (fs.map fldV)) ++ 0 :: r).length + 1) 0 [] (by simp; omega) (fun p hp => by
    have hdp : p.2.deep ≤ n := by
     have h7 := V.deep_mem (List.mem_map_of_mem (f := fldV) hp)
     have h8 : (fldV p).deep = p.2.deep := by
      show V.deep (.nd 61 [] p.1.tag [p.2]) = _
      rw [V.deep, if_pos rfl]; simp [V.deeps]
     omega
    have ht := (hW.fld _ (h3 p hp)).tag
    exact ⟨h3 p hp, h5 p hp, oM, fun r => ih (h4 p hp) hdp r⟩) h6
   unfold rkK
   try dsimp only
   rw [if_neg dC, if_neg dC, h1]
   try dsimp only
   unfold rkTyped
   rw [if_pos h2, hF]; rfl
  | enm k t d h1 h2 h3 =>
   obtain ⟨k', rfl⟩ := kind_64 h1
   have hW := hw.ty t (refT_mem h1)
   have ht := (hW.fld _ h3).tag
   rw [show V.key (.nd 69 [] d.tag []) = [u8 d.tag] by rw [V.key]; rfl]
   unfold rkK
   try dsimp only
   rw [if_neg dC, if_neg dC, h1]
   try dsimp only
   unfold rkTyped
   rw [if_neg oM, List.singleton_append]
   dsimp only
   rw [u8_val oM, fldT_mem hW h3]
   dsimp only
   rw [if_pos h2]
  | uni k t d v h1 h2 h3 h4 h5 =>
   rw [deep_nd dC] at hd
   have hd2 : v.deep ≤ n := by have := V.deep_mem (ks := [v]) (v := v) (by simp); omega
   obtain ⟨k', rfl⟩ := kind_64 h1
   have hW := hw.ty t (refT_mem h1)
   have ht := (hW.fld _ h4).tag
   have e : V.key (.nd 85 [] d.tag [v]) = u8 d.tag :: v.key := by rw [V.key]; simp [V.keys, keyW]
   rw [e]
   unfold rkK
   try dsimp only
   rw [if_neg dC, if_neg dC, h1]
   try dsimp only
   unfold rkTyped
   rw [if_neg h2, List.cons_append]
   dsimp only
   rw [u8_val oM, fldT_mem hW h4]
   dsimp only
   rw [if_neg h3, ih h5 hd2]; rfl
inductive LoK (ts : List Ty) : List UInt8 → V → Prop
 | num (k : List UInt8) (n : Int) : 0 ≤ n → LoK ts (110 :: k) (.nd 110 (decI n) 0 [])
 | txt (k x : List UInt8) : isTx (39 :: (x ++ [39])) = true → LoK ts (116 :: k) (.nd 116 x 0 [])
 | flg (k x : List UInt8) : x = [121, 101, 115] ∨ x = [110, 111] → LoK ts (102 :: k) (.nd 102 x 0 [])
 | lst (k : List UInt8) (ks : List V) : (∀ v ∈ ks, LoK ts k v) → LoK ts (91 :: k) (.nd 91 [] 0 ks)
 | non (k : List UInt8) : LoK ts (63 :: k) (.nd 63 [] 0 [])
 | opt (k : List UInt8) (v : V) : LoK ts k v → LoK ts (63 :: k) (.nd 63 [] 0 [v])
 | recd (k : List UInt8) (t : Ty) (fs : List (Fld × V)) : refT ts k = some t → t.sort = 82 → (∀ p ∈ fs, p.1 ∈ t.fields) → (∀ p ∈ fs, LoK ts p.1.kind p.2) → LoK ts k (.nd 82 [] 0 (fs.map fldV))
 | enm (k : List UInt8) (t : Ty) (d : Fld) : refT ts k = some t → t.sort = 69 → d ∈ t.fields → LoK ts k (.nd 69 [] d.tag [])
 | uni (k : List UInt8) (t : Ty) (d : Fld) (v : V) : refT ts k = some t → t.sort ≠ 82 → t.sort ≠ 69 → d ∈ t.fields → LoK ts d.kind v → LoK ts k (.nd 85 [] d.tag [v])
theorem rkItems_all {f : List UInt8 → Option (V × List UInt8)} {st : Bool} {p : V → Prop} (h : ∀ s y, f s = some y → p y.1) : ∀ (m : Nat) (s : List UInt8) (acc : List V) {x : List V × List UInt8}, rkItems st f m s acc = some x → (∀ v ∈ acc, p v) → (∀ v ∈ x.1, p v) ∧ ∃ us, x.1 = acc ++ us
 | 0, _, _, _, e, _ => by cases e
 | m + 1, s, acc, x, e, ha => by
  unfold rkItems at e
  split at e
  ·cases e
  ·simp only [Option.some.injEq] at e; subst e; exact ⟨ha, [], by simp⟩
  ·split at e
   ·cases e
   ·rename_i v r' hf
    split at e
    ·cases e
    ·obtain ⟨h1, us, h2⟩ := rkItems_all h m r' _ e (fun u hu => by
      rcases List.mem_append.1 hu with hu | hu
      ·exact ha u hu
      ·simp only [List.mem_singleton] at hu; subst hu; exact h _ _ hf)
     exact ⟨h1, v :: us, by rw [h2]; simp⟩
theorem rkFlds_all {f : List UInt8 → List UInt8 → Option (V × List UInt8)} {st : Bool} {p : List UInt8 → V → Prop} (h : ∀ k s y, f k s = some y → p k y.1) {t : Ty} : ∀ (m : Nat) (last : Int) (s : List UInt8) (acc : List V) {x : List V × List UInt8}, rkFlds st ts f t m last s acc = some x → ∃ us : List (Fld × V), x.1 = acc ++ us.map fldV ∧ ∀ q ∈ us, q.1 ∈ t.fields ∧ p q.1.kind q.2
 | 0, _, _, _, _, e => by cases e
 | m + 1, last, s, acc, x, e => by
  unfold rkFlds at e
  split at e
  ·cases e
  ·simp only [Option.some.injEq] at e; subst e; exact ⟨[], by simp, by simp⟩
  ·cases e
  ·split at e
   ·cases e
   ·rename_i d hd
    obtain ⟨hd1, hd2⟩ := fldT_tagI hd
    split at e
    ·cases e
    ·rename_i v r' hf
     split at e
     ·cases e
     ·obtain ⟨us, h1, h2⟩ := rkFlds_all h m d.tag r' _ e
      refine ⟨(d, v) :: us, by rw [h1]; simp, fun q hq => ?_⟩
      rcases List.mem_cons.1 hq with rfl | hq
      ·exact ⟨hd2, h _ _ _ hf⟩
      ·exact h2 q hq
theorem rk_lo : ∀ (n : Nat) (k s : List UInt8) (x : V × List UInt8), rk false ts n k s = some x → LoK ts k x.1 ∧ x.1.deep ≤ n
 | 0, _, _, _, e => by cases e
 | n + 1, k, s, x, e => by
  have ih : ∀ k s y, rk false ts n k s = some y → LoK ts k y.1 ∧ y.1.deep ≤ n := fun k s y hy => rk_lo n k s y hy
  replace e : rkK false ts (rk false ts n) k s = some x := e
  cases k with
  | nil => cases e
  | cons c k =>
   unfold rkK at e
   dsimp only at e
   split at e
   ·rename_i hc
    obtain rfl := u8_eq hc dC
    cases hi : rkItems false (rk false ts n k) (s.length + 1) s [] with
    | none => rw [hi] at e; cases e
    | some y =>
     rw [hi] at e
     simp only [Option.map_some, Option.some.injEq] at e; subst e
     obtain ⟨h1, _⟩ := rkItems_all (p := fun v => LoK ts k v ∧ v.deep ≤ n) (fun s y hy => ih k s y hy) _ _ _ hi (by simp)
     refine ⟨.lst _ _ fun v hv => (h1 v hv).1, ?_⟩
     rw [deep_nd dC]
     have := V.deeps_le (n := n) fun v hv => (h1 v hv).2
     omega
   ·split at e
    ·rename_i hc2
     obtain rfl := u8_eq hc2 dC
     split at e
     ·cases e
     ·simp only [Option.some.injEq] at e; subst e
      exact ⟨.non _, by rw [deep_nd dC]; simp [V.deeps]⟩
     ·rename_i q hb
      cases hf : rk false ts n k q with
      | none => rw [hf] at e; cases e
      | some y =>
       rw [hf] at e
       simp only [Option.map_some, Option.some.injEq] at e; subst e
       obtain ⟨h1, h2⟩ := ih _ _ _ hf
       refine ⟨.opt _ _ h1, ?_⟩
       rw [deep_nd dC]
       have := V.deeps_le (ks := [y.1]) (n := n) fun v hv => by simp only [List.mem_singleton] at hv; subst hv; exact h2
       omega
    ·split at e
     ·rename_i t ht
      unfold rkTyped at e
      split at e
      ·rename_i h82
       cases hf : rkFlds false ts (rk false ts n) t (s.length + 1) 0 s [] with
       | none => rw [hf] at e; cases e
       | some y =>
        rw [hf] at e
        simp only [Option.map_some, Option.some.injEq] at e; subst e
        obtain ⟨us, e1, e2⟩ := rkFlds_all (p := fun k v => LoK ts k v ∧ v.deep ≤ n) ih _ _ _ _ hf
        rw [List.nil_append] at e1
        dsimp only
        rw [e1]
        refine ⟨.recd _ t us ht h82 (fun p hp => (e2 p hp).1) (fun p hp => (e2 p hp).2.1), ?_⟩
        rw [deep_nd dC]
        have := V.deeps_le (ks := us.map fldV) (n := n) fun v hv => by
         obtain ⟨p, hp, rfl⟩ := List.mem_map.1 hv
         have := (e2 p hp).2.2
         show V.deep (.nd 61 [] p.1.tag [p.2]) ≤ n
         rw [V.deep, if_pos rfl]
         exact V.deeps_le (ks := [p.2]) fun v hv => by simp only [List.mem_singleton] at hv; subst hv; exact this
        omega
      ·rename_i h82
       split at e
       ·cases e
       ·split at e
        ·cases e
        ·rename_i d hd
         obtain ⟨hd1, hd2⟩ := fldT_tagI hd
         split at e
         ·rename_i h69
          simp only [Option.some.injEq] at e; subst e
          exact ⟨.enm _ t d ht h69 hd2, by rw [deep_nd dC]; simp [V.deeps]⟩
         ·rename_i h69
          rename_i b q _
          cases hf : rk false ts n d.kind q with
          | none => rw [hf] at e; cases e
          | some y =>
           rw [hf] at e
           simp only [Option.map_some, Option.some.injEq] at e; subst e
           obtain ⟨h1, h2⟩ := ih _ _ _ hf
           refine ⟨.uni _ t d y.1 ht h82 h69 hd2 h1, ?_⟩
           rw [deep_nd dC]
           have := V.deeps_le (ks := [y.1]) (n := n) fun v hv => by simp only [List.mem_singleton] at hv; subst hv; exact h2
           omega
     ·split at e
      ·rename_i h1
       obtain rfl := u8_eq h1 dC
       unfold rkNum at e
       split at e
       ·split at e
        ·cases e
        ·simp only [Option.some.injEq] at e; subst e
         exact ⟨.num _ _ oM, by rw [deep_nd dC]; simp [V.deeps]⟩
       ·cases e
      ·split at e
       ·rename_i h1
        obtain rfl := u8_eq h1 dC
        unfold rkText at e
        split at e
        ·split at e
         ·rename_i hi
          simp only [Option.some.injEq] at e; subst e
          exact ⟨.txt _ _ hi, by rw [deep_nd dC]; simp [V.deeps]⟩
         ·cases e
        ·cases e
       ·split at e
        ·rename_i h1
         obtain rfl := u8_eq h1 dC
         cases hb : rbFlag s with
         | none => rw [hb] at e; cases e
         | some y =>
          rw [hb] at e
          simp only [Option.map_some, Option.some.injEq] at e; subst e
          refine ⟨.flg _ _ ?_, by rw [deep_nd dC]; simp [V.deeps]⟩
          split
          ·exact .inl rfl
          ·exact .inr rfl
        ·cases e
end Go.E
namespace Go.E
set_option maxRecDepth 20000
set_option maxHeartbeats 2000000
variable {ts : List Ty}
theorem lo_head {k : List UInt8} {v : V} (h : LoK ts k v) : ∃ c r, v.out = c :: r ∧ c.toNat ≠ 93 := by
 cases h with
 | num k n h1 => obtain ⟨c, r, e, hc⟩ := decI_cons h1; have := dg_ne hc; exact ⟨c, r, by rw [V.out]; exact e, oM⟩
 | txt k x => exact ⟨39, _, by rw [V.out]; rfl, by decide⟩
 | flg k x h => rcases h with rfl | rfl; exact ⟨121, _, by rw [V.out]; rfl, by decide⟩; exact ⟨110, _, by rw [V.out]; rfl, by decide⟩
 | lst => exact ⟨91, _, by rw [V.out]; rfl, by decide⟩
 | non => exact ⟨45, _, by rw [V.out]; rfl, by decide⟩
 | opt => exact ⟨43, _, by rw [V.out]; rfl, by decide⟩
 | recd => exact ⟨123, _, by rw [V.out]; rfl, by decide⟩
 | enm => exact ⟨35, _, by rw [V.out]; rfl, by decide⟩
 | uni => exact ⟨60, _, by rw [V.out]; rfl, by decide⟩
theorem rdItems_lo {f : List UInt8 → Option (V × List UInt8)} {rest : List UInt8} : ∀ (ks : List V) (m : Nat) (acc : List V) {us : List V} {r' : List UInt8}, ks ≠ [] → (∀ v ∈ ks, ∀ r, Dl r → ∀ u r', f (v.out ++ r) = some (u, r') → u = v ∧ r' = r) → rdItems f m (joinB 44 (ks.map V.out) ++ 93 :: rest) acc = some (us, r') → us = acc ++ ks ∧ r' = rest
 | [], _, _, _, _, h, _, _ => absurd rfl h
 | v :: ks, 0, _, _, _, _, _, e => by cases e
 | [v], m + 1, acc, us, r', _, hf, e => by
  unfold rdItems at e
  simp only [List.map_cons, List.map_nil, joinB] at e
  split at e
  ·cases e
  ·rename_i u r1 hu
   obtain ⟨rfl, rfl⟩ := hf v (by simp) _ (dl_cons dC) _ _ hu
   dsimp only at e
   rw [if_neg dC, if_pos dC] at e
   simp only [Option.some.injEq, Prod.mk.injEq] at e
   exact ⟨e.1.symm, e.2.symm⟩
 | v :: w :: ks, m + 1, acc, us, r', _, hf, e => by
  unfold rdItems at e
  simp only [List.map_cons, joinB, List.append_assoc, List.cons_append] at e
  split at e
  ·cases e
  ·rename_i u r1 hu
   obtain ⟨rfl, rfl⟩ := hf v (by simp) _ (dl_cons dC) _ _ hu
   dsimp only at e
   rw [if_pos dC] at e
   have := rdItems_lo (rest := rest) (w :: ks) m (acc ++ [u]) (by simp) (fun x hx => hf x (by simp [hx])) (by simpa only [List.map_cons] using e)
   exact ⟨by rw [this.1]; simp, this.2⟩
theorem rdField_lo {f : List UInt8 → List UInt8 → Option (V × List UInt8)} {t : Ty} (hw : TyW t) {d : Fld} {s : List UInt8} {x : Fld × V} {r' : List UInt8} (h : d ∈ t.fields) (e : rdField f t (decI d.tag ++ 61 :: s) = some (x, r')) : x.1 = d ∧ f d.kind s = some (x.2, r') := by
 have ht := (hw.fld d h).tag
 unfold rdField at e
 rw [rdNum_in oM ht.2 dC (dl_cons dC)] at e
 dsimp only at e
 rw [fldT_mem hw h] at e
 dsimp only at e
 rw [if_pos dC] at e
 cases hf : f d.kind s with
 | none => rw [hf] at e; cases e
 | some y =>
  rw [hf] at e
  simp only [Option.map_some, Option.some.injEq, Prod.mk.injEq] at e
  obtain ⟨rfl, rfl⟩ := e
  exact ⟨rfl, rfl⟩
theorem rdFlds_lo {f : List UInt8 → List UInt8 → Option (V × List UInt8)} {t : Ty} (hw : TyW t) {rest : List UInt8} : ∀ (fs : List (Fld × V)) (m : Nat) (last : Int) (acc : List V) {us : List V} {r' : List UInt8}, fs ≠ [] → (∀ p ∈ fs, p.1 ∈ t.fields ∧ ∀ r, Dl r → ∀ u r', f p.1.kind (p.2.out ++ r) = some (u, r') → u = p.2 ∧ r' = r) →
  rdFlds ts f t m last (joinB 44 ((fs.map fldV).map V.out) ++ 125 :: rest) acc = some (us, r') → us = acc ++ fs.map fldV ∧ r' = rest
 | [], _, _, _, _, _, h, _, _ => absurd rfl h
 | p :: fs, 0, _, _, _, _, _, _, e => by cases e
 | [p], m + 1, last, acc, us, r', _, hf, e => by
  obtain ⟨h1, h2⟩ := hf p (by simp)
  unfold rdFlds at e
  simp only [List.map_cons, List.map_nil, joinB, fldV, out_fld, List.append_assoc, List.cons_append] at e
  split at e
  ·cases e
  ·rename_i d v r1 hu
   obtain ⟨h3, h4⟩ := rdField_lo hw h1 hu
   obtain ⟨h5, h6⟩ := h2 _ (dl_cons dC) _ _ h4
   dsimp only at h3 h5
   subst h3 h5 h6
   split at e
   ·cases e
   ·dsimp only at e
    rw [if_neg dC, if_pos dC] at e
    simp only [Option.some.injEq, Prod.mk.injEq] at e
    exact ⟨e.1.symm, e.2.symm⟩
 | p :: q :: fs, m + 1, last, acc, us, r', _, hf, e => by
  obtain ⟨h1, h2⟩ := hf p (by simp)
  unfold rdFlds at e
  simp only [List.map_cons, joinB, out_fld, List.append_assoc, List.cons_append] at e
  split at e
  ·cases e
  ·rename_i d v r1 hu
   obtain ⟨h3, h4⟩ := rdField_lo hw h1 hu
   obtain ⟨h5, h6⟩ := h2 _ (dl_cons dC) _ _ h4
   dsimp only at h3 h5
   subst h3 h5 h6
   split at e
   ·cases e
   ·dsimp only at e
    rw [if_pos dC] at e
    have := rdFlds_lo hw (rest := rest) (q :: fs) m p.1.tag (acc ++ [fldV p]) (by simp) (fun x hx => hf x (by simp [hx])) (by simpa only [List.map_cons, joinB, out_fld, List.append_assoc, List.cons_append] using e)
    exact ⟨by rw [this.1]; simp, this.2⟩
theorem rd_lo (hw : SchW ts) : ∀ (n : Nat) {k : List UInt8} {v : V}, LoK ts k v → ∀ r, Dl r → ∀ u r', rd ts n k (v.out ++ r) = some (u, r') → u = v ∧ r' = r
 | 0, _, _, _, _, _, _, _, e => by cases e
 | n + 1, k, v, h, r, hr, u, r', e => by
  have ih := fun {k : List UInt8} {v : V} => rd_lo hw n (k := k) (v := v)
  replace e : rdK ts (rd ts n) k (v.out ++ r) = some (u, r') := e
  cases h with
  | num k m h1 =>
   have hrf : refT ts (110 :: k) = none := by cases h : refT ts (110 :: k) with | none => rfl | some t => exact (refT_no h rfl dC).elim
   rw [show V.out (.nd 110 (decI m) 0 []) = decI m by rw [V.out]; rfl] at e
   unfold rdK at e
   try dsimp only at e
   rw [if_neg dC, if_neg dC, hrf] at e
   try dsimp only at e
   rw [if_pos dC] at e
   obtain ⟨e1, e2⟩ := tw_app (r := r) (digF_decI _ (Nat.le_refl _) h1).2
   obtain ⟨e3, e4⟩ := dl_tw hr
   unfold rdNum at e
   rw [e1, e2, e3, e4, List.append_nil] at e
   cases hn : numOf (decI m) 999999 with
   | none => rw [hn] at e; cases e
   | some z =>
    rw [hn] at e
    simp only [Option.map_some, Option.some.injEq, Prod.mk.injEq] at e
    have := (numOf_le hn).2.1
    rw [← e.1, ← e.2, this]; exact ⟨rfl, rfl⟩
  | txt k x h1 =>
   have h2 := rdQuote_in (r := r) h1
   have e0 : V.out (.nd 116 x 0 []) ++ r = 39 :: (x ++ 39 :: r) := by rw [V.out]; simp [outW]
   have hrf : refT ts (116 :: k) = none := by cases h : refT ts (116 :: k) with | none => rfl | some t => exact (refT_no h rfl dC).elim
   rw [e0] at e
   unfold rdK at e
   try dsimp only at e
   rw [if_neg dC, if_neg dC, hrf] at e
   try dsimp only at e
   rw [if_neg dC, if_pos dC, h2] at e
   simp only [Option.some.injEq, Prod.mk.injEq] at e
   exact ⟨e.1.symm, e.2.symm⟩
  | flg k x h1 =>
   have h2 := rdFlag_in (r := r) h1
   have hrf : refT ts (102 :: k) = none := by cases h : refT ts (102 :: k) with | none => rfl | some t => exact (refT_no h rfl dC).elim
   rw [show V.out (.nd 102 x 0 []) = x by rw [V.out]; rfl] at e
   unfold rdK at e
   try dsimp only at e
   rw [if_neg dC, if_neg dC, hrf] at e
   try dsimp only at e
   rw [if_neg dC, if_neg dC, if_pos dC, h2] at e
   simp only [Option.some.injEq, Prod.mk.injEq] at e
   exact ⟨e.1.symm, e.2.symm⟩
  | lst k ks h2 =>
   rw [out_list] at e
   unfold rdK at e
   try dsimp only at e
   rw [if_pos dC] at e
   try dsimp only at e
   rw [if_pos dC] at e
   cases ks with
   | nil =>
    simp only [List.map_nil, joinB, List.nil_append] at e
    rw [if_pos dC] at e
    simp only [Option.some.injEq, Prod.mk.injEq] at e
    exact ⟨e.1.symm, e.2.symm⟩
   | cons v ks =>
    obtain ⟨c, s, e1, e2⟩ := lo_head (h2 v (by simp))
    cases hj : joinB 44 ((v :: ks).map V.out) ++ 93 :: r with
    | nil => simp at hj
    | cons c' s' =>
     have hc' : c' = c := by
      have : ∃ s2, joinB 44 ((v :: ks).map V.out) ++ 93 :: r = c :: s2 := by
       cases ks with
       | nil => simp only [List.map_cons, List.map_nil, joinB, e1, List.cons_append]; exact ⟨_, rfl⟩
       | cons u ks => simp only [List.map_cons, joinB, e1, List.cons_append]; exact ⟨_, rfl⟩
      obtain ⟨s2, h3⟩ := this
      rw [hj] at h3; injection h3
     rw [hj] at e
     try dsimp only at e
     rw [if_neg (by rw [hc']; exact e2), ← hj] at e
     cases hi : rdItems (rd ts n k) 20 (joinB 44 ((v :: ks).map V.out) ++ 93 :: r) [] with
     | none => rw [hi] at e; cases e
     | some y =>
      rw [hi] at e
      obtain ⟨us, q⟩ := y
      simp only [Option.map_some, Option.some.injEq, Prod.mk.injEq] at e
      obtain ⟨g1, g2⟩ := rdItems_lo (v :: ks) 20 [] (by simp) (fun u hu r hr u' r' he => ih (h2 u hu) r hr u' r' he) hi
      rw [← e.1, ← e.2, g1, g2]; exact ⟨rfl, rfl⟩
  | non k =>
   have e0 : V.out (.nd 63 [] 0 []) ++ r = 45 :: r := by rw [V.out]; rfl
   rw [e0] at e
   unfold rdK at e
   try dsimp only at e
   rw [if_neg dC, if_pos dC] at e
   try dsimp only at e
   rw [if_pos dC] at e
   simp only [Option.some.injEq, Prod.mk.injEq] at e
   exact ⟨e.1.symm, e.2.symm⟩
  | opt k v h1 =>
   rw [out_opt] at e
   unfold rdK at e
   try dsimp only at e
   rw [if_neg dC, if_pos dC] at e
   try dsimp only at e
   rw [if_neg dC, if_pos dC] at e
   cases hi : rd ts n k (v.out ++ r) with
   | none => rw [hi] at e; cases e
   | some y =>
    rw [hi] at e
    obtain ⟨w, q⟩ := y
    simp only [Option.map_some, Option.some.injEq, Prod.mk.injEq] at e
    obtain ⟨g1, g2⟩ := ih h1 r hr _ _ hi
    rw [← e.1, ← e.2, g1, g2]; exact ⟨rfl, rfl⟩
  | recd k t fs h1 h2 h3 h4 =>
   obtain ⟨k', rfl⟩ := kind_64 h1
   have hW := hw.ty t (refT_mem h1)
   rw [out_rec] at e
   unfold rdK at e
   try dsimp only at e
   rw [if_neg dC, if_neg dC, h1] at e
   try dsimp only at e
   unfold rdTyped at e
   dsimp only at e
   rw [if_pos h2, if_pos dC] at e
   cases fs with
   | nil =>
    simp only [List.map_nil, joinB, List.nil_append] at e
    rw [if_pos dC] at e
    simp only [Option.some.injEq, Prod.mk.injEq] at e
    exact ⟨e.1.symm, e.2.symm⟩
   | cons p fs =>
    obtain ⟨c, s, e1, e2⟩ := decI_cons (m := p.1.tag) (by have := (hW.fld _ (h3 p (by simp))).tag; omega)
    have he2 := dg_ne e2
    cases hj : joinB 44 (((p :: fs).map fldV).map V.out) ++ 125 :: r with
    | nil => simp at hj
    | cons c' s' =>
     have hc' : c' = c := by
      have : ∃ s2, joinB 44 (((p :: fs).map fldV).map V.out) ++ 125 :: r = c :: s2 := by
       cases fs with
       | nil => simp only [List.map_cons, List.map_nil, joinB, out_fld, e1, List.cons_append]; exact ⟨_, rfl⟩
       | cons u ks => simp only [List.map_cons, joinB, out_fld, e1, List.cons_append]; exact ⟨_, rfl⟩
      obtain ⟨s2, h3⟩ := this
      rw [hj] at h3; injection h3
     rw [hj] at e
     try dsimp only at e
     rw [if_neg (by rw [hc']; omega), ← hj] at e
     cases hi : rdFlds ts (rd ts n) t ((joinB 44 (((p :: fs).map fldV).map V.out) ++ 125 :: r).length + 1) 0 (joinB 44 (((p :: fs).map fldV).map V.out) ++ 125 :: r) [] with
     | none => rw [hi] at e; cases e
     | some y =>
      rw [hi] at e
      obtain ⟨us, q⟩ := y
      simp only [Option.map_some, Option.some.injEq, Prod.mk.injEq] at e
      obtain ⟨g1, g2⟩ := rdFlds_lo (ts := ts) hW (p :: fs) _ 0 [] (by simp) (fun q hq => ⟨h3 q hq, fun r hr u' r' he => ih (h4 q hq) r hr u' r' he⟩) hi
      rw [← e.1, ← e.2, g1, g2]; exact ⟨rfl, rfl⟩
  | enm k t d h1 h2 h3 =>
   obtain ⟨k', rfl⟩ := kind_64 h1
   have hW := hw.ty t (refT_mem h1)
   have ht := (hW.fld d h3).tag
   have e0 : V.out (.nd 69 [] d.tag []) ++ r = 35 :: (decI d.tag ++ r) := by rw [V.out]; rfl
   rw [e0] at e
   unfold rdK at e
   try dsimp only at e
   rw [if_neg dC, if_neg dC, h1] at e
   try dsimp only at e
   unfold rdTyped at e
   dsimp only at e
   rw [if_neg oM, if_pos h2, if_pos dC, rdNum_in oM ht.2 dC hr] at e
   try dsimp only at e
   rw [fldT_mem hW h3, if_pos (by simp)] at e
   simp only [Option.some.injEq, Prod.mk.injEq] at e
   exact ⟨e.1.symm, e.2.symm⟩
  | uni k t d v h1 h2 h3 h4 h5 =>
   obtain ⟨k', rfl⟩ := kind_64 h1
   have hW := hw.ty t (refT_mem h1)
   rw [out_uni] at e
   unfold rdK at e
   try dsimp only at e
   rw [if_neg dC, if_neg dC, h1] at e
   try dsimp only at e
   unfold rdTyped at e
   dsimp only at e
   rw [if_neg h2, if_neg h3, if_pos dC] at e
   split at e
   ·cases e
   ·rename_i d' v' q hq
    obtain ⟨g1, g2⟩ := rdField_lo hW h4 hq
    obtain ⟨g3, g4⟩ := ih h5 _ (dl_cons dC) _ _ g2
    dsimp only at g1 g3
    subst g1 g3 g4
    dsimp only at e
    rw [if_pos dC] at e
    simp only [Option.some.injEq, Prod.mk.injEq] at e
    exact ⟨e.1.symm, e.2.symm⟩
theorem valOf_rd' {k w : List UInt8} {v : V} (h : valOf ts k w = some v) : rd ts 12 k w = some (v, []) ∧ w.length ≤ 400 := by
 unfold valOf at h
 split at h
 ·rename_i hl
  split at h
  ·rename_i v' hv; rw [hv]; exact ⟨congrArg (fun x => some (x, [])) (Option.some.inj h), hl⟩
  ·cases h
 ·cases h
theorem valOf_lo (hw : SchW ts) {k : List UInt8} {v u : V} (h : LoK ts k v) (e : valOf ts k v.out = some u) : u = v := by
 obtain ⟨h1, _⟩ := valOf_rd' e
 exact (rd_lo hw 12 h [] dl_nil u [] (by rw [List.append_nil]; exact h1)).1
theorem rkItems_strict {f g : List UInt8 → Option (V × List UInt8)} {p : V → Prop} (h : ∀ s v r, f s = some (v, r) → p v → g s = some (v, r)) : ∀ (m : Nat) (s : List UInt8) (acc : List V) {vs : List V} {r : List UInt8}, rkItems false f m s acc = some (vs, r) → vs.length ≤ 20 → (∀ v ∈ vs, p v) → rkItems true g m s acc = some (vs, r)
 | 0, _, _, _, _, e, _, _ => by cases e
 | m + 1, s, acc, vs, r, e, hl, hp => by
  unfold rkItems at e ⊢
  split at e
  ·cases e
  ·exact e
  ·rename_i q hb
   split at e
   ·cases e
   ·rename_i v r' hf
    rw [if_neg (by simp)] at e
    obtain ⟨_, us, h2⟩ := rkItems_all (p := fun _ => True) (fun _ _ _ => trivial) m r' _ e (fun _ _ => trivial)
    dsimp only at h2
    have hv : v ∈ vs := by rw [h2]; simp
    rw [h _ _ _ hf (hp v hv)]
    dsimp only
    rw [if_neg (by rw [h2] at hl; simp at hl; simp; omega)]
    exact rkItems_strict h m r' _ e hl hp
theorem rkFlds_strict {f g : List UInt8 → List UInt8 → Option (V × List UInt8)} {p : List UInt8 → V → Prop} (h : ∀ k s v r, f k s = some (v, r) → p k v → g k s = some (v, r)) {t : Ty} (hw : TyW t) : ∀ (m : Nat) (last : Int) (s : List UInt8) (fs : List (Fld × V)) {gs : List (Fld × V)} {r : List UInt8}, rkFlds false ts f t m last s (fs.map fldV) = some (gs.map fldV, r) → (∀ q ∈ gs, q.1 ∈ t.fields) → (∀ q ∈ gs, p q.1.kind q.2) → (∀ q ∈ gs, q.2.out ≠ standF ts q.1) → gs.Pairwise (fun a b => a.1.tag < b.1.tag) → (last = 0 ∨ ∃ q ∈ fs, q.1.tag = last) → rkFlds true ts g t m last s (fs.map fldV) = some (gs.map fldV, r)
 | 0, _, _, _, _, _, e, _, _, _, _, _ => by cases e
 | m + 1, last, s, fs, gs, r, e, h1, h2, h3, h4, hl => by
  unfold rkFlds at e ⊢
  split at e
  ·cases e
  ·exact e
  ·cases e
  ·rename_i b q hb
   split at e
   ·cases e
   ·rename_i d hd
    obtain ⟨hd1, hd2⟩ := fldT_tagI hd
    split at e
    ·cases e
    ·rename_i v r' hf
     rw [if_neg (by simp)] at e
     have e2 : fs.map fldV ++ [V.nd 61 [] d.tag [v]] = (fs ++ [(d, v)]).map fldV := by simp
     rw [e2] at e
     obtain ⟨us, g1, g2⟩ := rkFlds_all (p := fun _ _ => True) (fun _ _ _ _ => trivial) m d.tag r' _ e
     dsimp only at g1
     rw [← List.map_append] at g1
     obtain ⟨us2, g3⟩ : ∃ us2, gs = us2 := ⟨_, rfl⟩
     have key : ∃ i : Nat, i = fs.length ∧ i < gs.length ∧ (nth gs i).1.tag = d.tag ∧ (nth gs i).2 = v ∧ ∀ j, j < i → (nth gs j).1.tag = (nth fs j).1.tag := by
      have hlen : gs.length = fs.length + 1 + us.length := by
       have := congrArg List.length g1
       simp at this; omega
      have hat : ∀ j, j < gs.length → fldV (nth gs j) = fldV (nth (fs ++ [(d, v)] ++ us) j) := fun j hj => by
       have e3 : nth (gs.map fldV) j = nth ((fs ++ [(d, v)] ++ us).map fldV) j := by rw [g1]
       rw [nth_eq (by simpa using hj), nth_eq (by simp; omega), List.getElem_map, List.getElem_map] at e3
       rw [nth_eq hj, nth_eq (by simp; omega)]; exact e3
      refine ⟨fs.length, rfl, oM, ?_, ?_, fun j hj => ?_⟩
      ·have := hat fs.length oM
       rw [show nth (fs ++ [(d, v)] ++ us) fs.length = (d, v) by rw [nth_eq (by simp)]; simp] at this
       simp only [V.nd.injEq, List.cons.injEq] at this
       exact this.2.2.1
      ·have := hat fs.length oM
       rw [show nth (fs ++ [(d, v)] ++ us) fs.length = (d, v) by rw [nth_eq (by simp)]; simp] at this
       simp only [V.nd.injEq, List.cons.injEq] at this
       exact this.2.2.2.1
      ·have := hat j oM
       rw [show nth (fs ++ [(d, v)] ++ us) j = nth fs j by rw [nth_eq (by simp; omega), nth_eq hj]; simp [List.getElem_append, hj]] at this
       simp only [V.nd.injEq] at this
       exact this.2.2.1
     obtain ⟨i, hi, hi2, k1, k2, k3⟩ := key
     have hgi := nth_mem hi2
     have hdi : (nth gs i).1 = d := fld_tag hw (h1 _ hgi) hd2 k1
     have hpv := h2 _ hgi
     rw [hdi, k2] at hpv
     have hne := h3 _ hgi
     rw [hdi, k2] at hne
     have ht := (hw.fld d hd2).tag
     have hlt : last < d.tag := by
      rcases hl with rfl | ⟨q, hq, rfl⟩
      ·omega
      ·obtain ⟨j, hj, rfl⟩ := List.mem_iff_getElem.1 hq
       have := k3 j oM
       rw [nth_eq hj] at this
       rw [← this, ← k1]
       rw [List.pairwise_iff_getElem] at h4
       have h5 := h4 j i oM hi2 oM
       rw [nth_eq oM, nth_eq hi2]; exact h5
     rw [h _ _ _ _ hf hpv]
     dsimp only
     rw [if_neg (by rintro ⟨_, hc | hc⟩; omega; exact hne hc), e2]
     exact rkFlds_strict h hw m d.tag r' (fs ++ [(d, v)]) e h1 h2 h3 h4 (.inr ⟨(d, v), by simp, rfl⟩)
theorem rk_strict (hw : SchW ts) : ∀ (n : Nat) (k s : List UInt8) (v : V) (r : List UInt8), rk false ts n k s = some (v, r) → OfK ts k v → rk true ts n k s = some (v, r)
 | 0, _, _, _, _, e, _ => by cases e
 | n + 1, k, s, v, r, e, ho => by
  have ih := fun k s v r => rk_strict hw n k s v r
  replace e : rkK false ts (rk false ts n) k s = some (v, r) := e
  show rkK true ts (rk true ts n) k s = some (v, r)
  cases k with
  | nil => cases e
  | cons c k =>
   unfold rkK at e ⊢
   dsimp only at e ⊢
   split at e
   ·rename_i hc
    rw [if_pos hc]
    cases hi : rkItems false (rk false ts n k) (s.length + 1) s [] with
    | none => rw [hi] at e; cases e
    | some y =>
     rw [hi] at e
     obtain ⟨vs, q⟩ := y
     simp only [Option.map_some, Option.some.injEq, Prod.mk.injEq] at e
     obtain ⟨rfl, rfl⟩ := e
     rcases ofK_inv_c ho oM with ⟨h, _⟩ | ⟨h, _⟩ | ⟨h, _⟩ | ⟨_, us, h3, h4, h5⟩ | ⟨h, _⟩
     ·omega
     ·omega
     ·omega
     ·simp only [V.nd.injEq, true_and] at h5
      subst h5
      rw [rkItems_strict (p := fun v => OfK ts k v) (fun s v r h => ih k s v r h) _ _ _ hi h3 h4]; rfl
     ·omega
   ·rename_i hc
    rw [if_neg hc]
    split at e
    ·rename_i hc2
     rw [if_pos hc2]
     split at e
     ·cases e
     ·exact e
     ·rename_i q hb
      cases hf : rk false ts n k q with
      | none => rw [hf] at e; cases e
      | some y =>
       rw [hf] at e
       obtain ⟨u, q2⟩ := y
       simp only [Option.map_some, Option.some.injEq, Prod.mk.injEq] at e
       obtain ⟨rfl, rfl⟩ := e
       rcases ofK_inv_c ho oM with ⟨h, _⟩ | ⟨h, _⟩ | ⟨h, _⟩ | ⟨h, _⟩ | ⟨_, h5 | ⟨w, h4, h5⟩⟩
       ·omega
       ·omega
       ·omega
       ·omega
       ·simp at h5
       ·simp only [V.nd.injEq, true_and, List.cons.injEq, and_true] at h5
        subst h5
        rw [ih _ _ _ _ hf h4]; rfl
    ·rename_i hc2
     rw [if_neg hc2]
     split at e
     ·rename_i t ht
      have hW := hw.ty t (refT_mem ht)
      unfold rkTyped at e ⊢
      split at e
      ·rename_i h82
       rw [if_pos h82]
       cases hf : rkFlds false ts (rk false ts n) t (s.length + 1) 0 s [] with
       | none => rw [hf] at e; cases e
       | some y =>
        rw [hf] at e
        obtain ⟨vs, q⟩ := y
        simp only [Option.map_some, Option.some.injEq, Prod.mk.injEq] at e
        obtain ⟨rfl, rfl⟩ := e
        rcases ofK_inv_t ho ht with ⟨_, fs, h5, g3, g4, g5, g6⟩ | ⟨h, _⟩ | ⟨h, _⟩
        ·simp only [V.nd.injEq, true_and] at h5
         subst h5
         have hz := rkFlds_strict (p := fun k v => OfK ts k v) (fun k s v r h => ih k s v r h) hW _ 0 _ [] hf g3 g4 g5 g6 (.inl rfl)
         rw [List.map_nil] at hz
         rw [hz]; rfl
        ·omega
        ·omega
      ·rename_i h82
       rw [if_neg h82]
       split at e
       ·cases e
       ·split at e
        ·cases e
        ·rename_i d hd
         obtain ⟨hd1, hd2⟩ := fldT_tagI hd
         split at e
         ·rename_i h69
          rw [if_pos h69]; exact e
         ·rename_i h69
          rw [if_neg h69]
          rename_i b q _
          cases hf : rk false ts n d.kind q with
          | none => rw [hf] at e; cases e
          | some y =>
           rw [hf] at e
           obtain ⟨u, q2⟩ := y
           simp only [Option.map_some, Option.some.injEq, Prod.mk.injEq] at e
           obtain ⟨rfl, rfl⟩ := e
           rcases ofK_inv_t ho ht with ⟨h, _⟩ | ⟨h, _⟩ | ⟨_, _, d', v', h5, g4, g5⟩
           ·omega
           ·omega
           ·simp only [V.nd.injEq, true_and, List.cons.injEq, and_true] at h5
            obtain ⟨h5, h6⟩ := h5
            obtain rfl := fld_tag hW hd2 g4 h5
            subst h6
            rw [ih _ _ _ _ hf g5]; rfl
     ·rename_i ht
      split at e
      ·rename_i h1
       rw [if_pos h1]
       unfold rkNum at e ⊢
       split at e
       ·rename_i a b c q
        rw [if_neg (by simp)] at e
        simp only [Option.some.injEq, Prod.mk.injEq] at e
        obtain ⟨rfl, rfl⟩ := e
        rcases ofK_inv_c ho oM with ⟨_, m, h3, h4, h5⟩ | ⟨h, _⟩ | ⟨h, _⟩ | ⟨h, _⟩ | ⟨h, _⟩
        ·simp only [V.nd.injEq, true_and, and_true] at h5
         have g1 := (digF_decI _ (Nat.le_refl _) h3).1
         have g2 := (digF_decI (m := ((num3 a b c : Nat) : Int)) _ (Nat.le_refl _) oM).1
         rw [h5, g1] at g2
         simp only [Option.some.injEq] at g2
         rw [if_neg (by rintro ⟨_, h⟩; omega)]
        ·omega
        ·omega
        ·omega
        ·omega
       ·cases e
      ·rename_i h1
       rw [if_neg h1]; exact e
def keyV (ts : List Ty) (k s : List UInt8) : Option V := match rk true ts 12 k s with
 | some (v, []) => if v.out.length ≤ 400 then some v else none
 | _ => none
theorem keyV_iff (hw : SchW ts) {k s : List UInt8} {v : V} : keyV ts k s = some v ↔ (OfK ts k v ∧ v.deep ≤ 12) ∧ v.out.length ≤ 400 ∧ v.key = s := by
 constructor
 ·intro h
  unfold keyV at h
  split at h
  ·rename_i u hu
   obtain ⟨g1, g2⟩ := rk_key _ _ _ _ _ hu
   split at h
   ·rename_i hc
    simp only [Option.some.injEq] at h; subst h
    exact ⟨g1, hc, by rw [g2, List.append_nil]⟩
   ·cases h
  ·cases h
 ·rintro ⟨⟨h1, h2⟩, h3, rfl⟩
  have := rk_in hw 12 h1 h2 []
  rw [List.append_nil] at this
  unfold keyV
  rw [this]
  dsimp only
  rw [if_pos h3]
theorem key_13 (hw : SchW ts) {k s : List UInt8} {v : V} : keyV ts k s = some v ↔ rk true ts 13 k s = some (v, []) ∧ v.deep ≤ 12 ∧ v.out.length ≤ 400 := by
 rw [keyV_iff hw]
 constructor
 ·rintro ⟨⟨h1, h2⟩, h3, rfl⟩
  have := rk_in hw 13 h1 oM []
  rw [List.append_nil] at this
  exact ⟨this, h2, h3⟩
 ·rintro ⟨h1, h2, h3⟩
  obtain ⟨⟨g1, _⟩, g2⟩ := rk_key _ _ _ _ _ h1
  exact ⟨⟨g1, h2⟩, h3, by rw [g2, List.append_nil]⟩
theorem key_lo (hw : SchW ts) {k s : List UInt8} {v : V} : keyV ts k s = some v ↔ rk false ts 12 k s = some (v, []) ∧ (valOf ts k v.out).isSome = true := by
 constructor
 ·intro h
  obtain ⟨⟨h1, h2⟩, h3, rfl⟩ := (keyV_iff hw).1 h
  have := rk_weak _ _ _ (rk_in hw 12 h1 h2 [])
  rw [List.append_nil] at this
  exact ⟨this, by rw [valOf_in hw h1 h3 h2]; rfl⟩
 ·rintro ⟨h1, h2⟩
  obtain ⟨g1, g2⟩ := rk_lo _ _ _ _ h1
  obtain ⟨u, hu⟩ := Option.isSome_iff_exists.1 h2
  obtain rfl := valOf_lo hw g1 hu
  have ho := valOf_of_k hu
  obtain ⟨⟨a1, a2⟩, a3⟩ := rk_key _ _ _ _ _ (rk_strict hw _ _ _ _ _ h1 ho)
  exact (keyV_iff hw).2 ⟨⟨a1, a2⟩, (valOf_rd' hu).2, by rw [a3, List.append_nil]⟩
theorem keyV_nolo (hw : SchW ts) {k s : List UInt8} (h : keyV ts k s = none) {v : V} (h1 : rk false ts 12 k s = some (v, [])) : valOf ts k v.out = none := by
 cases hv : valOf ts k v.out with
 | none => rfl
 | some u =>
  have := (key_lo hw).2 ⟨h1, by rw [hv]; rfl⟩
  rw [h] at this; cases this
variable {ts : List Ty} {st : Bool}
theorem rkItems_len {f : List UInt8 → Option (V × List UInt8)} (h : ∀ s v r, f s = some (v, r) → r.length < s.length) : ∀ (m : Nat) (s : List UInt8) (acc : List V) {x : List V × List UInt8}, rkItems st f m s acc = some x → x.2.length < s.length
 | 0, _, _, _, e => by cases e
 | m + 1, s, acc, x, e => by
  unfold rkItems at e
  cases hb : rbFlag s with
  | none => rw [hb] at e; cases e
  | some y =>
   rw [hb] at e
   obtain ⟨b, r⟩ := y
   have hl : s.length = r.length + 1 := by rw [rbFlag_inv hb]; rfl
   cases b with
   | false => cases e; dsimp only; omega
   | true =>
    dsimp only at e
    cases hf : f r with
    | none => rw [hf] at e; cases e
    | some y =>
     rw [hf] at e
     obtain ⟨v, r'⟩ := y
     dsimp only at e
     split at e
     ·cases e
     ·have h1 := rkItems_len h m r' _ e
      have h2 := h r v r' hf
      omega
theorem rkFlds_len {f : List UInt8 → List UInt8 → Option (V × List UInt8)} (h : ∀ k s v r, f k s = some (v, r) → r.length < s.length) {t : Ty} : ∀ (m : Nat) (last : Int) (s : List UInt8) (acc : List V) {x : List V × List UInt8}, rkFlds st ts f t m last s acc = some x → x.2.length < s.length
 | 0, _, _, _, _, e => by cases e
 | m + 1, last, s, acc, x, e => by
  unfold rkFlds at e
  cases hb : rbFlag s with
  | none => rw [hb] at e; cases e
  | some y =>
   rw [hb] at e
   obtain ⟨b, r⟩ := y
   have hl : s.length = r.length + 1 := by rw [rbFlag_inv hb]; rfl
   cases b with
   | false => cases e; dsimp only; omega
   | true =>
    cases r with
    | nil => cases e
    | cons c r =>
     dsimp only at e
     simp only [List.length_cons] at hl
     cases hd : fldT t.fields (c.toNat : Int) with
     | none => rw [hd] at e; cases e
     | some d =>
      rw [hd] at e
      dsimp only at e
      cases hf : f d.kind r with
      | none => rw [hf] at e; cases e
      | some y =>
       rw [hf] at e
       obtain ⟨v, r'⟩ := y
       dsimp only at e
       split at e
       ·cases e
       ·have h1 := rkFlds_len h m d.tag r' _ e
        have h2 := h _ r v r' hf
        omega
theorem rkNum_len {s r : List UInt8} {v : V} (e : rkNum st s = some (v, r)) : r.length < s.length := by
 unfold rkNum at e
 split at e
 ·split at e
  ·cases e
  ·cases e; simp only [List.length_cons]; omega
 ·cases e
theorem rkText_len {s r : List UInt8} {v : V} (e : rkText s = some (v, r)) : r.length < s.length := by
 unfold rkText at e
 split at e
 ·rename_i x q hx
  split at e
  ·cases e
   rw [cut1_join (c := 0) dC hx]
   simp only [List.length_append, List.length_cons]; omega
  ·cases e
 ·cases e
theorem rkTyped_len {f : List UInt8 → List UInt8 → Option (V × List UInt8)} (h : ∀ k s v r, f k s = some (v, r) → r.length < s.length) {t : Ty} {s r : List UInt8} {v : V} (e : rkTyped st ts f t s = some (v, r)) : r.length < s.length := by
 unfold rkTyped at e
 split at e
 ·cases hi : rkFlds st ts f t (s.length + 1) 0 s [] with
  | none => rw [hi] at e; cases e
  | some y => rw [hi] at e; cases e; exact rkFlds_len h _ _ _ _ hi
 ·split at e
  ·cases e
  ·rename_i b q
   cases hd : fldT t.fields (b.toNat : Int) with
   | none => rw [hd] at e; cases e
   | some d =>
    rw [hd] at e
    dsimp only at e
    split at e
    ·cases e; simp only [List.length_cons]; omega
    ·cases hf : f d.kind q with
     | none => rw [hf] at e; cases e
     | some y => rw [hf] at e; obtain ⟨w, q2⟩ := y; cases e; have := h _ _ _ _ hf; simp only [List.length_cons]; omega
theorem rk_len : ∀ (n : Nat) (k s : List UInt8) (v : V) (r : List UInt8), rk st ts n k s = some (v, r) → r.length < s.length
 | 0, _, _, _, _, e => by cases e
 | n + 1, k, s, v, r, e => by
  have ih := rk_len n
  replace e : rkK st ts (rk st ts n) k s = some (v, r) := e
  cases k with
  | nil => cases e
  | cons c k =>
   unfold rkK at e
   dsimp only at e
   split at e
   ·cases hi : rkItems st (rk st ts n k) (s.length + 1) s [] with
    | none => rw [hi] at e; cases e
    | some y => rw [hi] at e; cases e; exact rkItems_len (ih k) _ _ _ hi
   ·split at e
    ·cases hb : rbFlag s with
     | none => rw [hb] at e; cases e
     | some y =>
      rw [hb] at e
      obtain ⟨b, q⟩ := y
      have hl : s.length = q.length + 1 := by rw [rbFlag_inv hb]; rfl
      cases b with
      | false => cases e; omega
      | true =>
       dsimp only at e
       cases hf : rk st ts n k q with
       | none => rw [hf] at e; cases e
       | some y => rw [hf] at e; obtain ⟨w, q2⟩ := y; cases e; have := ih _ _ _ _ hf; dsimp only; omega
    ·split at e
     ·exact rkTyped_len ih e
     ·split at e
      ·exact rkNum_len e
      ·split at e
       ·exact rkText_len e
       ·split at e
        ·cases hb : rbFlag s with
         | none => rw [hb] at e; cases e
         | some y => rw [hb] at e; obtain ⟨b, q⟩ := y; have hl : s.length = q.length + 1 := by { rw [rbFlag_inv hb]; rfl }; cases e; dsimp only; omega
        ·cases e
theorem rk_nil {n : Nat} {k : List UInt8} : rk st ts n k [] = none := by
 cases h : rk st ts n k [] with
 | none => rfl
 | some x => have := rk_len n k [] x.1 x.2 h; simp at this
theorem rk_lst {n : Nat} {k s : List UInt8} : rk st ts (n + 1) (91 :: k) s = (rkItems st (rk st ts n k) (s.length + 1) s []).map fun x => (.nd 91 [] 0 x.1, x.2) := by
 rw [rk]; unfold rkK; dsimp only; rw [if_pos dC]
theorem rk_opt {n : Nat} {k s : List UInt8} : rk st ts (n + 1) (63 :: k) s = match rbFlag s with
      | none => none
      | some (false, r) => some (.nd 63 [] 0 [], r)
      | some (true, r) => (rk st ts n k r).map fun x => (.nd 63 [] 0 [x.1], x.2) := by
  rw [rk]; unfold rkK; dsimp only; rw [if_neg dC, if_pos dC]
  all_goals (rcases rbFlag s with _ | ⟨b, r⟩)
  all_goals (try cases b)
  all_goals rfl
theorem rk_typed {n : Nat} {r s : List UInt8} {t : Ty} (h : refT ts (64 :: r) = some t) : rk st ts (n + 1) (64 :: r) s = rkTyped st ts (rk st ts n) t s := by
 rw [rk]; unfold rkK; dsimp only; rw [if_neg dC, if_neg dC, h]
theorem rk_plain {n : Nat} {s : List UInt8} {c : UInt8} (hc : c = 110 ∨ c = 116 ∨ c = 102) (h : refT ts [c] = none) : rk st ts (n + 1) [c] s = if c = 110 then rkNum st s else if c = 116 then rkText s else (rbFlag s).map fun x => (.nd 102 (if x.1 = true then [121, 101, 115] else [110, 111]) 0 [], x.2) := by
 rw [rk]; unfold rkK; dsimp only
 rcases hc with rfl | rfl | rfl
 ·rw [if_neg dC, if_neg dC, h]; dsimp only; rw [if_pos dC, if_pos rfl]
 ·rw [if_neg dC, if_neg dC, h]; dsimp only; rw [if_neg dC, if_pos dC, if_neg dC, if_pos rfl]
 ·rw [if_neg dC, if_neg dC, h]; dsimp only; rw [if_neg dC, if_neg dC, if_pos dC, if_neg dC, if_neg dC]
theorem rkItems_step {f : List UInt8 → Option (V × List UInt8)} {m : Nat} {t r : List UInt8} {acc : List V} {v : V} (hf : f t = some (v, r)) (h : ¬ (st = true ∧ 20 ≤ acc.length)) : rkItems st f (m + 1) (1 :: t) acc = rkItems st f m r (acc ++ [v]) := by
 rw [rkItems, rbFlag_1]; dsimp only; rw [hf]; dsimp only; rw [if_neg h]
theorem rkItems_0 {f : List UInt8 → Option (V × List UInt8)} {m : Nat} {t : List UInt8} {acc : List V} : rkItems st f (m + 1) (0 :: t) acc = some (acc, t) := by rw [rkItems, rbFlag_0]
theorem rbFlag_no {e : UInt8} {t : List UInt8} (h0 : e.toNat ≠ 0) (h1 : e.toNat ≠ 1) : rbFlag (e :: t) = none := by rw [rbFlag, if_neg h0, if_neg h1]
theorem rkItems_no {f : List UInt8 → Option (V × List UInt8)} {m : Nat} {t : List UInt8} {acc : List V} (h : t = [] ∨ (∃ e r, t = e :: r ∧ e.toNat ≠ 0 ∧ e.toNat ≠ 1) ∨ ∃ r, t = 1 :: r ∧ f r = none) : rkItems st f m t acc = none := by
 cases m with
 | zero => rfl
 | succ m =>
  rw [rkItems]
  rcases h with rfl | ⟨e, r, rfl, h0, h1⟩ | ⟨r, rfl, hf⟩
  ·rfl
  ·rw [rbFlag_no h0 h1]
  ·rw [rbFlag_1]; dsimp only; rw [hf]
theorem rkFlds_0 {f : List UInt8 → List UInt8 → Option (V × List UInt8)} {ty : Ty} {m : Nat} {la : Int} {t : List UInt8} {acc : List V} : rkFlds st ts f ty (m + 1) la (0 :: t) acc = some (acc, t) := by rw [rkFlds, rbFlag_0]
theorem rkFlds_no {f : List UInt8 → List UInt8 → Option (V × List UInt8)} {ty : Ty} {m : Nat} {la : Int} {t : List UInt8} {acc : List V} (h : t = [] ∨ (∃ e r, t = e :: r ∧ e.toNat ≠ 0 ∧ e.toNat ≠ 1) ∨ t = [1] ∨ ∃ b r, t = 1 :: b :: r ∧ (fldT ty.fields (b.toNat : Int) = none ∨ ∃ d, fldT ty.fields (b.toNat : Int) = some d ∧ f d.kind r = none)) : rkFlds st ts f ty m la t acc = none := by
 cases m with
 | zero => rfl
 | succ m =>
  rw [rkFlds]
  rcases h with rfl | ⟨e, r, rfl, h0, h1⟩ | rfl | ⟨b, r, rfl, hf | ⟨d, hd, hf⟩⟩
  ·rfl
  ·rw [rbFlag_no h0 h1]
  ·rw [rbFlag_1]
  ·rw [rbFlag_1]; dsimp only; rw [hf]
  ·rw [rbFlag_1]; dsimp only; rw [hd]; dsimp only; rw [hf]
theorem rkFlds_lo {f : List UInt8 → List UInt8 → Option (V × List UInt8)} {ty : Ty} {m : Nat} {la : Int} {b : UInt8} {r r' : List UInt8} {acc : List V} {d : Fld} {v : V} (hd : fldT ty.fields (b.toNat : Int) = some d) (hf : f d.kind r = some (v, r')) : rkFlds false ts f ty (m + 1) la (1 :: b :: r) acc = rkFlds false ts f ty m d.tag r' (acc ++ [.nd 61 [] d.tag [v]]) := by
 rw [rkFlds, rbFlag_1]; dsimp only; rw [hd]; dsimp only; rw [hf]; dsimp only; rw [if_neg (by simp)]
variable {ts : List Ty} {st : Bool}
theorem rkItems_tot {f : List UInt8 → Option (V × List UInt8)} (h : ∀ s v r, f s = some (v, r) → v.tot + 100 * r.length ≤ 100 * s.length) : ∀ (m : Nat) (s : List UInt8) (acc : List V) {x : List V × List UInt8}, rkItems st f m s acc = some x → V.tots x.1 + 100 * x.2.length + 100 ≤ V.tots acc + 100 * s.length
 | 0, _, _, _, e => by cases e
 | m + 1, s, acc, x, e => by
  unfold rkItems at e
  cases hb : rbFlag s with
  | none => rw [hb] at e; cases e
  | some y =>
   rw [hb] at e
   obtain ⟨b, r⟩ := y
   have hl : s.length = r.length + 1 := by rw [rbFlag_inv hb]; rfl
   cases b with
   | false => cases e; dsimp only; omega
   | true =>
    dsimp only at e
    cases hf : f r with
    | none => rw [hf] at e; cases e
    | some y =>
     rw [hf] at e
     obtain ⟨v, r'⟩ := y
     dsimp only at e
     split at e
     ·cases e
     ·have h1 := rkItems_tot h m r' _ e
      have h2 := h r v r' hf
      have e2 : V.tots (acc ++ [v]) = V.tots acc + v.tot := by simp [tots_app, V.tots]
      omega
theorem rkFlds_tot {f : List UInt8 → List UInt8 → Option (V × List UInt8)} (h : ∀ k s v r, f k s = some (v, r) → v.tot + 100 * r.length ≤ 100 * s.length) {t : Ty} : ∀ (m : Nat) (last : Int) (s : List UInt8) (acc : List V) {x : List V × List UInt8}, rkFlds st ts f t m last s acc = some x → V.tots x.1 + 100 * x.2.length + 100 ≤ V.tots acc + 100 * s.length
 | 0, _, _, _, _, e => by cases e
 | m + 1, last, s, acc, x, e => by
  unfold rkFlds at e
  cases hb : rbFlag s with
  | none => rw [hb] at e; cases e
  | some y =>
   rw [hb] at e
   obtain ⟨b, r⟩ := y
   have hl : s.length = r.length + 1 := by rw [rbFlag_inv hb]; rfl
   cases b with
   | false => cases e; dsimp only; omega
   | true =>
    cases r with
    | nil => cases e
    | cons c r =>
     dsimp only at e
     simp only [List.length_cons] at hl
     cases hd : fldT t.fields (c.toNat : Int) with
     | none => rw [hd] at e; cases e
     | some d =>
      rw [hd] at e
      dsimp only at e
      cases hf : f d.kind r with
      | none => rw [hf] at e; cases e
      | some y =>
       rw [hf] at e
       obtain ⟨v, r'⟩ := y
       dsimp only at e
       split at e
       ·cases e
       ·have h1 := rkFlds_tot h m d.tag r' _ e
        have h2 := h _ r v r' hf
        have e2 : V.tots (acc ++ [V.nd 61 [] d.tag [v]]) = V.tots acc + (20 + v.tot) := by simp [tots_app, V.tots, V.tot]
        omega
theorem rkTyped_tot {f : List UInt8 → List UInt8 → Option (V × List UInt8)} (h : ∀ k s v r, f k s = some (v, r) → v.tot + 100 * r.length ≤ 100 * s.length) {t : Ty} {s r : List UInt8} {v : V} (e : rkTyped st ts f t s = some (v, r)) : v.tot + 100 * r.length ≤ 100 * s.length := by
 unfold rkTyped at e
 split at e
 ·cases hi : rkFlds st ts f t (s.length + 1) 0 s [] with
  | none => rw [hi] at e; cases e
  | some y =>
   rw [hi] at e; cases e
   have := rkFlds_tot h _ _ _ _ hi
   simp only [V.tot, V.tots, List.length_nil] at this ⊢; omega
 ·split at e
  ·cases e
  ·rename_i b q
   cases hd : fldT t.fields (b.toNat : Int) with
   | none => rw [hd] at e; cases e
   | some d =>
    rw [hd] at e
    dsimp only at e
    split at e
    ·cases e; simp only [V.tot, V.tots, List.length_cons, List.length_nil]; omega
    ·cases hf : f d.kind q with
     | none => rw [hf] at e; cases e
     | some y =>
      rw [hf] at e; obtain ⟨w, q2⟩ := y; cases e
      have := h _ _ _ _ hf
      simp only [V.tot, V.tots, List.length_cons, List.length_nil]; omega
theorem rkNum_tot {s r : List UInt8} {v : V} (e : rkNum st s = some (v, r)) : v.tot + 100 * r.length ≤ 100 * s.length := by
 unfold rkNum at e
 split at e
 ·rename_i a b c q
  split at e
  ·cases e
  ·cases e
   have ha := a.toNat_lt
   have hb := b.toNat_lt
   have hc := c.toNat_lt
   have := decI_len (n := ((num3 a b c : Nat) : Int)) (by unfold num3; omega)
   simp only [V.tot, V.tots, List.length_cons]; omega
 ·cases e
theorem rkText_tot {s r : List UInt8} {v : V} (e : rkText s = some (v, r)) : v.tot + 100 * r.length ≤ 100 * s.length := by
 unfold rkText at e
 split at e
 ·rename_i x q hx
  split at e
  ·cases e
   rw [cut1_join (c := 0) dC hx]
   simp only [V.tot, V.tots, List.length_append, List.length_cons]; omega
  ·cases e
 ·cases e
theorem rk_tot : ∀ (n : Nat) (k s : List UInt8) (v : V) (r : List UInt8), rk st ts n k s = some (v, r) → v.tot + 100 * r.length ≤ 100 * s.length
 | 0, _, _, _, _, e => by cases e
 | n + 1, k, s, v, r, e => by
  have ih := rk_tot n
  replace e : rkK st ts (rk st ts n) k s = some (v, r) := e
  cases k with
  | nil => cases e
  | cons c k =>
   unfold rkK at e
   dsimp only at e
   split at e
   ·cases hi : rkItems st (rk st ts n k) (s.length + 1) s [] with
    | none => rw [hi] at e; cases e
    | some y =>
     rw [hi] at e; cases e
     have := rkItems_tot (ih k) _ _ _ hi
     simp only [V.tot, V.tots, List.length_nil] at this ⊢; omega
   ·split at e
    ·cases hb : rbFlag s with
     | none => rw [hb] at e; cases e
     | some y =>
      rw [hb] at e
      obtain ⟨b, q⟩ := y
      have hl : s.length = q.length + 1 := by rw [rbFlag_inv hb]; rfl
      cases b with
      | false => cases e; simp only [V.tot, V.tots, List.length_nil]; omega
      | true =>
       dsimp only at e
       cases hf : rk st ts n k q with
       | none => rw [hf] at e; cases e
       | some y => rw [hf] at e; obtain ⟨w, q2⟩ := y; cases e; have := ih _ _ _ _ hf; simp only [V.tot, V.tots, List.length_nil]; omega
    ·split at e
     ·exact rkTyped_tot ih e
     ·split at e
      ·exact rkNum_tot e
      ·split at e
       ·exact rkText_tot e
       ·split at e
        ·cases hb : rbFlag s with
         | none => rw [hb] at e; cases e
         | some y =>
          rw [hb] at e; obtain ⟨b, q⟩ := y
          have hl : s.length = q.length + 1 := by rw [rbFlag_inv hb]; rfl
          cases e
          cases b
          all_goals (simp [V.tot, V.tots]; omega)
        ·cases e
end Go.E
namespace Go.E
set_option maxRecDepth 20000
set_option maxHeartbeats 2000000
open Go.Proofs
variable {G : Gh}
abbrev tBr : TypeId := 53
abbrev brO (r sc : Nat) (s : List UInt8) (b : Bool) (a : Option Addr) (n c : Nat) (d : Int) : Own := .blk r (.cells (List.toArray [Pt sc 0, S s, Bo b, .slice a n c, I d]) tBr (0, 0))
theorem c_takeB1 {r sc m n c : Nat} {s : List UInt8} {a : Option Addr} {d : Int} (h : m ≤ s.length ∧ s.length ≤ 1000000) : FnG Tryz.prog 59 [Pt r 0, I (m : Nat)] G [brO r sc s false a n c d] (fun v L' => v = S (s.take m) ∧ L' = [brO r sc (s.drop m) false a n c d]) := by
 refine jH [(0, _), (1, _)] Tryz.func59 Tryz.ntmps59 fun B hB hW => ?_
 repeat' (first | refine jM ?_ | (refine jo ?_; first | refine jAl rfl ?_ | (refine jAf rfl ?_) | refine jD rfl rfl rfl ?_) | (refine k_gf rfl rfl rfl ?_) | (refine k_ff rfl (dFf oM) ?_))
 exact k_rr (vs := [_]) rfl ⟨rfl, trivial⟩ rfl (List.Sublist.refl _) ⟨rfl, rfl, rfl⟩
theorem c_takeB0 {r sc m n c : Nat} {s : List UInt8} {b : Bool} {a : Option Addr} {d : Int} (h : b = true ∨ s.length < m) (hs : s.length ≤ 1000000 ∧ m ≤ 1000000) : FnG Tryz.prog 59 [Pt r 0, I (m : Nat)] G [brO r sc s b a n c d] (fun v L' => v = S [] ∧ L' = [brO r sc s true a n c d]) := by
 rcases h with rfl | h
 ·refine jH [(0, _), (1, _)] Tryz.func59 Tryz.ntmps59 fun B hB hW => ?_
  repeat' (first | (refine jR ?_) | (refine jo ?_; first | refine jAl rfl ?_ | (refine jAt rfl ?_) | refine jD rfl rfl rfl ?_) | (refine k_gt rfl rfl rfl ?_) | (refine k_tt rfl rfl ?_))
  all_goals exact k_rr (vs := [_]) rfl ⟨rfl, trivial⟩ rfl (List.Sublist.refl _) ⟨rfl, rfl, rfl⟩
 ·cases b
  ·refine jH [(0, _), (1, _)] Tryz.func59 Tryz.ntmps59 fun B hB hW => ?_
   repeat' (first | (refine jR ?_) | (refine jo ?_; first | refine jAl rfl ?_ | (refine jAf rfl ?_) | refine jD rfl rfl rfl ?_) | (refine k_gf rfl rfl rfl ?_) | (refine k_tt rfl (dTt oM) ?_))
   all_goals exact k_rr (vs := [_]) rfl ⟨rfl, trivial⟩ rfl (List.Sublist.refl _) ⟨rfl, rfl, rfl⟩
  ·refine jH [(0, _), (1, _)] Tryz.func59 Tryz.ntmps59 fun B hB hW => ?_
   repeat' (first | (refine jR ?_) | (refine jo ?_; first | refine jAl rfl ?_ | (refine jAt rfl ?_) | refine jD rfl rfl rfl ?_) | (refine k_gt rfl rfl rfl ?_) | (refine k_tt rfl rfl ?_))
   all_goals exact k_rr (vs := [_]) rfl ⟨rfl, trivial⟩ rfl (List.Sublist.refl _) ⟨rfl, rfl, rfl⟩
theorem c_flagB1 {r sc n c : Nat} {s q : List UInt8} {x : Bool} {a : Option Addr} {d : Int} (h : rbFlag s = some (x, q)) (hs : s.length ≤ 1000000) : FnG Tryz.prog 57 [Pt r 0] G [brO r sc s false a n c d] (fun v L' => v = Bo x ∧ L' = [brO r sc q false a n c d]) := by
 have e := rbFlag_inv h
 subst e
 have hl : ((if x = true then 1 else 0) :: q).length = q.length + 1 := rfl
 have cx_tkb := c_takeB1 (G := G) (r := r) (sc := sc) (m := 1) (n := n) (c := c) (s := (if x = true then 1 else 0) :: q) (a := a) (d := d) ⟨oM, hs⟩
 cases x
 ·have cx_tkb : FnG Tryz.prog 59 [Pt r 0, I 1] G [brO r sc (0 :: q) false a n c d] (fun v L' => v = S [0] ∧ L' = [brO r sc q false a n c d]) := cx_tkb
  refine jH [(0, _)] Tryz.func57 Tryz.ntmps57 fun B hB hW => ?_
  repeat' (first | (refine jR ?_) | (refine jo ?_; (refine c_m1g rfl rfl rfl cx_tkb rfl ?_; rintro _ _ ⟨rfl, rfl⟩; dsimp only [zA, fA])) | (refine k_ff rfl rfl ?_))
  all_goals exact k_rr (vs := [_]) rfl ⟨rfl, trivial⟩ rfl (List.Sublist.refl _) ⟨rfl, rfl, rfl⟩
 ·have cx_tkb : FnG Tryz.prog 59 [Pt r 0, I 1] G [brO r sc (1 :: q) false a n c d] (fun v L' => v = S [1] ∧ L' = [brO r sc q false a n c d]) := cx_tkb
  refine jH [(0, _)] Tryz.func57 Tryz.ntmps57 fun B hB hW => ?_
  repeat' (first | (refine jR ?_) | (refine jo ?_; (refine c_m1g rfl rfl rfl cx_tkb rfl ?_; rintro _ _ ⟨rfl, rfl⟩; dsimp only [zA, fA])) | (refine k_ff rfl rfl ?_))
  all_goals exact k_rr (vs := [_]) rfl ⟨rfl, trivial⟩ rfl (List.Sublist.refl _) ⟨rfl, rfl, rfl⟩
theorem c_flagB0 {r sc n c : Nat} {s : List UInt8} {b : Bool} {a : Option Addr} {d : Int} (h : b = true ∨ rbFlag s = none) (hs : s.length ≤ 1000000) : FnG Tryz.prog 57 [Pt r 0] G [brO r sc s b a n c d] (fun v L' => ∃ q, (v = Bo false ∧ q.length ≤ s.length) ∧ L' = [brO r sc q true a n c d]) := by
 by_cases h1 : b = true ∨ s.length < 1
 ·have cx_tkb := c_takeB0 (G := G) (r := r) (sc := sc) (m := 1) (n := n) (c := c) (s := s) (b := b) (a := a) (d := d) h1 ⟨hs, oM⟩
  have cx_tkb : FnG Tryz.prog 59 [Pt r 0, I 1] G [brO r sc s b a n c d] (fun v L' => v = S [] ∧ L' = [brO r sc s true a n c d]) := cx_tkb
  refine jH [(0, _)] Tryz.func57 Tryz.ntmps57 fun B hB hW => ?_
  repeat' (first | (refine jR ?_) | (refine jo ?_; (refine c_m1g rfl rfl rfl cx_tkb rfl ?_; rintro _ _ ⟨rfl, rfl⟩; dsimp only [zA, fA])) | (refine k_ff rfl rfl ?_))
  all_goals exact k_rr (vs := [_]) rfl ⟨rfl, trivial⟩ rfl (List.Sublist.refl _) ⟨rfl, s, ⟨rfl, Nat.le_refl _⟩, rfl⟩
 ·obtain rfl : b = false := by cases b; rfl; exact absurd (.inl rfl) h1
  match s, h, hs, h1 with
  | [], _, _, h1 => exact absurd (.inr (by simp)) h1
  | e :: q, h, hs, _ =>
   have he : e.toNat ≠ 0 ∧ e.toNat ≠ 1 := by
    rcases h with h | h
    ·cases h
    ·unfold rbFlag at h
     dsimp only at h
     split at h
     ·cases h
     ·split at h
      ·cases h
      ·exact ⟨by assumption, by assumption⟩
   have hl : (e :: q).length = q.length + 1 := rfl
   have cx_tkb := c_takeB1 (G := G) (r := r) (sc := sc) (m := 1) (n := n) (c := c) (s := e :: q) (a := a) (d := d) ⟨oM, hs⟩
   have cx_tkb : FnG Tryz.prog 59 [Pt r 0, I 1] G [brO r sc (e :: q) false a n c d] (fun v L' => v = S [e] ∧ L' = [brO r sc q false a n c d]) := cx_tkb
   have hne : ¬ [e] = [1] := fun h => by simp only [List.cons.injEq, and_true] at h; subst h; exact he.2 rfl
   have hbl : Op.bytesLess [e] [1] = false := by
    cases hb : Op.bytesLess [e] [1] with
    | false => rfl
    | true =>
     exfalso
     unfold Op.bytesLess at hb
     have h9 : ¬ e.toNat < (1 : UInt8).toNat := by show ¬ e.toNat < 1; omega
     simp_all
   have hc : (!(Op.bytesLess [e] [1] || decide ([e] = [1]))) = true := by rw [hbl, decide_eq_false hne]; rfl
   refine jH [(0, _)] Tryz.func57 Tryz.ntmps57 fun B hB hW => ?_
   repeat' (first | (refine jR ?_) | (refine jo ?_; first | refine jD rfl rfl rfl ?_ | (refine c_m1g rfl rfl rfl cx_tkb rfl ?_; rintro _ _ ⟨rfl, rfl⟩; dsimp only [zA, fA])) | (refine k_tt rfl ‹_› ?_))
   all_goals exact k_rr (vs := [_]) rfl ⟨rfl, trivial⟩ rfl (List.Sublist.refl _) ⟨rfl, q, ⟨by rw [decide_eq_false hne]; all_goals rfl, oM⟩, rfl⟩
theorem c_byteB1 {r sc n c : Nat} {q : List UInt8} {e : UInt8} {a : Option Addr} {d : Int} (hs : q.length ≤ 999999) : FnG Tryz.prog 63 [Pt r 0] G [brO r sc (e :: q) false a n c d] (fun v L' => v = I (e.toNat : Int) ∧ L' = [brO r sc q false a n c d]) := by
 have hl : (e :: q).length = q.length + 1 := rfl
 have he0 : bt [e] (Int.toNat 0) = e.toNat := bt_zero e []
 have cx_tkb := c_takeB1 (G := G) (r := r) (sc := sc) (m := 1) (n := n) (c := c) (s := e :: q) (a := a) (d := d) ⟨oM, oM⟩
 have cx_tkb : FnG Tryz.prog 59 [Pt r 0, I 1] G [brO r sc (e :: q) false a n c d] (fun v L' => v = S [e] ∧ L' = [brO r sc q false a n c d]) := cx_tkb
 refine jH [(0, _)] Tryz.func63 Tryz.ntmps63 fun B hB hW => ?_
 repeat' (first | (refine jX ?_) | (refine jo ?_; first | refine jAl rfl ?_ | (refine c_m1g rfl rfl rfl cx_tkb rfl ?_; rintro _ _ ⟨rfl, rfl⟩; dsimp only [zA, fA])) | (refine k_ff rfl rfl ?_))
 all_goals exact k_rr (vs := [_]) rfl ⟨rfl, trivial⟩ rfl (List.Sublist.refl _) ⟨rfl, by rw [he0]; all_goals rfl, rfl⟩
theorem c_byteB0 {r sc n c : Nat} {s : List UInt8} {b : Bool} {a : Option Addr} {d : Int} (h : b = true ∨ s.length < 1) (hs : s.length ≤ 1000000) : FnG Tryz.prog 63 [Pt r 0] G [brO r sc s b a n c d] (fun v L' => v = I 0 ∧ L' = [brO r sc s true a n c d]) := by
 have cx_tkb := c_takeB0 (G := G) (r := r) (sc := sc) (m := 1) (n := n) (c := c) (s := s) (b := b) (a := a) (d := d) h ⟨hs, oM⟩
 have cx_tkb : FnG Tryz.prog 59 [Pt r 0, I 1] G [brO r sc s b a n c d] (fun v L' => v = S [] ∧ L' = [brO r sc s true a n c d]) := cx_tkb
 refine jH [(0, _)] Tryz.func63 Tryz.ntmps63 fun B hB hW => ?_
 repeat' (first | (refine jR ?_) | (refine jo ?_; first | refine jAl rfl ?_ | (refine c_m1g rfl rfl rfl cx_tkb rfl ?_; rintro _ _ ⟨rfl, rfl⟩; dsimp only [zA, fA])) | (refine k_tt rfl rfl ?_))
 all_goals exact k_rr (vs := [_]) rfl ⟨rfl, trivial⟩ rfl (List.Sublist.refl _) ⟨rfl, rfl, rfl⟩
abbrev tPbr : TypeId := 50
theorem c_unkeyD {x0 r sc n c : Nat} {s : List UInt8} {b : Bool} {a : Option Addr} {d : Int} (hd : -1000 ≤ d ∧ d ≤ 1000) : FnD Tryz.prog 55 [Pt x0 0] G [.blk x0 (.cells (List.toArray [Pt r 0]) tPbr (0, 0)), brO r sc s b a n c d]
  (fun _ G' L' => G' = G ∧ L' = [.blk x0 (.cells (List.toArray [Pt r 0]) tPbr (0, 0)), brO r sc s b a n c (d - 1)]) := by
 refine e_enter [(0, _)] Tryz.func55 kR Tryz.ntmps55 rfl rfl tU fun B hok hB hW => ?_
 repeat' (first | refine jM ?_ | (refine jo ?_; first | refine jAl rfl ?_ | refine jD rfl rfl rfl ?_))
 all_goals exact k_re (vs := []) rfl trivial rfl (List.Sublist.refl _) ⟨rfl, rfl⟩
def RkQ (f : List UInt8 → Option (V × List UInt8)) (s : List UInt8) (b : Bool) (u : V) (s' : List UInt8) (b' : Bool) : Prop :=
 s'.length ≤ s.length ∧ (b' = false → b = false ∧ f s = some (u, s')) ∧ (b' = true → (b = true ∨ f s = none) ∧ u.tot + 100 * s'.length ≤ 100 * s.length + 100)
def UkP (f : List UInt8 → Option (V × List UInt8)) (r sc : Nat) (s : List UInt8) (b : Bool) (d : Int) (v : Value) (G' : Gh) (L' : List Own) : Prop :=
 ∃ u c s' b', v = Ag (vcF c) ∧ V.rep G' u c ∧ L' = [brO r sc s' b' none 0 0 d] ∧ RkQ f s b u s' b'
def UkC (n sc : Nat) (qs : List TyP) : Prop := ∀ (G : Gh) (r : Nat) (k s : List UInt8) (b : Bool), ScI G sc qs → kindIn (tyq qs) k = true → s.length ≤ 1000 →
 FnM Tryz.prog 24 [Pt r 0, Ag (kdF k)] G [brO r sc s b none 0 0 (13 - (n : Int))] (UkP (rk true (tyq qs) n k) r sc s b (13 - (n : Int)))
abbrev tVlU : TypeId := 56
abbrev tKdU : TypeId := 47
theorem c_unkBad {r sc n : Nat} {qs : List TyP} {k s : List UInt8} {b : Bool} (h : b = true ∨ n = 0) (hs : s.length ≤ 1000) (hn : n ≤ 13) :
  FnM Tryz.prog 24 [Pt r 0, Ag [S (sg k), S (bs k), S (nm k)]] G [brO r sc s b none 0 0 (13 - (n : Int))] (UkP (rk true (tyq qs) n k) r sc s b (13 - (n : Int))) := by
 have hd : ((13 : Int) - (n : Int)) + 1 - 1 = 13 - (n : Int) := oM
 have hno : b = true ∨ rk true (tyq qs) n k s = none := by
  rcases h with h | rfl
  ·exact .inl h
  ·exact .inr rfl
 rcases h with rfl | rfl
 ·
  refine d_enter [(0, _), (1, _)] Tryz.func24 kR Tryz.ntmps24 rfl rfl tU fun B hok hB hW => ?_
  repeat' (first | refine jM ?_ | (refine jo ?_; first | refine jO fun _ => ?_ | refine jL fun _ => ?_ | refine jAl rfl ?_ | refine jD rfl rfl rfl ?_ | refine jV (g_mkf rfl rfl) ?_))
  rename_i x2 x3 x4
  refine jo ?_
  refine c_defer (fi := []) (ca := [Pt x2 0]) (az := []) rfl rfl ?_
  repeat' (first | (refine jR ?_) | (refine jo ?_; first | refine jAl rfl ?_ | refine jD rfl rfl rfl ?_ | refine jC rfl rfl rfl ?_ | refine jV (g_bld rfl rfl) ?_) | (refine k_tt rfl rfl ?_) | refine k_if rfl (fun _ => ?_) (fun _ => ?_))
  all_goals
   refine k_rrD (R := [.blk x4 (.cells (List.toArray [U8 (0 : Nat), S [], I 0, nilS]) tVlU (0, 0)), .blk x3 (.cells (List.toArray [S (sg k), S (bs k), S (nm k)]) tKdU (0, 0))]) (.inl rfl) rfl (c_unkeyD (x0 := x2) (r := r) (sc := sc) (s := s) (b := true) (a := none) (n := 0) (c := 0) (d := 13 - (n : Int) + 1) oM) (List.perm_append_comm (l₁ := [_, _]) (l₂ := [_, _])) rfl ?_
   rintro v G' L' ⟨rfl, rfl⟩
   dsimp only [zA, fA]
   refine ⟨[_], [brO r sc s true none 0 0 (13 - (n : Int) + 1 - 1)], ⟨rc_A rfl rfl rfl rfl, trivial⟩, sB, Gh.le.refl _, ?_⟩
   exact ⟨.nd 0 [] 0 [], ⟨0, [], 0, none, 0, 0⟩, s, true, rfl, rep_zero, by rw [show 13 - (n : Int) + 1 - 1 = 13 - (n : Int) by omega], Nat.le_refl _, fun h => (by cases h), fun _ => ⟨hno, by simp only [V.tot, V.tots, List.length_nil]; omega⟩⟩
 ·
  refine d_enter [(0, _), (1, _)] Tryz.func24 kR Tryz.ntmps24 rfl rfl tU fun B hok hB hW => ?_
  repeat' (first | refine jM ?_ | (refine jo ?_; first | refine jO fun _ => ?_ | refine jL fun _ => ?_ | refine jAl rfl ?_ | refine jD rfl rfl rfl ?_ | refine jV (g_mkf rfl rfl) ?_))
  rename_i x2 x3 x4
  refine jo ?_
  refine c_defer (fi := []) (ca := [Pt x2 0]) (az := []) rfl rfl ?_
  repeat' (first | (refine jR ?_) | (refine jo ?_; first | refine jAl rfl ?_ | refine jD rfl rfl rfl ?_ | refine jC rfl rfl rfl ?_ | refine jV (g_bld rfl rfl) ?_) | (refine k_tt rfl rfl ?_))
  all_goals
   refine k_rrD (R := [.blk x4 (.cells (List.toArray [U8 (0 : Nat), S [], I 0, nilS]) tVlU (0, 0)), .blk x3 (.cells (List.toArray [S (sg k), S (bs k), S (nm k)]) tKdU (0, 0))]) (.inl rfl) rfl (c_unkeyD (x0 := x2) (r := r) (sc := sc) (s := s) (b := true) (a := none) (n := 0) (c := 0) (d := 13 - ((0 : Nat) : Int) + 1) oM) (List.perm_append_comm (l₁ := [_, _]) (l₂ := [_, _])) rfl ?_
   rintro v G' L' ⟨rfl, rfl⟩
   dsimp only [zA, fA]
   refine ⟨[_], [brO r sc s true none 0 0 (13 - ((0 : Nat) : Int) + 1 - 1)], ⟨rc_A rfl rfl rfl rfl, trivial⟩, sB, Gh.le.refl _, ?_⟩
   exact ⟨.nd 0 [] 0 [], ⟨0, [], 0, none, 0, 0⟩, s, true, rfl, rep_zero, by rw [show 13 - ((0 : Nat) : Int) + 1 - 1 = 13 - ((0 : Nat) : Int) by omega], Nat.le_refl _, fun h => (by cases h), fun _ => ⟨hno, by simp only [V.tot, V.tots, List.length_nil]; omega⟩⟩
theorem k_rrU {P : Program} {n : Nat} {E : Env} {B : Base} {G : Gh} {L R1 R : List Own} {e : Exit} {f : FuncId} {fi ca az xs : List Value} {b1 b2 : Nat} {c1 c2 : List Value} {T1 T2 : TypeId} {PostD : Value → Gh → List Own → Prop} {fn : Func} {rs : List ResultVar} {Post : Value → Gh → List Own → Prop}
  [h1 : DelB L b1 c1 T1 R1] [h2 : DelB R1 b2 c2 T2 R] (he : e = .ret ∨ e = .normal) (hv : fi ++ az ++ ca = xs) (hc : FnD P f xs G [.blk b1 (.cells c1.toArray T1 (0, 0)), .blk b2 (.cells c2.toArray T2 (0, 0))] PostD)
  (hr : fn.results = rs.toArray) (k : ∀ v G' L', PostD v G' L' → ∃ vs L'', ResV P (St B G' (L' ++ R)) E rs vs ∧ L''.Sublist (L' ++ R) ∧ Post (oneOf vs) G' L'') :
  Nx n [dfd f fi ca az] E B G L (cu P (.exit e) [] (bpD P fn (RPost B Post))) := k_rrD he hv hc (h1.del.perm.trans (h2.del.perm.cons _)) hr k
theorem ukP_in {f : List UInt8 → Option (V × List UInt8)} {r sc : Nat} {s s' : List UInt8} {b b' : Bool} {d d' : Int} {u : V} {c : VC} {G' : Gh} (hr : V.rep G' u c) (hd : d' = d) (h : RkQ f s b u s' b') : UkP f r sc s b d (Ag (vcF c)) G' [brO r sc s' b' none 0 0 d'] := by
 subst hd; exact ⟨u, c, s', b', rfl, hr, rfl, h⟩
theorem tI_tx (x : List UInt8) : isTx (39 :: (x ++ [39])) = isTI x := by
 cases x with
 | nil => simp [isTx, TxP, isTI, bt]
 | cons c x =>
  have h := isTx_in (s := 39 :: (c :: x ++ [39]))
  have hne : (39 :: (c :: x ++ [39]) : List UInt8) ≠ [39, 39] := fun e => by simpa using congrArg List.length e
  have hl : (39 :: (c :: x ++ [39]) : List UInt8).length = x.length + 3 := by simp
  have e0 : bt (39 :: (c :: x ++ [39]) : List UInt8) 0 = 39 := rfl
  have e1 : bt (39 :: (c :: x ++ [39]) : List UInt8) (x.length + 3 - 1) = 39 := by
   rw [show x.length + 3 - 1 = (x.length + 1) + 1 by omega, bt_succ, show x.length + 1 = (c :: x).length from rfl]
   simp [bt, List.getD]
  have e2 : ((39 :: (c :: x ++ [39]) : List UInt8).take (x.length + 3 - 1)).drop 1 = c :: x := by
   rw [show x.length + 3 - 1 = (c :: x).length + 1 by simp, List.take_succ_cons, List.take_left]; rfl
  rw [hl, e0, e1, e2, decide_eq_true hne, Bool.and_true] at h
  rw [h, decide_eq_true oM]
  simp
theorem uk_d {f : List UInt8 → Option (V × List UInt8)} {r sc : Nat} {k q : List UInt8} {d e : Int} (h : e = d) (hc : FnM Tryz.prog 24 [Pt r 0, Ag (kdF k)] G [brO r sc q false none 0 0 e] (UkP f r sc q false e)) : FnM Tryz.prog 24 [Pt r 0, Ag [S (sg k), S (bs k), S (nm k)]] G [brO r sc q false none 0 0 d] (UkP f r sc q false d) := by subst h; exact hc
theorem rkQ_tot {ts : List Ty} {n : Nat} {k q t1 : List UInt8} {u : V} {b1 : Bool} (h : RkQ (rk true ts n k) q false u t1 b1) : t1.length ≤ q.length ∧ u.tot + 100 * t1.length ≤ 100 * q.length + 100 ∧ (b1 = false → rk true ts n k q = some (u, t1) ∧ u.tot + 100 * t1.length ≤ 100 * q.length) ∧ (b1 = true → rk true ts n k q = none) := by
 obtain ⟨h1, h2, h3⟩ := h
 cases b1 with
 | false =>
  obtain ⟨_, h4⟩ := h2 rfl
  have := rk_tot _ _ _ _ _ h4
  exact ⟨h1, oM, fun _ => ⟨h4, this⟩, fun h => (by cases h)⟩
 | true =>
  obtain ⟨h4, h5⟩ := h3 rfl
  exact ⟨h1, h5, fun h => (by cases h), fun _ => by rcases h4 with h4 | h4; cases h4; exact h4⟩
theorem rk_none_len {st : Bool} {ts : List Ty} {n : Nat} {s : List UInt8} (hr : refT ts [110] = none) (h : s.length < 3) : rk st ts (n + 1) [110] s = none := by
 rw [rk_plain (.inl rfl) hr, if_pos rfl]
 match s, h with
 | [], _ => rfl
 | [_], _ => rfl
 | [_, _], _ => rfl
 | _ :: _ :: _ :: r, h => exact absurd h (by simp only [List.length_cons]; omega)
theorem c_unkN {n r sc : Nat} {qs : List TyP} {s : List UInt8} {d : Int} (hd : d = 12 - (n : Int)) (hn : n ≤ 12) (hr : refT (tyq qs) [110] = none) (hs : s.length ≤ 1000) :
  FnM Tryz.prog 24 [Pt r 0, Ag (kdF [110])] G [brO r sc s false none 0 0 d] (UkP (rk true (tyq qs) (n + 1) [110]) r sc s false d) := by
 have cx_sign := @c_sign0 G [110] []
 show FnM Tryz.prog 24 [Pt r 0, Ag [S [], S [110], S []]] G [brO r sc s false none 0 0 d] _
 by_cases h3 : s.length < 3
 ·have hno := rk_none_len (st := true) (n := n) hr h3
  have cx_tkb := c_takeB0 (G := G) (r := r) (sc := sc) (m := 3) (n := 0) (c := 0) (s := s) (b := false) (a := none) (d := d + 1) (.inr h3) ⟨oM, oM⟩
  have cx_tkb : FnG Tryz.prog 59 [Pt r 0, I 3] G [brO r sc s false none 0 0 (d + 1)] (fun v L' => v = S [] ∧ L' = [brO r sc s true none 0 0 (d + 1)]) := cx_tkb
  refine d_enter [(0, _), (1, _)] Tryz.func24 kR Tryz.ntmps24 rfl rfl tU fun B hok hB hW => ?_
  repeat' (first | refine jM ?_ | (refine jo ?_; first | refine jO fun _ => ?_ | refine jL fun _ => ?_ | refine jAl rfl ?_ | refine jD rfl rfl rfl ?_ | refine jV (g_mkf rfl rfl) ?_))
  rename_i x2 x3 x4
  refine jo ?_
  refine c_defer (fi := []) (ca := [Pt x2 0]) (az := []) rfl rfl ?_
  repeat' (first | (refine jR ?_) | (refine jo ?_; first | refine jAl rfl ?_ | refine jAm rfl ?_ | refine jC rfl rfl rfl ?_ | refine jV (g_bld rfl rfl) ?_ | (refine c_rt rfl rfl rfl cx_sign rfl ?_) | (refine c_m1g rfl rfl rfl cx_tkb rfl ?_; rintro _ _ ⟨rfl, rfl⟩; dsimp only [zA, fA])) | (refine k_tt rfl rfl ?_) | (refine k_ff rfl (by first | rfl | (refine decide_eq_false ?_; (omega))) ?_))
  all_goals
   refine k_rrU (.inl rfl) rfl (c_unkeyD (x0 := x2) (r := r) (sc := sc) (s := s) (b := true) (a := none) (n := 0) (c := 0) (d := d + 1) oM) rfl ?_
   rintro v G' L' ⟨rfl, rfl⟩
   dsimp only [zA, fA]
   exact ⟨[_], [brO r sc s true none 0 0 (d + 1 - 1)], ⟨rc_A rfl rfl rfl rfl, trivial⟩, sB, Gh.le.refl _, ukP_in (c := ⟨0, [], 0, none, 0, 0⟩) rep_zero oM ⟨Nat.le_refl _, fun h => (by cases h), fun _ => ⟨.inr hno, by simp only [V.tot, V.tots, List.length_nil]; omega⟩⟩⟩
 ·obtain ⟨a0, b0, c0, q, rfl⟩ : ∃ a0 b0 c0 q, s = a0 :: b0 :: c0 :: q := by
   match s, h3 with
   | [], h => simp at h
   | [_], h => simp at h
   | [_, _], h => simp at h
   | a0 :: b0 :: c0 :: q, _ => exact ⟨a0, b0, c0, q, rfl⟩
  have hl : (a0 :: b0 :: c0 :: q).length = q.length + 3 := rfl
  have cx_tkb := c_takeB1 (G := G) (r := r) (sc := sc) (m := 3) (n := 0) (c := 0) (s := a0 :: b0 :: c0 :: q) (a := none) (d := d + 1) ⟨oM, oM⟩
  have cx_tkb : FnG Tryz.prog 59 [Pt r 0, I 3] G [brO r sc (a0 :: b0 :: c0 :: q) false none 0 0 (d + 1)] (fun v L' => v = S [a0, b0, c0] ∧ L' = [brO r sc q false none 0 0 (d + 1)]) := cx_tkb
  have ha : bt [a0, b0, c0] (Int.toNat 0) = a0.toNat := rfl
  have hb : bt [a0, b0, c0] (Int.toNat 1) = b0.toNat := rfl
  have hc : bt [a0, b0, c0] (Int.toNat 2) = c0.toNat := rfl
  have ha2 := a0.toNat_lt
  have hb2 := b0.toNat_lt
  have hc2 := c0.toNat_lt
  have hrd := rk_plain (st := true) (ts := tyq qs) (n := n) (s := a0 :: b0 :: c0 :: q) (c := 110) (.inl rfl) hr
  rw [if_pos rfl, rkNum] at hrd
  have hw1 : IntKind.i64.wrap (((bt [a0, b0, c0] (Int.toNat 0) : Nat) : Int) * 2 ^ (min (Int.toNat 16) IntKind.i64.bits)) = a0.toNat * 65536 := by
   rw [ha, show (min (Int.toNat 16) IntKind.i64.bits) = 16 from rfl, show (2 : Int) ^ 16 = 65536 from rfl]
   exact wrap_in oM
  have hw2 : IntKind.i64.wrap (((bt [a0, b0, c0] (Int.toNat 1) : Nat) : Int) * 2 ^ (min (Int.toNat 8) IntKind.i64.bits)) = b0.toNat * 256 := by
   rw [hb, show (min (Int.toNat 8) IntKind.i64.bits) = 8 from rfl, show (2 : Int) ^ 8 = 256 from rfl]
   exact wrap_in oM
  have hnum : num3 a0 b0 c0 = a0.toNat * 65536 + b0.toNat * 256 + c0.toNat := rfl
  by_cases hbig : 999999 < num3 a0 b0 c0
  ·rw [if_pos ⟨rfl, hbig⟩] at hrd
   refine d_enter [(0, _), (1, _)] Tryz.func24 kR Tryz.ntmps24 rfl rfl tU fun B hok hB hW => ?_
   repeat' (first | refine jM ?_ | (refine jo ?_; first | refine jO fun _ => ?_ | refine jL fun _ => ?_ | refine jAl rfl ?_ | refine jD rfl rfl rfl ?_ | refine jV (g_mkf rfl rfl) ?_))
   rename_i x2 x3 x4
   refine jo ?_
   refine c_defer (fi := []) (ca := [Pt x2 0]) (az := []) rfl rfl ?_
   repeat' (first | (refine jR ?_) | (refine jo ?_; first | refine jAl rfl ?_ | refine jAm rfl ?_ | refine jD rfl rfl rfl ?_ | refine jC rfl rfl rfl ?_ | refine jV (g_bld rfl rfl) ?_ | (refine c_rt rfl rfl rfl cx_sign rfl ?_) | (refine c_m1g rfl rfl rfl cx_tkb rfl ?_; rintro _ _ ⟨rfl, rfl⟩; dsimp only [zA, fA])) | (refine k_tt rfl (by first | rfl | (refine decide_eq_true ?_; (omega))) ?_) | (refine k_ff rfl (by first | rfl | (refine decide_eq_false ?_; (omega))) ?_) | (refine k_any (s_any (id := 24) _ (fun _ h => h) mixed ?_); refine jW 5 [0, 1, 2, 4, 5, 6, 9, 10, 11] (bts 14 3703) ?_; (refine jG (bts 14 3711) 3 rfl (g_shl rfl rfl oM) ?_); (refine jG (bts 14 3839) 7 rfl (g_shl rfl rfl oM) ?_); refine jW 0 [8, 12, 13] (bts 14 16383) ?_; refine jQ ?_))
   all_goals
    refine k_rrU (.inl rfl) rfl (c_unkeyD (x0 := x2) (r := r) (sc := sc) (s := q) (b := true) (a := none) (n := 0) (c := 0) (d := d + 1) oM) rfl ?_
    rintro v G' L' ⟨rfl, rfl⟩
    dsimp only [zA, fA]
    exact ⟨[_], [brO r sc q true none 0 0 (d + 1 - 1)], ⟨rc_A rfl rfl rfl rfl, trivial⟩, sB, Gh.le.refl _, ukP_in (c := ⟨0, [], 0, none, 0, 0⟩) rep_zero oM ⟨oM, fun h => (by cases h), fun _ => ⟨.inr hrd, by simp only [V.tot, V.tots, List.length_nil]; omega⟩⟩⟩
  ·rw [if_neg (fun h => hbig h.2)] at hrd
   refine d_enter [(0, _), (1, _)] Tryz.func24 kR Tryz.ntmps24 rfl rfl tU fun B hok hB hW => ?_
   repeat' (first | refine jM ?_ | (refine jo ?_; first | refine jO fun _ => ?_ | refine jL fun _ => ?_ | refine jAl rfl ?_ | refine jD rfl rfl rfl ?_ | refine jV (g_mkf rfl rfl) ?_))
   rename_i x2 x3 x4
   refine jo ?_
   refine c_defer (fi := []) (ca := [Pt x2 0]) (az := []) rfl rfl ?_
   repeat' (first | (refine jR ?_) | (refine jo ?_; first | refine jAl rfl ?_ | refine jAm rfl ?_ | refine jC rfl rfl rfl ?_ | refine jV (g_bld rfl rfl) ?_ | (refine c_rt rfl rfl rfl cx_sign rfl ?_) | (refine c_m1g rfl rfl rfl cx_tkb rfl ?_; rintro _ _ ⟨rfl, rfl⟩; dsimp only [zA, fA]) | (refine c_rt rfl rfl rfl (c_decimalN oM) rfl ?_)) | (refine k_tt rfl rfl ?_) | (refine k_ff rfl (by first | rfl | (refine decide_eq_false ?_; (omega))) ?_) | (refine k_any (s_any (id := 24) _ (fun _ h => h) mixed ?_); refine jW 5 [0, 1, 2, 4, 5, 6, 9, 10, 11] (bts 14 3703) ?_; (refine jG (bts 14 3711) 3 rfl (g_shl rfl rfl oM) ?_); (refine jG (bts 14 3839) 7 rfl (g_shl rfl rfl oM) ?_); refine jW 0 [8, 12, 13] (bts 14 16383) ?_; refine jQ ?_))
   have hnm : IntKind.i64.wrap (((bt [a0, b0, c0] (Int.toNat 0) : Nat) : Int) * 2 ^ (min (Int.toNat 16) IntKind.i64.bits)) + IntKind.i64.wrap (((bt [a0, b0, c0] (Int.toNat 1) : Nat) : Int) * 2 ^ (min (Int.toNat 8) IntKind.i64.bits)) + ((bt [a0, b0, c0] (Int.toNat 2) : Nat) : Int) = ((num3 a0 b0 c0 : Nat) : Int) := by rw [hw1, hw2, hc, hnum]; omega
   all_goals
    refine k_rrU (.inl rfl) rfl (c_unkeyD (x0 := x2) (r := r) (sc := sc) (s := q) (b := false) (a := none) (n := 0) (c := 0) (d := d + 1) oM) rfl ?_
    rintro v G' L' ⟨rfl, rfl⟩
    dsimp only [zA, fA]
    rw [hnm]
    exact ⟨[_], [brO r sc q false none 0 0 (d + 1 - 1)], ⟨rc_A rfl rfl rfl rfl, trivial⟩, sB, Gh.le.refl _, ukP_in (c := ⟨110, decI ((num3 a0 b0 c0 : Nat) : Int), 0, none, 0, 0⟩) (rep_leaf dC dC) oM ⟨oM, fun _ => ⟨rfl, hrd⟩, fun h => (by cases h)⟩⟩
theorem c_unkF {n r sc : Nat} {qs : List TyP} {s : List UInt8} {d : Int} (hd : d = 12 - (n : Int)) (hn : n ≤ 12) (hr : refT (tyq qs) [102] = none) (hs : s.length ≤ 1000) :
  FnM Tryz.prog 24 [Pt r 0, Ag (kdF [102])] G [brO r sc s false none 0 0 d] (UkP (rk true (tyq qs) (n + 1) [102]) r sc s false d) := by
 have cx_sign := @c_sign0 G [102] []
 have hrd := rk_plain (st := true) (ts := tyq qs) (n := n) (s := s) (c := 102) (.inr (.inr rfl)) hr
 rw [if_neg dC, if_neg dC] at hrd
 show FnM Tryz.prog 24 [Pt r 0, Ag [S [], S [102], S []]] G [brO r sc s false none 0 0 d] _
 cases hf : rbFlag s with
 | none =>
  rw [hf] at hrd
  have cx_fl := c_flagB0 (G := G) (r := r) (sc := sc) (n := 0) (c := 0) (s := s) (b := false) (a := none) (d := d + 1) (.inr hf) oM
  refine d_enter [(0, _), (1, _)] Tryz.func24 kR Tryz.ntmps24 rfl rfl tU fun B hok hB hW => ?_
  repeat' (first | refine jM ?_ | (refine jo ?_; first | refine jO fun _ => ?_ | refine jL fun _ => ?_ | refine jAl rfl ?_ | refine jD rfl rfl rfl ?_ | refine jV (g_mkf rfl rfl) ?_))
  rename_i x2 x3 x4
  refine jo ?_
  refine c_defer (fi := []) (ca := [Pt x2 0]) (az := []) rfl rfl ?_
  repeat' (first | (refine jR ?_) | (refine jo ?_; first | refine jAl rfl ?_ | refine jAm rfl ?_ | refine jC rfl rfl rfl ?_ | refine jV (g_bld rfl rfl) ?_ | (refine c_rt rfl rfl rfl cx_sign rfl ?_) | (refine c_m1g rfl rfl rfl cx_fl rfl ?_; rintro _ _ ⟨q1, ⟨rfl, hql⟩, rfl⟩; dsimp only [zA, fA])) | (refine k_tt rfl rfl ?_) | (refine k_ff rfl (by first | rfl | (refine decide_eq_false ?_; (omega))) ?_))
  all_goals
   refine k_rrU (.inl rfl) rfl (c_unkeyD (x0 := x2) (r := r) (sc := sc) (s := q1) (b := true) (a := none) (n := 0) (c := 0) (d := d + 1) oM) rfl ?_
   rintro v G' L' ⟨rfl, rfl⟩
   dsimp only [zA, fA]
   exact ⟨[_], [brO r sc q1 true none 0 0 (d + 1 - 1)], ⟨rc_A rfl rfl rfl rfl, trivial⟩, sB, Gh.le.refl _, ukP_in (c := ⟨102, [110, 111], 0, none, 0, 0⟩) (rep_leaf dC dC) oM ⟨hql, fun h => (by cases h), fun _ => ⟨.inr hrd, by simp only [V.tot, V.tots, List.length_cons, List.length_nil]; omega⟩⟩⟩
 | some y =>
  obtain ⟨x, q⟩ := y
  rw [hf] at hrd
  have hin := rbFlag_inv hf
  have hl : s.length = q.length + 1 := by rw [hin]; rfl
  have cx_fl := c_flagB1 (G := G) (r := r) (sc := sc) (n := 0) (c := 0) (s := s) (q := q) (x := x) (a := none) (d := d + 1) hf oM
  cases x
  ·
   refine d_enter [(0, _), (1, _)] Tryz.func24 kR Tryz.ntmps24 rfl rfl tU fun B hok hB hW => ?_
   repeat' (first | refine jM ?_ | (refine jo ?_; first | refine jO fun _ => ?_ | refine jL fun _ => ?_ | refine jAl rfl ?_ | refine jD rfl rfl rfl ?_ | refine jV (g_mkf rfl rfl) ?_))
   rename_i x2 x3 x4
   refine jo ?_
   refine c_defer (fi := []) (ca := [Pt x2 0]) (az := []) rfl rfl ?_
   repeat' (first | (refine jR ?_) | (refine jo ?_; first | refine jAl rfl ?_ | refine jAm rfl ?_ | refine jC rfl rfl rfl ?_ | refine jV (g_bld rfl rfl) ?_ | (refine c_rt rfl rfl rfl cx_sign rfl ?_) | (refine c_m1g rfl rfl rfl cx_fl rfl ?_; rintro _ _ ⟨rfl, rfl⟩; dsimp only [zA, fA])) | (refine k_tt rfl rfl ?_) | (refine k_ff rfl (by first | rfl | (refine decide_eq_false ?_; (omega))) ?_))
   all_goals
    refine k_rrU (.inl rfl) rfl (c_unkeyD (x0 := x2) (r := r) (sc := sc) (s := q) (b := false) (a := none) (n := 0) (c := 0) (d := d + 1) oM) rfl ?_
    rintro v G' L' ⟨rfl, rfl⟩
    dsimp only [zA, fA]
    exact ⟨[_], [brO r sc q false none 0 0 (d + 1 - 1)], ⟨rc_A rfl rfl rfl rfl, trivial⟩, sB, Gh.le.refl _, ukP_in (c := ⟨102, [110, 111], 0, none, 0, 0⟩) (rep_leaf dC dC) oM ⟨oM, fun _ => ⟨rfl, hrd⟩, fun h => (by cases h)⟩⟩
  ·
   refine d_enter [(0, _), (1, _)] Tryz.func24 kR Tryz.ntmps24 rfl rfl tU fun B hok hB hW => ?_
   repeat' (first | refine jM ?_ | (refine jo ?_; first | refine jO fun _ => ?_ | refine jL fun _ => ?_ | refine jAl rfl ?_ | refine jD rfl rfl rfl ?_ | refine jV (g_mkf rfl rfl) ?_))
   rename_i x2 x3 x4
   refine jo ?_
   refine c_defer (fi := []) (ca := [Pt x2 0]) (az := []) rfl rfl ?_
   repeat' (first | (refine jR ?_) | (refine jo ?_; first | refine jAl rfl ?_ | refine jAm rfl ?_ | refine jC rfl rfl rfl ?_ | refine jV (g_bld rfl rfl) ?_ | (refine c_rt rfl rfl rfl cx_sign rfl ?_) | (refine c_m1g rfl rfl rfl cx_fl rfl ?_; rintro _ _ ⟨rfl, rfl⟩; dsimp only [zA, fA])) | (refine k_tt rfl rfl ?_) | (refine k_ff rfl (by first | rfl | (refine decide_eq_false ?_; (omega))) ?_))
   all_goals
    refine k_rrU (.inl rfl) rfl (c_unkeyD (x0 := x2) (r := r) (sc := sc) (s := q) (b := false) (a := none) (n := 0) (c := 0) (d := d + 1) oM) rfl ?_
    rintro v G' L' ⟨rfl, rfl⟩
    dsimp only [zA, fA]
    exact ⟨[_], [brO r sc q false none 0 0 (d + 1 - 1)], ⟨rc_A rfl rfl rfl rfl, trivial⟩, sB, Gh.le.refl _, ukP_in (c := ⟨102, [121, 101, 115], 0, none, 0, 0⟩) (rep_leaf dC dC) oM ⟨oM, fun _ => ⟨rfl, hrd⟩, fun h => (by cases h)⟩⟩
theorem c_unkT {n r sc : Nat} {qs : List TyP} {s : List UInt8} {d : Int} (hd : d = 12 - (n : Int)) (hn : n ≤ 12) (hr : refT (tyq qs) [116] = none) (hs : s.length ≤ 1000) :
  FnM Tryz.prog 24 [Pt r 0, Ag (kdF [116])] G [brO r sc s false none 0 0 d] (UkP (rk true (tyq qs) (n + 1) [116]) r sc s false d) := by
 have cx_sign := @c_sign0 G [116] []
 have hrd := rk_plain (st := true) (ts := tyq qs) (n := n) (s := s) (c := 116) (.inr (.inl rfl)) hr
 rw [if_neg dC, if_pos rfl] at hrd
 unfold rkText at hrd
 show FnM Tryz.prog 24 [Pt r 0, Ag [S [], S [116], S []]] G [brO r sc s false none 0 0 d] _
 rcases idx1_cases 0 s with ⟨hi, hc⟩ | ⟨i, hi, hil, hc⟩
 ·rw [hc] at hrd
  dsimp only at hrd
  have cx_ixb : PuG Tryz.prog 61 [S s, U8 (0 : UInt8).toNat] G (· = I (-1)) := by rw [← hi]; exact c_IndexByte
  have hmx : max (-1 : Int) 0 = 0 := rfl
  have cx_tkb := c_takeB1 (G := G) (r := r) (sc := sc) (m := 0) (n := 0) (c := 0) (s := s) (a := none) (d := d + 1) ⟨oM, oM⟩
  have cx_tkb : FnG Tryz.prog 59 [Pt r 0, I (max (-1) 0)] G [brO r sc s false none 0 0 (d + 1)] (fun v L' => v = S [] ∧ L' = [brO r sc s false none 0 0 (d + 1)]) := cx_tkb
  cases s with
  | nil =>
   have cx_tkb2 := c_takeB0 (G := G) (r := r) (sc := sc) (m := 1) (n := 0) (c := 0) (s := []) (b := false) (a := none) (d := d + 1) (.inr (by simp)) ⟨oM, oM⟩
   have cx_tkb2 : FnG Tryz.prog 59 [Pt r 0, I 1] G [brO r sc [] false none 0 0 (d + 1)] (fun v L' => v = S [] ∧ L' = [brO r sc [] true none 0 0 (d + 1)]) := cx_tkb2
   refine d_enter [(0, _), (1, _)] Tryz.func24 kR Tryz.ntmps24 rfl rfl tU fun B hok hB hW => ?_
   repeat' (first | refine jM ?_ | (refine jo ?_; first | refine jO fun _ => ?_ | refine jL fun _ => ?_ | refine jAl rfl ?_ | refine jD rfl rfl rfl ?_ | refine jV (g_mkf rfl rfl) ?_))
   rename_i x2 x3 x4
   refine jo ?_
   refine c_defer (fi := []) (ca := [Pt x2 0]) (az := []) rfl rfl ?_
   repeat' (first | (refine jR ?_) | (refine jo ?_; first | refine jAl rfl ?_ | refine jAm rfl ?_ | (refine c_rt rfl rfl rfl cx_sign rfl ?_)) | (refine k_tt rfl rfl ?_) | (refine k_ff rfl (by first | rfl | (refine decide_eq_false ?_; (omega))) ?_))
   (refine k_any (s_any (id := 30) [.blk x2 (.cells (List.toArray [Pt r 0]) tPbr (0, 0))] (by intro y hy; simp only [List.mem_cons, List.not_mem_nil, or_false] at hy ⊢; simp [hy]) mixed ?_); (refine jG (bts 9 1) 0 rfl (g_ld rfl rfl rfl) ?_); (refine jG (bts 9 3) 1 rfl (g_ld rfl rfl rfl) ?_); refine jW 5 [2, 3] (bts 9 15) ?_; refine jA 4 rfl ?_; (refine jAl rfl ?_); refine jK (bts 9 31) ?_; refine jA 5 rfl ?_; (refine c_rt rfl rfl rfl cx_ixb rfl ?_); refine jK (bts 9 63) ?_; (refine jG (bts 9 127) 6 rfl (g_max rfl rfl) ?_); refine jA 7 rfl ?_; (refine c_m1g rfl rfl rfl cx_tkb rfl ?_; rintro _ _ ⟨rfl, rfl⟩; dsimp only [zA, fA]); refine jK (bts 9 255) ?_; refine jW 0 [8] (bts 9 511) ?_; refine jQ ?_)
   all_goals repeat' (first | (refine jR ?_) | (refine jo ?_; first | refine jAl rfl ?_ | refine jD rfl rfl rfl ?_ | refine jC rfl rfl rfl ?_ | refine jV (g_bld rfl rfl) ?_ | (refine jAt rfl ?_) | (refine c_m1g rfl rfl rfl cx_tkb2 rfl ?_; rintro _ _ ⟨rfl, rfl⟩; dsimp only [zA, fA])) | (refine k_gt rfl rfl rfl ?_) | (refine k_tt rfl rfl ?_))
   all_goals
    refine k_rrU (.inl rfl) rfl (c_unkeyD (x0 := x2) (r := r) (sc := sc) (s := []) (b := true) (a := none) (n := 0) (c := 0) (d := d + 1) oM) rfl ?_
    rintro v G' L' ⟨rfl, rfl⟩
    dsimp only [zA, fA]
    exact ⟨[_], [brO r sc [] true none 0 0 (d + 1 - 1)], ⟨rc_A rfl rfl rfl rfl, trivial⟩, sB, Gh.le.refl _, ukP_in (c := ⟨116, [], 0, none, 0, 0⟩) (rep_leaf dC dC) oM ⟨Nat.le_refl _, fun h => (by cases h), fun _ => ⟨.inr hrd, by simp only [V.tot, V.tots, List.length_nil]; omega⟩⟩⟩
  | cons e q =>
   have he : e.toNat ≠ 0 := fun h => by rw [cut1, if_pos h] at hc; simp at hc
   have hne : [e] ≠ [(0 : UInt8)] := fun h => by simp only [List.cons.injEq, and_true] at h; subst h; exact he rfl
   have hl : (e :: q).length = q.length + 1 := rfl
   have cx_tkb2 := c_takeB1 (G := G) (r := r) (sc := sc) (m := 1) (n := 0) (c := 0) (s := e :: q) (a := none) (d := d + 1) ⟨oM, oM⟩
   have cx_tkb2 : FnG Tryz.prog 59 [Pt r 0, I 1] G [brO r sc (e :: q) false none 0 0 (d + 1)] (fun v L' => v = S [e] ∧ L' = [brO r sc q false none 0 0 (d + 1)]) := cx_tkb2
   refine d_enter [(0, _), (1, _)] Tryz.func24 kR Tryz.ntmps24 rfl rfl tU fun B hok hB hW => ?_
   repeat' (first | refine jM ?_ | (refine jo ?_; first | refine jO fun _ => ?_ | refine jL fun _ => ?_ | refine jAl rfl ?_ | refine jD rfl rfl rfl ?_ | refine jV (g_mkf rfl rfl) ?_))
   rename_i x2 x3 x4
   refine jo ?_
   refine c_defer (fi := []) (ca := [Pt x2 0]) (az := []) rfl rfl ?_
   repeat' (first | (refine jR ?_) | (refine jo ?_; first | refine jAl rfl ?_ | refine jAm rfl ?_ | (refine c_rt rfl rfl rfl cx_sign rfl ?_)) | (refine k_tt rfl rfl ?_) | (refine k_ff rfl (by first | rfl | (refine decide_eq_false ?_; (omega))) ?_))
   (refine k_any (s_any (id := 30) [.blk x2 (.cells (List.toArray [Pt r 0]) tPbr (0, 0))] (by intro y hy; simp only [List.mem_cons, List.not_mem_nil, or_false] at hy ⊢; simp [hy]) mixed ?_); (refine jG (bts 9 1) 0 rfl (g_ld rfl rfl rfl) ?_); (refine jG (bts 9 3) 1 rfl (g_ld rfl rfl rfl) ?_); refine jW 5 [2, 3] (bts 9 15) ?_; refine jA 4 rfl ?_; (refine jAl rfl ?_); refine jK (bts 9 31) ?_; refine jA 5 rfl ?_; (refine c_rt rfl rfl rfl cx_ixb rfl ?_); refine jK (bts 9 63) ?_; (refine jG (bts 9 127) 6 rfl (g_max rfl rfl) ?_); refine jA 7 rfl ?_; (refine c_m1g rfl rfl rfl cx_tkb rfl ?_; rintro _ _ ⟨rfl, rfl⟩; dsimp only [zA, fA]); refine jK (bts 9 255) ?_; refine jW 0 [8] (bts 9 511) ?_; refine jQ ?_)
   all_goals repeat' (first | (refine jR ?_) | (refine jo ?_; first | refine jAl rfl ?_ | refine jD rfl rfl rfl ?_ | refine jC rfl rfl rfl ?_ | refine jV (g_bld rfl rfl) ?_ | (refine jAt rfl ?_) | (refine c_m1g rfl rfl rfl cx_tkb2 rfl ?_; rintro _ _ ⟨rfl, rfl⟩; dsimp only [zA, fA])) | (refine k_gt rfl rfl (dTt ‹_›) ?_) | (refine k_tt rfl rfl ?_))
   all_goals
    refine k_rrU (.inl rfl) rfl (c_unkeyD (x0 := x2) (r := r) (sc := sc) (s := q) (b := true) (a := none) (n := 0) (c := 0) (d := d + 1) oM) rfl ?_
    rintro v G' L' ⟨rfl, rfl⟩
    dsimp only [zA, fA]
    exact ⟨[_], [brO r sc q true none 0 0 (d + 1 - 1)], ⟨rc_A rfl rfl rfl rfl, trivial⟩, sB, Gh.le.refl _, ukP_in (c := ⟨116, [], 0, none, 0, 0⟩) (rep_leaf dC dC) oM ⟨oM, fun h => (by cases h), fun _ => ⟨.inr hrd, by simp only [V.tot, V.tots, List.length_nil, List.length_cons]; omega⟩⟩⟩
 ·rw [hc] at hrd
  dsimp only at hrd
  rw [tI_tx] at hrd
  have hs2 := cut1_some hc
  obtain ⟨e0, he0, hse⟩ := hs2
  obtain rfl : e0 = 0 := u8_eq he0 dC
  have hdr : s.drop i = 0 :: s.drop (i + 1) := by
   have h1 : (s.take i).length = i := by rw [List.length_take]; omega
   conv => lhs; rw [hse]
   rw [List.drop_append_of_le_length oM, List.drop_of_length_le oM, List.nil_append]
  have hl1 : (s.take i).length = i := by rw [List.length_take]; omega
  have hl2 : (s.drop (i + 1)).length = s.length - (i + 1) := List.length_drop
  have hl3 : (0 :: s.drop (i + 1)).length = s.length - i := by rw [← hdr]; exact List.length_drop
  have cx_ixb : PuG Tryz.prog 61 [S s, U8 (0 : UInt8).toNat] G (· = I (i : Nat)) := by rw [← hi]; exact c_IndexByte
  have cx_tkb := c_takeB1 (G := G) (r := r) (sc := sc) (m := i) (n := 0) (c := 0) (s := s) (a := none) (d := d + 1) ⟨oM, oM⟩
  have hmx : max ((i : Nat) : Int) 0 = (i : Nat) := oM
  rw [hdr, ← hmx] at cx_tkb
  have cx_tkb2 := c_takeB1 (G := G) (r := r) (sc := sc) (m := 1) (n := 0) (c := 0) (s := 0 :: s.drop (i + 1)) (a := none) (d := d + 1) ⟨oM, oM⟩
  have cx_tkb2 : FnG Tryz.prog 59 [Pt r 0, I 1] G [brO r sc (0 :: s.drop (i + 1)) false none 0 0 (d + 1)] (fun v L' => v = S [0] ∧ L' = [brO r sc (s.drop (i + 1)) false none 0 0 (d + 1)]) := cx_tkb2
  clear hse hdr hc
  cases hti : isTI (s.take i) with
  | true =>
   rw [hti] at hrd
   rw [if_pos rfl] at hrd
   refine d_enter [(0, _), (1, _)] Tryz.func24 kR Tryz.ntmps24 rfl rfl tU fun B hok hB hW => ?_
   repeat' (first | refine jM ?_ | (refine jo ?_; first | refine jO fun _ => ?_ | refine jL fun _ => ?_ | refine jAl rfl ?_ | refine jD rfl rfl rfl ?_ | refine jV (g_mkf rfl rfl) ?_))
   rename_i x2 x3 x4
   refine jo ?_
   refine c_defer (fi := []) (ca := [Pt x2 0]) (az := []) rfl rfl ?_
   repeat' (first | (refine jR ?_) | (refine jo ?_; first | refine jAl rfl ?_ | refine jAm rfl ?_ | (refine c_rt rfl rfl rfl cx_sign rfl ?_)) | (refine k_tt rfl rfl ?_) | (refine k_ff rfl (by first | rfl | (refine decide_eq_false ?_; (omega))) ?_))
   (refine k_any (s_any (id := 30) [.blk x2 (.cells (List.toArray [Pt r 0]) tPbr (0, 0))] (by intro y hy; simp only [List.mem_cons, List.not_mem_nil, or_false] at hy ⊢; simp [hy]) mixed ?_); (refine jG (bts 9 1) 0 rfl (g_ld rfl rfl rfl) ?_); (refine jG (bts 9 3) 1 rfl (g_ld rfl rfl rfl) ?_); refine jW 5 [2, 3] (bts 9 15) ?_; refine jA 4 rfl ?_; (refine jAl rfl ?_); refine jK (bts 9 31) ?_; refine jA 5 rfl ?_; (refine c_rt rfl rfl rfl cx_ixb rfl ?_); refine jK (bts 9 63) ?_; (refine jG (bts 9 127) 6 rfl (g_max rfl rfl) ?_); refine jA 7 rfl ?_; (refine c_m1g rfl rfl rfl cx_tkb rfl ?_; rintro _ _ ⟨rfl, rfl⟩; dsimp only [zA, fA]); refine jK (bts 9 255) ?_; refine jW 0 [8] (bts 9 511) ?_; refine jQ ?_)
   all_goals repeat' (first | (refine jR ?_) | (refine jo ?_; first | refine jAl rfl ?_ | refine jC rfl rfl rfl ?_ | refine jV (g_bld rfl rfl) ?_ | (refine jAf rfl ?_) | (refine c_m1g rfl rfl rfl cx_tkb2 rfl ?_; rintro _ _ ⟨rfl, rfl⟩; dsimp only [zA, fA]) | (refine c_rt rfl rfl rfl (c_isText oM) rfl ?_)) | (refine k_gf rfl rfl rfl ?_) | (refine k_ff rfl ?_ ?_; (focus ((simp [*]; done); done))))
   all_goals
    refine k_rrU (.inl rfl) rfl (c_unkeyD (x0 := x2) (r := r) (sc := sc) (s := (s.drop (i + 1))) (b := false) (a := none) (n := 0) (c := 0) (d := d + 1) oM) rfl ?_
    rintro v G' L' ⟨rfl, rfl⟩
    dsimp only [zA, fA]
    exact ⟨[_], [brO r sc (s.drop (i + 1)) false none 0 0 (d + 1 - 1)], ⟨rc_A rfl rfl rfl rfl, trivial⟩, sB, Gh.le.refl _, ukP_in (c := ⟨116, s.take i, 0, none, 0, 0⟩) (rep_leaf dC dC) oM ⟨oM, fun _ => ⟨rfl, hrd⟩, fun h => (by cases h)⟩⟩
  | false =>
   rw [hti] at hrd
   rw [if_neg (by simp)] at hrd
   refine d_enter [(0, _), (1, _)] Tryz.func24 kR Tryz.ntmps24 rfl rfl tU fun B hok hB hW => ?_
   repeat' (first | refine jM ?_ | (refine jo ?_; first | refine jO fun _ => ?_ | refine jL fun _ => ?_ | refine jAl rfl ?_ | refine jD rfl rfl rfl ?_ | refine jV (g_mkf rfl rfl) ?_))
   rename_i x2 x3 x4
   refine jo ?_
   refine c_defer (fi := []) (ca := [Pt x2 0]) (az := []) rfl rfl ?_
   repeat' (first | (refine jR ?_) | (refine jo ?_; first | refine jAl rfl ?_ | refine jAm rfl ?_ | (refine c_rt rfl rfl rfl cx_sign rfl ?_)) | (refine k_tt rfl rfl ?_) | (refine k_ff rfl (by first | rfl | (refine decide_eq_false ?_; (omega))) ?_))
   (refine k_any (s_any (id := 30) [.blk x2 (.cells (List.toArray [Pt r 0]) tPbr (0, 0))] (by intro y hy; simp only [List.mem_cons, List.not_mem_nil, or_false] at hy ⊢; simp [hy]) mixed ?_); (refine jG (bts 9 1) 0 rfl (g_ld rfl rfl rfl) ?_); (refine jG (bts 9 3) 1 rfl (g_ld rfl rfl rfl) ?_); refine jW 5 [2, 3] (bts 9 15) ?_; refine jA 4 rfl ?_; (refine jAl rfl ?_); refine jK (bts 9 31) ?_; refine jA 5 rfl ?_; (refine c_rt rfl rfl rfl cx_ixb rfl ?_); refine jK (bts 9 63) ?_; (refine jG (bts 9 127) 6 rfl (g_max rfl rfl) ?_); refine jA 7 rfl ?_; (refine c_m1g rfl rfl rfl cx_tkb rfl ?_; rintro _ _ ⟨rfl, rfl⟩; dsimp only [zA, fA]); refine jK (bts 9 255) ?_; refine jW 0 [8] (bts 9 511) ?_; refine jQ ?_)
   all_goals repeat' (first | (refine jR ?_) | (refine jo ?_; first | refine jAl rfl ?_ | refine jD rfl rfl rfl ?_ | refine jC rfl rfl rfl ?_ | refine jV (g_bld rfl rfl) ?_ | (refine jAf rfl ?_) | (refine c_m1g rfl rfl rfl cx_tkb2 rfl ?_; rintro _ _ ⟨rfl, rfl⟩; dsimp only [zA, fA]) | (refine c_rt rfl rfl rfl (c_isText oM) rfl ?_)) | (refine k_gf rfl rfl rfl ?_) | (refine k_tt rfl ?_ ?_; (focus ((simp [*]; done); done))))
   all_goals
    refine k_rrU (.inl rfl) rfl (c_unkeyD (x0 := x2) (r := r) (sc := sc) (s := (s.drop (i + 1))) (b := true) (a := none) (n := 0) (c := 0) (d := d + 1) oM) rfl ?_
    rintro v G' L' ⟨rfl, rfl⟩
    dsimp only [zA, fA]
    exact ⟨[_], [brO r sc (s.drop (i + 1)) true none 0 0 (d + 1 - 1)], ⟨rc_A rfl rfl rfl rfl, trivial⟩, sB, Gh.le.refl _, ukP_in (c := ⟨116, s.take i, 0, none, 0, 0⟩) (rep_leaf dC dC) oM ⟨oM, fun h => (by cases h), fun _ => ⟨.inr hrd, by simp only [V.tot, V.tots]; omega⟩⟩⟩
theorem c_unkO {n r sc : Nat} {qs : List TyP} {k s : List UInt8} {d : Int} (hd : d = 12 - (n : Int)) (hn : n ≤ 12) (hU : UkC n sc qs) (hS : ScI G sc qs) (hk : kindIn (tyq qs) (63 :: k) = true) (hs : s.length ≤ 1000) :
  FnM Tryz.prog 24 [Pt r 0, Ag (kdF (63 :: k))] G [brO r sc s false none 0 0 d] (UkP (rk true (tyq qs) (n + 1) (63 :: k)) r sc s false d) := by
 have hk2 := kindIn_tail (.inr rfl) hk
 obtain ⟨e1, e2, e3, _⟩ := kdF_cons (c := 63) (k := k) (.inr rfl)
 have hrd := rk_opt (st := true) (ts := tyq qs) (n := n) (k := k) (s := s)
 unfold kdF
 rw [e1, e2, e3]
 have cx_sign := @c_sign1 G 63 (sg k) (bs k) (nm k)
 have cx_pt := @c_part G 63 (sg k) (bs k) (nm k)
 cases hf : rbFlag s with
 | none =>
  rw [hf] at hrd
  have cx_fl := c_flagB0 (G := G) (r := r) (sc := sc) (n := 0) (c := 0) (s := s) (b := false) (a := none) (d := d + 1) (.inr hf) oM
  refine d_enter [(0, _), (1, _)] Tryz.func24 kR Tryz.ntmps24 rfl rfl tU fun B hok hB hW => ?_
  repeat' (first | refine jM ?_ | (refine jo ?_; first | refine jO fun _ => ?_ | refine jL fun _ => ?_ | refine jAl rfl ?_ | refine jD rfl rfl rfl ?_ | refine jV (g_mkf rfl rfl) ?_))
  rename_i x2 x3 x4
  refine jo ?_
  refine c_defer (fi := []) (ca := [Pt x2 0]) (az := []) rfl rfl ?_
  repeat' (first | (refine jR ?_) | (refine jo ?_; first | refine jAl rfl ?_ | refine jAm rfl ?_ | refine jC rfl rfl rfl ?_ | refine jV (g_bld rfl rfl) ?_ | (refine c_rt rfl rfl rfl cx_sign rfl ?_) | (refine c_m1g rfl rfl rfl cx_fl rfl ?_; rintro _ _ ⟨q1, ⟨rfl, hql⟩, rfl⟩; dsimp only [zA, fA])) | (refine k_tt rfl rfl ?_) | (refine k_ff rfl (by first | rfl | (refine decide_eq_false ?_; (omega))) ?_))
  all_goals
   refine k_rrU (.inl rfl) rfl (c_unkeyD (x0 := x2) (r := r) (sc := sc) (s := q1) (b := true) (a := none) (n := 0) (c := 0) (d := d + 1) oM) rfl ?_
   rintro v G' L' ⟨rfl, rfl⟩
   dsimp only [zA, fA]
   exact ⟨[_], [brO r sc q1 true none 0 0 (d + 1 - 1)], ⟨rc_A rfl rfl rfl rfl, trivial⟩, sB, Gh.le.refl _, ukP_in (c := ⟨63, [], 0, none, 0, 0⟩) (rep_leaf dC dC) oM ⟨hql, fun h => (by cases h), fun _ => ⟨.inr hrd, by simp only [V.tot, V.tots, List.length_nil]; omega⟩⟩⟩
 | some y =>
  obtain ⟨x, q⟩ := y
  rw [hf] at hrd
  have hin := rbFlag_inv hf
  have hl : s.length = q.length + 1 := by rw [hin]; rfl
  have cx_fl := c_flagB1 (G := G) (r := r) (sc := sc) (n := 0) (c := 0) (s := s) (q := q) (x := x) (a := none) (d := d + 1) hf oM
  cases x with
  | false =>
   refine d_enter [(0, _), (1, _)] Tryz.func24 kR Tryz.ntmps24 rfl rfl tU fun B hok hB hW => ?_
   repeat' (first | refine jM ?_ | (refine jo ?_; first | refine jO fun _ => ?_ | refine jL fun _ => ?_ | refine jAl rfl ?_ | refine jD rfl rfl rfl ?_ | refine jV (g_mkf rfl rfl) ?_))
   rename_i x2 x3 x4
   refine jo ?_
   refine c_defer (fi := []) (ca := [Pt x2 0]) (az := []) rfl rfl ?_
   repeat' (first | (refine jR ?_) | (refine jo ?_; first | refine jAl rfl ?_ | refine jAm rfl ?_ | refine jC rfl rfl rfl ?_ | refine jV (g_bld rfl rfl) ?_ | (refine c_rt rfl rfl rfl cx_sign rfl ?_) | (refine c_m1g rfl rfl rfl cx_fl rfl ?_; rintro _ _ ⟨rfl, rfl⟩; dsimp only [zA, fA])) | (refine k_tt rfl rfl ?_) | (refine k_ff rfl (by first | rfl | (refine decide_eq_false ?_; (omega))) ?_))
   all_goals
    refine k_rrU (.inl rfl) rfl (c_unkeyD (x0 := x2) (r := r) (sc := sc) (s := q) (b := false) (a := none) (n := 0) (c := 0) (d := d + 1) oM) rfl ?_
    rintro v G' L' ⟨rfl, rfl⟩
    dsimp only [zA, fA]
    exact ⟨[_], [brO r sc q false none 0 0 (d + 1 - 1)], ⟨rc_A rfl rfl rfl rfl, trivial⟩, sB, Gh.le.refl _, ukP_in (c := ⟨63, [], 0, none, 0, 0⟩) (rep_leaf dC dC) oM ⟨oM, fun _ => ⟨rfl, hrd⟩, fun h => (by cases h)⟩⟩
  | true =>
   dsimp only at hrd
   have cx_uk := uk_d (d := d + 1) oM (hU G r k q false hS hk2 oM)
   refine d_enter [(0, _), (1, _)] Tryz.func24 kR Tryz.ntmps24 rfl rfl tU fun B hok hB hW => ?_
   repeat' (first | refine jM ?_ | (refine jo ?_; first | refine jO fun _ => ?_ | refine jL fun _ => ?_ | refine jAl rfl ?_ | refine jD rfl rfl rfl ?_ | refine jV (g_mkf rfl rfl) ?_))
   rename_i x2 x3 x4
   refine jo ?_
   refine c_defer (fi := []) (ca := [Pt x2 0]) (az := []) rfl rfl ?_
   repeat' (first | (refine jR ?_) | (refine jo ?_; first | refine jAl rfl ?_ | refine jAm rfl ?_ | (refine c_rt rfl rfl rfl cx_sign rfl ?_) | (refine c_m1g rfl rfl rfl cx_fl rfl ?_; rintro _ _ ⟨rfl, rfl⟩; dsimp only [zA, fA])) | (refine k_tt rfl rfl ?_) | (refine k_ff rfl (by first | rfl | (refine decide_eq_false ?_; (omega))) ?_))
   (refine k_any (s_any (id := 18) [.blk x3 (.cells (List.toArray [S (63 :: sg k), S (bs k), S (nm k)]) tKdU (0, 0)), .blk x2 (.cells (List.toArray [Pt r 0]) tPbr (0, 0))] (by intro y hy; simp only [List.mem_cons, List.not_mem_nil, or_false] at hy ⊢; rcases hy with hy | hy <;> simp [hy]) mixed ?_); (refine jG (bts 7 1) 0 rfl (g_ld rfl rfl rfl) ?_); (refine jG (bts 7 3) 1 rfl (g_ldA rfl rfl rfl rfl) ?_); refine jA 2 rfl ?_; (refine c_rt rfl rfl rfl cx_pt rfl ?_); refine jK (bts 7 7) ?_; refine jA 3 rfl ?_; (refine c_m1s rfl rfl rfl cx_uk rfl ?_; rintro _ G1 _ hle ⟨u1, c1, t1, b1, rfl, hrep, rfl, hP⟩; dsimp only [zA, fA]; skip); refine jK (bts 7 15) ?_; refine jA 4 rfl ?_; (refine jF fun _ => ?_); refine jK (bts 7 31) ?_; (refine jG (bts 7 63) 5 rfl (g_bld rfl rfl) ?_); refine jA 6 rfl ?_; (refine jC rfl rfl rfl ?_); refine jK (bts 7 127) ?_; refine jQ ?_)
   all_goals repeat' (refine jR ?_)
   rename_i y
   refine Nx.sealC (b := y) fun G2 hG2 hsy => ?_
   have hsl : SlV G2 (.slice (some ⟨y, 0, none⟩) 1 1) 4 ([c1] : List VC).length (rows vcF [c1]) := ⟨rfl, .inr ⟨y, 0, 1, rfl, Nat.le_refl _, hsy⟩⟩
   obtain ⟨hQ1, hQ2, hQ3, hQ4⟩ := rkQ_tot hP
   refine k_rrU (.inl rfl) rfl (c_unkeyD (x0 := x2) (r := r) (sc := sc) (s := t1) (b := b1) (a := none) (n := 0) (c := 0) (d := d + 1) oM) rfl ?_
   rintro v G' L' ⟨rfl, rfl⟩
   dsimp only [zA, fA]
   exact ⟨[_], [brO r sc t1 b1 none 0 0 (d + 1 - 1)], ⟨rc_A rfl rfl rfl rfl, trivial⟩, sB, (hle.trans hG2), ukP_in (c := ⟨63, [], 0, some ⟨y, 0, none⟩, 1, 1⟩) (rep_mk (ks := [u1]) dC dC (fun h => absurd h dC) rfl hsl ⟨_, [], rfl, rep_mono hG2 hrep, rfl⟩) oM ⟨oM, fun h => ⟨rfl, by rw [hrd, (hQ3 h).1]; rfl⟩, fun h => ⟨.inr (by rw [hrd, hQ4 h]; rfl), by simp only [V.tot, V.tots, List.length_nil]; omega⟩⟩⟩
end Go.E
namespace Go.E
set_option maxRecDepth 20000
set_option maxHeartbeats 2000000
open Go.Proofs
variable {G : Gh}
theorem c_unkL {n r sc : Nat} {qs : List TyP} {k s : List UInt8} {d : Int} (hd : d = 12 - (n : Int)) (hn : n ≤ 12) (hU : UkC n sc qs) (hS : ScI G sc qs) (hk : kindIn (tyq qs) (91 :: k) = true) (hs : s.length ≤ 1000) :
  FnM Tryz.prog 24 [Pt r 0, Ag (kdF (91 :: k))] G [brO r sc s false none 0 0 d] (UkP (rk true (tyq qs) (n + 1) (91 :: k)) r sc s false d) := by
 have hk2 := kindIn_tail (.inl rfl) hk
 obtain ⟨e1, e2, e3, _⟩ := kdF_cons (c := 91) (k := k) (.inl rfl)
 have hrd := rk_lst (st := true) (ts := tyq qs) (n := n) (k := k) (s := s)
 unfold kdF
 rw [e1, e2, e3]
 have cx_sign := @c_sign1 G 91 (sg k) (bs k) (nm k)
 have cx_ptA : ∀ G, PuG Tryz.prog 58 [Ag [S (91 :: sg k), S (bs k), S (nm k)]] G (· = Ag [S (sg k), S (bs k), S (nm k)]) := fun G => @c_part G 91 (sg k) (bs k) (nm k)
 refine d_enter [(0, _), (1, _)] Tryz.func24 kR Tryz.ntmps24 rfl rfl tU fun B hok hB hW => ?_
 repeat' (first | refine jM ?_ | (refine jo ?_; first | refine jO fun _ => ?_ | refine jL fun _ => ?_ | refine jAl rfl ?_ | refine jD rfl rfl rfl ?_ | refine jV (g_mkf rfl rfl) ?_))
 rename_i x2 x3 x4
 refine jo ?_
 refine c_defer (fi := []) (ca := [Pt x2 0]) (az := []) rfl rfl ?_
 repeat' (first | (refine jR ?_) | (refine jo ?_; first | refine jL fun _ => ?_ | refine jAl rfl ?_ | refine jAm rfl ?_ | refine jC rfl rfl rfl ?_ | refine jV (g_bld rfl rfl) ?_ | (refine c_rt rfl rfl rfl cx_sign rfl ?_)) | (refine k_tt rfl rfl ?_) | (refine k_ff rfl (by first | rfl | (refine decide_eq_false ?_; (omega))) ?_))
 rename_i x5
 refine Nx.addNil tVlU 4 (Nx.perm (List.Perm.cons _ (List.perm_append_comm (l₁ := [_, _, _, _]) (l₂ := [_]))) ?_)
 dsimp only [zA, fA]
 refine k_loop (ι := List V × List VC × Option Addr × Nat × List UInt8 × Bool × Nat × Gh) (fun q => (V.reps q.2.2.2.2.2.2.2 q.1 q.2.1 ∧ Gh.le G q.2.2.2.2.2.2.2) ∧ (q.2.2.2.2.2.1 = false → rkItems true (rk true (tyq qs) n k) (s.length + 1) s [] = rkItems true (rk true (tyq qs) n k) q.2.2.2.2.2.2.1 q.2.2.2.2.1 q.1 ∧ q.1.length ≤ 20 ∧ q.2.2.2.2.1.length < q.2.2.2.2.2.2.1) ∧ (q.2.2.2.2.2.1 = true → rkItems true (rk true (tyq qs) n k) (s.length + 1) s [] = none) ∧ (V.tots q.1 + 100 * q.2.2.2.2.1.length ≤ 100 * s.length ∧ q.2.2.2.2.1.length ≤ s.length)) (fun q => [(2, Pt x2 0), (3, Pt x3 0), (4, Pt x4 0), (5, Pt x5 0)]) (fun q => q.2.2.2.2.2.2.2) (fun q => [.acc (.slice q.2.2.1 q.1.length q.2.2.2.1) tVlU 4 q.1.length (rows vcF q.2.1), brO r sc q.2.2.2.2.1 q.2.2.2.2.2.1 none 0 0 (d + 1), .blk x5 (.cells (List.toArray [U8 91, S [], I 0, .slice q.2.2.1 q.1.length q.2.2.2.1]) tVlU (0, 0)), .blk x4 (.cells (List.toArray [U8 (0 : Nat), S [], I 0, nilS]) tVlU (0, 0)), .blk x3 (.cells (List.toArray [S (91 :: sg k), S (bs k), S (nm k)]) tKdU (0, 0)), .blk x2 (.cells (List.toArray [Pt r 0]) tPbr (0, 0))]) (fun q => q.2.2.2.2.1.length) ([], [], none, 0, s, false, s.length + 1, G) ?_ tU rfl sRr (fun q Hq => ?_)
 ·exact ⟨⟨rfl, Gh.le.refl _⟩, fun _ => ⟨rfl, by simp, by dsimp only; omega⟩, fun h => (by cases h), by dsimp only; simp only [V.tots]; omega, Nat.le_refl _⟩
 obtain ⟨vs, cs, a, cap, t, b, m, Gq⟩ := q
 dsimp only at Hq ⊢
 obtain ⟨⟨hreps, hgq⟩, hI0, hI1, hT, htl'⟩ := Hq
 have hcl := reps_len hreps
 have hkl := tots_len vs
 cases b with
 | true =>
  have hno := hI1 rfl
  have cx_fl := c_flagB0 (G := Gq) (r := r) (sc := sc) (n := 0) (c := 0) (s := t) (b := true) (a := none) (d := d + 1) (.inl rfl) oM
  repeat' (first | (refine jR ?_) | (refine jo ?_; first | refine jAl rfl ?_ | refine jAm rfl ?_ | refine jC rfl rfl rfl ?_ | (refine jAf rfl ?_) | (refine c_m1g rfl rfl rfl cx_fl rfl ?_; rintro _ _ ⟨q1, ⟨rfl, hql⟩, rfl⟩; dsimp only [zA, fA])) | (refine k_gf rfl rfl rfl ?_) | (refine k_ff rfl rfl ?_))
  all_goals
   refine Nx.sealS (v := .slice a vs.length cap) fun G2 hG2 hsl => ?_
   refine k_rrU (.inl rfl) rfl (c_unkeyD (x0 := x2) (r := r) (sc := sc) (s := q1) (b := true) (a := none) (n := 0) (c := 0) (d := d + 1) oM) rfl ?_
   rintro v G' L' ⟨rfl, rfl⟩
   dsimp only [zA, fA]
   exact ⟨[_], [brO r sc q1 true none 0 0 (d + 1 - 1)], ⟨rc_A rfl rfl rfl rfl, trivial⟩, sB, (hgq.trans hG2), ukP_in (c := ⟨91, [], 0, a, vs.length, cap⟩) (rep_mk dC dC (fun h => absurd h dC) rfl (by rw [hcl]; exact hsl) (reps_mono hG2 hreps)) oM ⟨oM, fun h => (by cases h), fun _ => ⟨.inr (by rw [hrd, hno]; rfl), by rw [nd_tot]; simp only [List.length_nil]; omega⟩⟩⟩
 | false =>
  obtain ⟨hit, h20, htm⟩ := hI0 rfl
  clear hI0 hI1
  obtain ⟨m, rfl⟩ : ∃ j, m = j + 1 := ⟨m - 1, oM⟩
  conv at hit => rhs; rw [rkItems]
  cases hf : rbFlag t with
  | none =>
   rw [hf] at hit
   dsimp only at hit
   have cx_fl := c_flagB0 (G := Gq) (r := r) (sc := sc) (n := 0) (c := 0) (s := t) (b := false) (a := none) (d := d + 1) (.inr hf) oM
   repeat' (first | (refine jR ?_) | (refine jo ?_; first | refine jAl rfl ?_ | refine jAm rfl ?_ | refine jC rfl rfl rfl ?_ | (refine jAf rfl ?_) | (refine c_m1g rfl rfl rfl cx_fl rfl ?_; rintro _ _ ⟨q1, ⟨rfl, hql⟩, rfl⟩; dsimp only [zA, fA])) | (refine k_gf rfl rfl rfl ?_) | (refine k_ff rfl rfl ?_))
   all_goals
    refine Nx.sealS (v := .slice a vs.length cap) fun G2 hG2 hsl => ?_
    refine k_rrU (.inl rfl) rfl (c_unkeyD (x0 := x2) (r := r) (sc := sc) (s := q1) (b := true) (a := none) (n := 0) (c := 0) (d := d + 1) oM) rfl ?_
    rintro v G' L' ⟨rfl, rfl⟩
    dsimp only [zA, fA]
    exact ⟨[_], [brO r sc q1 true none 0 0 (d + 1 - 1)], ⟨rc_A rfl rfl rfl rfl, trivial⟩, sB, (hgq.trans hG2), ukP_in (c := ⟨91, [], 0, a, vs.length, cap⟩) (rep_mk dC dC (fun h => absurd h dC) rfl (by rw [hcl]; exact hsl) (reps_mono hG2 hreps)) oM ⟨oM, fun h => (by cases h), fun _ => ⟨.inr (by rw [hrd, hit]; rfl), by rw [nd_tot]; simp only [List.length_nil]; omega⟩⟩⟩
  | some y =>
   obtain ⟨x, q⟩ := y
   rw [hf] at hit
   have hin := rbFlag_inv hf
   have hl : t.length = q.length + 1 := by rw [hin]; rfl
   have cx_fl := c_flagB1 (G := Gq) (r := r) (sc := sc) (n := 0) (c := 0) (s := t) (q := q) (x := x) (a := none) (d := d + 1) hf oM
   clear hin
   cases x with
   | false =>
    dsimp only at hit
    repeat' (first | (refine jR ?_) | (refine jo ?_; first | refine jAl rfl ?_ | refine jAm rfl ?_ | refine jC rfl rfl rfl ?_ | (refine jAf rfl ?_) | (refine c_m1g rfl rfl rfl cx_fl rfl ?_; rintro _ _ ⟨rfl, rfl⟩; dsimp only [zA, fA])) | (refine k_gf rfl rfl rfl ?_) | (refine k_ff rfl rfl ?_))
    all_goals
     refine Nx.sealS (v := .slice a vs.length cap) fun G2 hG2 hsl => ?_
     refine k_rrU (.inl rfl) rfl (c_unkeyD (x0 := x2) (r := r) (sc := sc) (s := q) (b := false) (a := none) (n := 0) (c := 0) (d := d + 1) oM) rfl ?_
     rintro v G' L' ⟨rfl, rfl⟩
     dsimp only [zA, fA]
     exact ⟨[_], [brO r sc q false none 0 0 (d + 1 - 1)], ⟨rc_A rfl rfl rfl rfl, trivial⟩, sB, (hgq.trans hG2), ukP_in (c := ⟨91, [], 0, a, vs.length, cap⟩) (rep_mk dC dC (fun h => absurd h dC) rfl (by rw [hcl]; exact hsl) (reps_mono hG2 hreps)) oM ⟨oM, fun _ => ⟨rfl, by rw [hrd, hit]; rfl⟩, fun h => (by cases h)⟩⟩
   | true =>
    dsimp only at hit
    have cx_uk := uk_d (d := d + 1) oM (hU Gq r k q false (hS.mono hgq) hk2 oM)
    have cx_pt := cx_ptA Gq
    repeat' (first | (refine jR ?_) | (refine jo ?_; first | refine jAl rfl ?_ | (refine jAt rfl ?_) | (refine c_m1g rfl rfl rfl cx_fl rfl ?_; rintro _ _ ⟨rfl, rfl⟩; dsimp only [zA, fA])) | (refine k_gt rfl rfl rfl ?_) | (refine k_tt rfl rfl ?_))
    (refine k_any (s_any (id := 11) [.blk x3 (.cells (List.toArray [S (91 :: sg k), S (bs k), S (nm k)]) tKdU (0, 0)), .blk x2 (.cells (List.toArray [Pt r 0]) tPbr (0, 0))] (by intro y hy; simp only [List.mem_cons, List.not_mem_nil, or_false] at hy ⊢; rcases hy with hy | hy <;> simp [hy]) mixed ?_); refine jW 9 [0] (bts 10 1) ?_; (refine jG (bts 10 5) 2 rfl (g_ld rfl rfl rfl) ?_); (refine jG (bts 10 13) 3 rfl (g_ldA rfl rfl rfl rfl) ?_); refine x_all [1, 4] kR dC ⟨?_, ?_, trivial⟩; (focus (refine x_opg rfl rfl ?_; (refine jAl rfl ?_); refine jK (bts 10 15) ?_; refine jA 4 rfl ?_; (refine c_rt rfl rfl rfl cx_pt rfl ?_); refine jK (bts 10 31) ?_; refine jA 5 rfl ?_; (refine c_m1s rfl rfl rfl cx_uk rfl ?_; rintro _ G1 _ hle ⟨u1, c1, t1, b1, rfl, hrep, rfl, hP⟩; dsimp only [zA, fA]; skip); refine jK (bts 10 63) ?_; refine jA 6 rfl ?_; (refine jF fun _ => ?_); refine jK (bts 10 127) ?_; refine jA 7 rfl ?_; ((refine c_apX rfl rfl rfl rfl rfl rfl rfl rfl rfl ?_ fun _ _ => ?_; (focus ((omega); done)))); refine jK (bts 10 255) ?_; refine jW 1 [8] (bts 10 511) ?_; refine jA 9 rfl ?_; (refine jD rfl rfl rfl ?_); refine jK (bts 10 1023) ?_; refine jQ ?_)); rotate_left 1; (focus (refine x_opg rfl rfl ?_; (refine c_rt rfl rfl rfl cx_pt rfl ?_); refine jK (bts 10 29) ?_; refine x_all [1, 5] kR dC ⟨?_, ?_, trivial⟩; (focus (refine x_opg rfl rfl ?_; (refine jAl rfl ?_); refine jK (bts 10 31) ?_; refine jA 5 rfl ?_; (refine c_m1s rfl rfl rfl cx_uk rfl ?_; rintro _ G1 _ hle ⟨u1, c1, t1, b1, rfl, hrep, rfl, hP⟩; dsimp only [zA, fA]; skip); refine jK (bts 10 63) ?_; refine jA 6 rfl ?_; (refine jF fun _ => ?_); refine jK (bts 10 127) ?_; refine jA 7 rfl ?_; ((refine c_apX rfl rfl rfl rfl rfl rfl rfl rfl rfl ?_ fun _ _ => ?_; (focus ((omega); done)))); refine jK (bts 10 255) ?_; refine jW 1 [8] (bts 10 511) ?_; refine jA 9 rfl ?_; (refine jD rfl rfl rfl ?_); refine jK (bts 10 1023) ?_; refine jQ ?_)); rotate_left 1; (focus (refine x_opg rfl rfl ?_; (refine c_m1s rfl rfl rfl cx_uk rfl ?_; rintro _ G1 _ hle ⟨u1, c1, t1, b1, rfl, hrep, rfl, hP⟩; dsimp only [zA, fA]; skip); refine jK (bts 10 61) ?_; refine x_all [1, 6] kR dC ⟨?_, ?_, trivial⟩; (focus (refine x_opg rfl rfl ?_; (refine jAl rfl ?_); refine jK (bts 10 63) ?_; refine jA 6 rfl ?_; (refine jF fun _ => ?_); refine jK (bts 10 127) ?_; refine jA 7 rfl ?_; ((refine c_apX rfl rfl rfl rfl rfl rfl rfl rfl rfl ?_ fun _ _ => ?_; (focus ((omega); done)))); refine jK (bts 10 255) ?_; refine jW 1 [8] (bts 10 511) ?_; refine jA 9 rfl ?_; (refine jD rfl rfl rfl ?_); refine jK (bts 10 1023) ?_; refine jQ ?_)); rotate_left 1; (focus (refine x_opg rfl rfl ?_; (refine jF fun _ => ?_); refine jK (bts 10 125) ?_; refine jA 1 rfl ?_; (refine jAl rfl ?_); refine jK (bts 10 127) ?_; refine jA 7 rfl ?_; ((refine c_apX rfl rfl rfl rfl rfl rfl rfl rfl rfl ?_ fun _ _ => ?_; (focus ((omega); done)))); refine jK (bts 10 255) ?_; refine jW 1 [8] (bts 10 511) ?_; refine jA 9 rfl ?_; (refine jD rfl rfl rfl ?_); refine jK (bts 10 1023) ?_; refine jQ ?_)); rotate_left 1)); rotate_left 2)); rotate_left 3)
    all_goals
     rename_i y1 yc
     have hrow : rows vcF cs ++ [U8 (c1.what : Nat), S c1.text, I c1.tag, c1.sl] = rows vcF (cs ++ [c1]) := (rows_snoc vcF cs c1).symm
     have hr2 : V.reps G1 (vs ++ [u1]) (cs ++ [c1]) := reps_snoc hrep (reps_mono hle hreps)
     have hvl : (vs ++ [u1]).length = vs.length + 1 := by simp
     have htu : V.tots (vs ++ [u1]) = V.tots vs + u1.tot := by simp [tots_app, V.tots]
     have hgl := hgq.trans hle
     obtain ⟨hQ1, hQ2, hQ3, hQ4⟩ := rkQ_tot hP
     rw [hrow]
     have hno1 : b1 = true → rkItems true (rk true (tyq qs) n k) (s.length + 1) s [] = none := fun h => by rw [hit, hQ4 h]
     have hno2 : 20 ≤ vs.length → rkItems true (rk true (tyq qs) n k) (s.length + 1) s [] = none := fun h => by
      rw [hit]
      cases b1 with
      | true => rw [hQ4 rfl]
      | false => rw [(hQ3 rfl).1]; dsimp only; rw [if_pos ⟨rfl, h⟩]
     have hyes1 : vs.length < 20 → b1 = false → rkItems true (rk true (tyq qs) n k) (s.length + 1) s [] = rkItems true (rk true (tyq qs) n k) m t1 (vs ++ [u1]) := fun h h2 => by
      rw [hit, (hQ3 h2).1]; dsimp only; rw [if_neg (fun h3 => absurd h3.2 oM)]
     have hto1 : V.tots (vs ++ [u1]) + 100 * t1.length ≤ 100 * s.length := by rw [htu]; omega
     by_cases h20' : vs.length < 20
     ·repeat' (first | (refine jR ?_) | (refine jo ?_; first | refine jAl rfl ?_ | refine jV (g_lenL rfl) ?_) | (refine k_ff rfl (dFf oM) ?_))
      exact k_rd (vs ++ [u1], cs ++ [c1], some ⟨y1, 0, none⟩, yc, t1, b1, m, G1) ⟨⟨hr2, hgl⟩, fun h => ⟨hyes1 h20' h, by dsimp only; omega, by dsimp only; omega⟩, hno1, hto1, by dsimp only; omega⟩ (by dsimp only; omega) tU rfl (by rw [hvl]; repeat (first | exact List.Sublist.refl _ | apply List.Sublist.cons_cons | apply List.Sublist.cons))
     ·repeat' (first | (refine jR ?_) | (refine jo ?_; first | refine jAl rfl ?_ | refine jD rfl rfl rfl ?_ | refine jV (g_lenL rfl) ?_) | (refine k_tt rfl (dTt oM) ?_))
      exact k_rd (vs ++ [u1], cs ++ [c1], some ⟨y1, 0, none⟩, yc, t1, true, m, G1) ⟨⟨hr2, hgl⟩, fun h => (by cases h), fun _ => hno2 oM, hto1, by dsimp only; omega⟩ (by dsimp only; omega) tU rfl (by rw [hvl]; repeat (first | exact List.Sublist.refl _ | apply List.Sublist.cons_cons | apply List.Sublist.cons))
theorem fld_0 {t : Ty} (hw : TyW t) : fldT t.fields 0 = none := by
 cases h : fldT t.fields 0 with
 | none => rfl
 | some d =>
  obtain ⟨j, hj, _, hjt, _⟩ := fldT_some h
  have := (hw.fld _ (nth_mem hj)).tag
  omega
theorem c_ufBad {w r sc p : Nat} {t : Ty} {s : List UInt8} {d : Int} (hT : TyI G p t) (hw : TyW t) (h : s = [] ∨ ∃ e q, s = e :: q ∧ fldT t.fields (e.toNat : Int) = none) (hs : s.length ≤ 1000) :
  FnM Tryz.prog 65 [Pt r 0, Pt p 0, U8 w] G [brO r sc s false none 0 0 d] (fun v _ L' => ∃ s', v = Ag [U8 0, S [], I 0, nilS] ∧ L' = [brO r sc s' true none 0 0 d] ∧ s'.length ≤ s.length) := by
 obtain ⟨fv, ln, h1, h2⟩ := hT
 have hfl := hw.len
 rcases h with rfl | ⟨e, q, rfl, hno⟩
 ·have cx_by := c_byteB0 (G := G) (r := r) (sc := sc) (n := 0) (c := 0) (s := []) (b := false) (a := none) (d := d) (.inr (by simp)) oM
  have cx_fld := c_fieldI0 h1 h2 oM (fld_0 hw)
  refine m_enter [(0, _), (1, _), (2, _)] Tryz.func65 kR Tryz.ntmps65 rfl rfl tU fun B hB hW => ?_
  repeat' (first | (refine jR ?_) | (refine jo ?_; first | refine jL fun _ => ?_ | refine jV (g_peq0 rfl rfl) ?_ | (refine jAt rfl ?_) | refine jD rfl rfl rfl ?_ | refine jC rfl rfl rfl ?_ | refine jV (g_bld rfl rfl) ?_ | (refine c_m1g rfl rfl rfl cx_by rfl ?_; rintro _ _ ⟨rfl, rfl⟩; dsimp only [zA, fA]) | (refine c_rt rfl rfl rfl cx_fld rfl ?_)) | (refine k_gt rfl rfl rfl ?_) | (refine k_tt rfl rfl ?_))
  all_goals refine k_rr (vs := [_]) rfl ⟨rc_A rfl rfl rfl rfl, trivial⟩ rfl sB ⟨Gh.le.refl _, [], rfl, rfl, Nat.le_refl _⟩
 ·have hl : (e :: q).length = q.length + 1 := rfl
  have cx_by := c_byteB1 (G := G) (r := r) (sc := sc) (n := 0) (c := 0) (q := q) (e := e) (a := none) (d := d) oM
  have cx_fld := c_fieldI0 h1 h2 oM hno
  refine m_enter [(0, _), (1, _), (2, _)] Tryz.func65 kR Tryz.ntmps65 rfl rfl tU fun B hB hW => ?_
  repeat' (first | (refine jR ?_) | (refine jo ?_; first | refine jL fun _ => ?_ | refine jV (g_peq0 rfl rfl) ?_ | (refine jAt rfl ?_) | refine jD rfl rfl rfl ?_ | refine jC rfl rfl rfl ?_ | refine jV (g_bld rfl rfl) ?_ | (refine c_m1g rfl rfl rfl cx_by rfl ?_; rintro _ _ ⟨rfl, rfl⟩; dsimp only [zA, fA]) | (refine c_rt rfl rfl rfl cx_fld rfl ?_)) | (refine k_gt rfl rfl rfl ?_) | (refine k_tt rfl rfl ?_))
  all_goals refine k_rr (vs := [_]) rfl ⟨rc_A rfl rfl rfl rfl, trivial⟩ rfl sB ⟨Gh.le.refl _, q, rfl, rfl, oM⟩
theorem c_ufGood {n w r sc p : Nat} {qs : List TyP} {t : Ty} {f : Fld} {e : UInt8} {q : List UInt8} {d : Int} (hd : d = 13 - (n : Int)) (hU : UkC n sc qs) (hS : ScI G sc qs) (hT : TyI G p t) (hw : TyW t) (hkf : ∀ d ∈ t.fields, kindIn (tyq qs) d.kind = true) (h : fldT t.fields (e.toNat : Int) = some f) (hq : q.length ≤ 999) (hw2 : w ≤ 255) :
  FnM Tryz.prog 65 [Pt r 0, Pt p 0, U8 w] G [brO r sc (e :: q) false none 0 0 d] (fun v G' L' => ∃ u c s' b', v = Ag (vcF c) ∧ V.rep G' (.nd w [] f.tag [u]) c ∧ L' = [brO r sc s' b' none 0 0 d] ∧ RkQ (rk true (tyq qs) n f.kind) q false u s' b') := by
 obtain ⟨fv, ln, h1, h2⟩ := hT
 have hfl := hw.len
 obtain ⟨j, hj, hjn, hjt, rfl⟩ := fldT_some h
 obtain ⟨bf, of, cf, rfl, hsf⟩ := h2.expl oM
 have hl : (e :: q).length = q.length + 1 := rfl
 have htag := (hw.fld _ (nth_mem hj)).tag
 have cx_by := c_byteB1 (G := G) (r := r) (sc := sc) (n := 0) (c := 0) (q := q) (e := e) (a := none) (d := d) oM
 have cx_fld := c_fieldI1 h1 hsf oM hj hjn hjt
 have cx_uk := uk_d (d := d) oM (hU G r (nth t.fields j).kind q false hS (hkf _ (nth_mem hj)) oM)
 refine m_enter [(0, _), (1, _), (2, _)] Tryz.func65 kR Tryz.ntmps65 rfl rfl tU fun B hB hW => ?_
 repeat' (first | (refine jR ?_) | (refine jo ?_; first | refine jL fun _ => ?_ | refine jV (g_peq0 rfl rfl) ?_ | refine jAl rfl ?_ | (refine jV (g_ldRA rfl rfl aS ?_ rfl rfl) ?_; (focus ((omega); done))) | (refine jAf rfl ?_) | refine jC rfl rfl rfl ?_ | refine jV (g_bld rfl rfl) ?_ | refine jF fun _ => ?_ | (refine c_m1g rfl rfl rfl cx_by rfl ?_; rintro _ _ ⟨rfl, rfl⟩; dsimp only [zA, fA]) | (refine c_rt rfl rfl rfl cx_fld rfl ?_) | (refine c_m1s rfl rfl rfl cx_uk rfl ?_; rintro _ G1 _ hle ⟨u1, c1, t1, b1, rfl, hrep, rfl, hP⟩; dsimp only [zA, fA]; skip)) | (refine k_gf rfl rfl rfl ?_) | (refine k_ff rfl rfl ?_))
 rename_i y
 refine Nx.sealC (b := y) fun G2 hG2 hsy => ?_
 have hsl : SlV G2 (.slice (some ⟨y, 0, none⟩) 1 1) 4 ([c1] : List VC).length (rows vcF [c1]) := ⟨rfl, .inr ⟨y, 0, 1, rfl, Nat.le_refl _, hsy⟩⟩
 rw [← hjt]
 refine k_rr (vs := [_]) rfl ⟨rc_A rfl rfl rfl rfl, trivial⟩ rfl sB ⟨hle.trans hG2, u1, ⟨w, [], (nth t.fields j).tag, some ⟨y, 0, none⟩, 1, 1⟩, t1, b1, rfl, rep_mk hw2 oM (fun _ => rfl) rfl hsl ⟨c1, [], rfl, rep_mono hG2 hrep, rfl⟩, rfl, hP⟩
theorem c_unkE {n r sc p : Nat} {qs : List TyP} {t : Ty} {x s : List UInt8} {d : Int} (hd : d = 12 - (n : Int)) (hn : n ≤ 12) (hS : ScI G sc qs) (hkv : kvF (kvsOf qs) x = some (Pt p 0)) (hT : TyI G p t) (hw : TyW t) (hso : t.sort = 69) (hs : s.length ≤ 1000) :
  FnM Tryz.prog 24 [Pt r 0, Ag [S [], S [64], S x]] G [brO r sc s false none 0 0 d] (UkP (rkTyped true (tyq qs) (rk true (tyq qs) n) t) r sc s false d) := by
 obtain ⟨u, m, g1, g2, g3⟩ := hS.at'
 obtain ⟨fv, ln, h1, h2⟩ := hT
 have hfl := hw.len
 have hso' : (t.sort : Int) = 69 := oM
 have cx_sign := @c_sign0 G [64] x
 have hrd : rkTyped true (tyq qs) (rk true (tyq qs) n) t s = match s with
   | [] => none
   | b :: r => match fldT t.fields (b.toNat : Int) with
    | none => none
    | some d => some (.nd 69 [] d.tag [], r) := by
  unfold rkTyped
  rw [if_neg oM]
  cases s with
  | nil => rfl
  | cons b r =>
   dsimp only
   cases fldT t.fields (b.toNat : Int) with
   | none => rfl
   | some d => dsimp only; rw [if_pos hso]
 cases s with
 | nil =>
  dsimp only at hrd
  have cx_by := c_byteB0 (G := G) (r := r) (sc := sc) (n := 0) (c := 0) (s := []) (b := false) (a := none) (d := d + 1) (.inr (by simp)) oM
  have cx_fld := c_fieldI0 h1 h2 oM (fld_0 hw)
  refine d_enter [(0, _), (1, _)] Tryz.func24 kR Tryz.ntmps24 rfl rfl tU fun B hok hB hW => ?_
  repeat' (first | refine jM ?_ | (refine jo ?_; first | refine jO fun _ => ?_ | refine jL fun _ => ?_ | refine jAl rfl ?_ | refine jD rfl rfl rfl ?_ | refine jV (g_mkf rfl rfl) ?_))
  rename_i x2 x3 x4
  refine jo ?_
  refine c_defer (fi := []) (ca := [Pt x2 0]) (az := []) rfl rfl ?_
  repeat' (first | (refine jR ?_) | (refine jo ?_; first | refine jL fun _ => ?_ | refine jAl rfl ?_ | refine jAm rfl ?_ | refine jV (g_ldS rfl rfl aS rfl rfl) ?_ | refine jD rfl rfl rfl ?_ | refine jC rfl rfl rfl ?_ | refine jV (g_bld rfl rfl) ?_ | refine jV (g_peq0 rfl rfl) ?_ | (refine c_rt rfl rfl rfl cx_sign rfl ?_) | (refine c_m1g rfl rfl rfl cx_by rfl ?_; rintro _ _ ⟨rfl, rfl⟩; dsimp only [zA, fA]) | (refine c_rt rfl rfl rfl cx_fld rfl ?_)) | (refine k_tt rfl (by first | rfl | (refine decide_eq_true ?_; (assumption))) ?_) | (refine k_ff rfl (by first | rfl | (refine decide_eq_false ?_; (omega))) ?_) | (refine k_any (s_any (id := 38) _ (fun _ h => h) mixed ?_); refine jT 10 [7] (bts 11 128) ?_; (refine jG (bts 11 129) 0 rfl (g_ld rfl rfl rfl) ?_); refine jT 7 [1, 2] (bts 11 135) ?_; (refine jG (bts 11 143) 3 rfl (g_ld rfl rfl rfl) ?_); refine jT 4 [4, 5] (bts 11 191) ?_; (refine jG (bts 11 255) 6 rfl (g_ldS rfl rfl aS rfl rfl) ?_); (refine jG (bts 11 511) 8 rfl (g_ld rfl rfl rfl) ?_); ((refine jG (bts 11 1023) 9 rfl (g_lookupX rfl rfl (map_G aS) aS rfl) ?_)); refine jT 0 [10] (bts 11 2047) ?_; refine jQ ?_))
  all_goals
   refine k_rrU (.inl rfl) rfl (c_unkeyD (x0 := x2) (r := r) (sc := sc) (s := []) (b := true) (a := none) (n := 0) (c := 0) (d := d + 1) oM) rfl ?_
   rintro v G' L' ⟨rfl, rfl⟩
   dsimp only [zA, fA]
   exact ⟨[_], [brO r sc [] true none 0 0 (d + 1 - 1)], ⟨rc_A rfl rfl rfl rfl, trivial⟩, sB, Gh.le.refl _, ukP_in (c := ⟨69, [], 0, none, 0, 0⟩) (rep_leaf dC dC) oM ⟨Nat.le_refl _, fun h => (by cases h), fun _ => ⟨.inr hrd, by simp only [V.tot, V.tots, List.length_nil]; omega⟩⟩⟩
 | cons e q =>
  have hl : (e :: q).length = q.length + 1 := rfl
  have heb := e.toNat_lt
  have cx_by := c_byteB1 (G := G) (r := r) (sc := sc) (n := 0) (c := 0) (q := q) (e := e) (a := none) (d := d + 1) oM
  dsimp only at hrd
  cases hft : fldT t.fields (e.toNat : Int) with
  | none =>
   rw [hft] at hrd
   have cx_fld := c_fieldI0 h1 h2 oM hft
   refine d_enter [(0, _), (1, _)] Tryz.func24 kR Tryz.ntmps24 rfl rfl tU fun B hok hB hW => ?_
   repeat' (first | refine jM ?_ | (refine jo ?_; first | refine jO fun _ => ?_ | refine jL fun _ => ?_ | refine jAl rfl ?_ | refine jD rfl rfl rfl ?_ | refine jV (g_mkf rfl rfl) ?_))
   rename_i x2 x3 x4
   refine jo ?_
   refine c_defer (fi := []) (ca := [Pt x2 0]) (az := []) rfl rfl ?_
   repeat' (first | (refine jR ?_) | (refine jo ?_; first | refine jL fun _ => ?_ | refine jAl rfl ?_ | refine jAm rfl ?_ | refine jV (g_ldS rfl rfl aS rfl rfl) ?_ | refine jD rfl rfl rfl ?_ | refine jC rfl rfl rfl ?_ | refine jV (g_bld rfl rfl) ?_ | refine jV (g_peq0 rfl rfl) ?_ | (refine c_rt rfl rfl rfl cx_sign rfl ?_) | (refine c_m1g rfl rfl rfl cx_by rfl ?_; rintro _ _ ⟨rfl, rfl⟩; dsimp only [zA, fA]) | (refine c_rt rfl rfl rfl cx_fld rfl ?_)) | (refine k_tt rfl (by first | rfl | (refine decide_eq_true ?_; (assumption))) ?_) | (refine k_ff rfl (by first | rfl | (refine decide_eq_false ?_; (omega))) ?_) | (refine k_any (s_any (id := 38) _ (fun _ h => h) mixed ?_); refine jT 10 [7] (bts 11 128) ?_; (refine jG (bts 11 129) 0 rfl (g_ld rfl rfl rfl) ?_); refine jT 7 [1, 2] (bts 11 135) ?_; (refine jG (bts 11 143) 3 rfl (g_ld rfl rfl rfl) ?_); refine jT 4 [4, 5] (bts 11 191) ?_; (refine jG (bts 11 255) 6 rfl (g_ldS rfl rfl aS rfl rfl) ?_); (refine jG (bts 11 511) 8 rfl (g_ld rfl rfl rfl) ?_); ((refine jG (bts 11 1023) 9 rfl (g_lookupX rfl rfl (map_G aS) aS rfl) ?_)); refine jT 0 [10] (bts 11 2047) ?_; refine jQ ?_))
   all_goals
    refine k_rrU (.inl rfl) rfl (c_unkeyD (x0 := x2) (r := r) (sc := sc) (s := q) (b := true) (a := none) (n := 0) (c := 0) (d := d + 1) oM) rfl ?_
    rintro v G' L' ⟨rfl, rfl⟩
    dsimp only [zA, fA]
    exact ⟨[_], [brO r sc q true none 0 0 (d + 1 - 1)], ⟨rc_A rfl rfl rfl rfl, trivial⟩, sB, Gh.le.refl _, ukP_in (c := ⟨69, [], (e.toNat : Int), none, 0, 0⟩) (rep_leaf dC oM) oM ⟨oM, fun h => (by cases h), fun _ => ⟨.inr hrd, by simp only [V.tot, V.tots, List.length_nil]; omega⟩⟩⟩
  | some f =>
   rw [hft] at hrd
   obtain ⟨j, hj, hjn, hjt, hjd⟩ := fldT_some hft
   obtain ⟨bf, of, cf, rfl, hsf⟩ := h2.expl oM
   have cx_fld := c_fieldI1 h1 hsf oM hj hjn hjt
   have hft2 : f.tag = (e.toNat : Int) := by rw [← hjd]; exact hjt
   dsimp only at hrd
   rw [hft2] at hrd
   refine d_enter [(0, _), (1, _)] Tryz.func24 kR Tryz.ntmps24 rfl rfl tU fun B hok hB hW => ?_
   repeat' (first | refine jM ?_ | (refine jo ?_; first | refine jO fun _ => ?_ | refine jL fun _ => ?_ | refine jAl rfl ?_ | refine jD rfl rfl rfl ?_ | refine jV (g_mkf rfl rfl) ?_))
   rename_i x2 x3 x4
   refine jo ?_
   refine c_defer (fi := []) (ca := [Pt x2 0]) (az := []) rfl rfl ?_
   repeat' (first | (refine jR ?_) | (refine jo ?_; first | refine jL fun _ => ?_ | refine jAl rfl ?_ | refine jAm rfl ?_ | refine jV (g_ldS rfl rfl aS rfl rfl) ?_ | refine jC rfl rfl rfl ?_ | refine jV (g_bld rfl rfl) ?_ | refine jV (g_peq0 rfl rfl) ?_ | (refine c_rt rfl rfl rfl cx_sign rfl ?_) | (refine c_m1g rfl rfl rfl cx_by rfl ?_; rintro _ _ ⟨rfl, rfl⟩; dsimp only [zA, fA]) | (refine c_rt rfl rfl rfl cx_fld rfl ?_)) | (refine k_tt rfl (dTt ‹_›) ?_) | (refine k_ff rfl (by first | rfl | (refine decide_eq_false ?_; (omega))) ?_) | (refine k_any (s_any (id := 38) _ (fun _ h => h) mixed ?_); refine jT 10 [7] (bts 11 128) ?_; (refine jG (bts 11 129) 0 rfl (g_ld rfl rfl rfl) ?_); refine jT 7 [1, 2] (bts 11 135) ?_; (refine jG (bts 11 143) 3 rfl (g_ld rfl rfl rfl) ?_); refine jT 4 [4, 5] (bts 11 191) ?_; (refine jG (bts 11 255) 6 rfl (g_ldS rfl rfl aS rfl rfl) ?_); (refine jG (bts 11 511) 8 rfl (g_ld rfl rfl rfl) ?_); ((refine jG (bts 11 1023) 9 rfl (g_lookupX rfl rfl (map_G aS) aS rfl) ?_)); refine jT 0 [10] (bts 11 2047) ?_; refine jQ ?_))
   all_goals
    refine k_rrU (.inl rfl) rfl (c_unkeyD (x0 := x2) (r := r) (sc := sc) (s := q) (b := false) (a := none) (n := 0) (c := 0) (d := d + 1) oM) rfl ?_
    rintro v G' L' ⟨rfl, rfl⟩
    dsimp only [zA, fA]
    exact ⟨[_], [brO r sc q false none 0 0 (d + 1 - 1)], ⟨rc_A rfl rfl rfl rfl, trivial⟩, sB, Gh.le.refl _, ukP_in (c := ⟨69, [], (e.toNat : Int), none, 0, 0⟩) (rep_leaf dC oM) oM ⟨oM, fun _ => ⟨rfl, hrd⟩, fun h => (by cases h)⟩⟩
theorem c_unkU {n r sc p : Nat} {qs : List TyP} {t : Ty} {x s : List UInt8} {d : Int} (hd : d = 12 - (n : Int)) (hn : n ≤ 12) (hU : UkC n sc qs) (hS : ScI G sc qs) (hkv : kvF (kvsOf qs) x = some (Pt p 0)) (hT : TyI G p t) (hw : TyW t) (hkf : ∀ d ∈ t.fields, kindIn (tyq qs) d.kind = true) (hso : t.sort = 85) (hs : s.length ≤ 1000) :
  FnM Tryz.prog 24 [Pt r 0, Ag [S [], S [64], S x]] G [brO r sc s false none 0 0 d] (UkP (rkTyped true (tyq qs) (rk true (tyq qs) n) t) r sc s false d) := by
 obtain ⟨u, m, g1, g2, g3⟩ := hS.at'
 have hT2 := hT
 obtain ⟨fv, ln, h1, h2⟩ := hT
 have hfl := hw.len
 have hso' : (t.sort : Int) = 85 := oM
 have cx_sign := @c_sign0 G [64] x
 have hrd : rkTyped true (tyq qs) (rk true (tyq qs) n) t s = match s with
   | [] => none
   | b :: r => match fldT t.fields (b.toNat : Int) with
    | none => none
    | some d => (rk true (tyq qs) n d.kind r).map fun x => (.nd 85 [] d.tag [x.1], x.2) := by
  unfold rkTyped
  rw [if_neg oM]
  cases s with
  | nil => rfl
  | cons b r =>
   dsimp only
   cases fldT t.fields (b.toNat : Int) with
   | none => rfl
   | some d => dsimp only; rw [if_neg oM]
 by_cases hb : s = [] ∨ ∃ e q, s = e :: q ∧ fldT t.fields (e.toNat : Int) = none
 ·have hno : rkTyped true (tyq qs) (rk true (tyq qs) n) t s = none := by
   rcases hb with rfl | ⟨e, q, rfl, h⟩
   ·exact hrd
   ·rw [hrd]; dsimp only; rw [h]
  have cx_uf0 := c_ufBad (w := 85) (s := s) (r := r) (sc := sc) (d := d + 1) hT2 hw hb hs
  clear hrd
  refine d_enter [(0, _), (1, _)] Tryz.func24 kR Tryz.ntmps24 rfl rfl tU fun B hok hB hW => ?_
  repeat' (first | refine jM ?_ | (refine jo ?_; first | refine jO fun _ => ?_ | refine jL fun _ => ?_ | refine jAl rfl ?_ | refine jD rfl rfl rfl ?_ | refine jV (g_mkf rfl rfl) ?_))
  rename_i x2 x3 x4
  refine jo ?_
  refine c_defer (fi := []) (ca := [Pt x2 0]) (az := []) rfl rfl ?_
  repeat' (first | (refine jR ?_) | (refine jo ?_; first | refine jAl rfl ?_ | refine jAm rfl ?_ | refine jV (g_ldS rfl rfl aS rfl rfl) ?_ | refine jC rfl rfl rfl ?_ | (refine c_rt rfl rfl rfl cx_sign rfl ?_) | (refine c_m1s rfl rfl rfl cx_uf0 rfl ?_; rintro _ G1 _ hle ⟨t1, rfl, rfl, htl⟩; dsimp only [zA, fA]; skip)) | (refine k_tt rfl (dTt ‹_›) ?_) | (refine k_ff rfl (by first | rfl | (refine decide_eq_false ?_; (omega))) ?_) | (refine k_any (s_any (id := 38) _ (fun _ h => h) mixed ?_); refine jT 10 [7] (bts 11 128) ?_; (refine jG (bts 11 129) 0 rfl (g_ld rfl rfl rfl) ?_); refine jT 7 [1, 2] (bts 11 135) ?_; (refine jG (bts 11 143) 3 rfl (g_ld rfl rfl rfl) ?_); refine jT 4 [4, 5] (bts 11 191) ?_; (refine jG (bts 11 255) 6 rfl (g_ldS rfl rfl aS rfl rfl) ?_); (refine jG (bts 11 511) 8 rfl (g_ld rfl rfl rfl) ?_); ((refine jG (bts 11 1023) 9 rfl (g_lookupX rfl rfl (map_G aS) aS rfl) ?_)); refine jT 0 [10] (bts 11 2047) ?_; refine jQ ?_))
  all_goals
   refine k_rrU (.inl rfl) rfl (c_unkeyD (x0 := x2) (r := r) (sc := sc) (s := t1) (b := true) (a := none) (n := 0) (c := 0) (d := d + 1) oM) rfl ?_
   rintro v G' L' ⟨rfl, rfl⟩
   dsimp only [zA, fA]
   exact ⟨[_], [brO r sc t1 true none 0 0 (d + 1 - 1)], ⟨rc_A rfl rfl rfl rfl, trivial⟩, sB, hle, ukP_in (c := ⟨0, [], 0, none, 0, 0⟩) rep_zero oM ⟨oM, fun h => (by cases h), fun _ => ⟨.inr hno, by simp only [V.tot, V.tots, List.length_nil]; omega⟩⟩⟩
 ·obtain ⟨e, q, f, rfl, hft⟩ : ∃ e q f, s = e :: q ∧ fldT t.fields (e.toNat : Int) = some f := by
   cases s with
   | nil => exact absurd (.inl rfl) hb
   | cons e q =>
    cases hft : fldT t.fields (e.toNat : Int) with
    | none => exact absurd (.inr ⟨e, q, rfl, hft⟩) hb
    | some f => exact ⟨e, q, f, rfl, hft⟩
  have hl : (e :: q).length = q.length + 1 := rfl
  dsimp only at hrd
  rw [hft] at hrd
  dsimp only at hrd
  have cx_uf1 := c_ufGood (w := 85) (q := q) (r := r) (sc := sc) (d := d + 1) oM hU hS hT2 hw hkf hft oM dC
  clear hb
  refine d_enter [(0, _), (1, _)] Tryz.func24 kR Tryz.ntmps24 rfl rfl tU fun B hok hB hW => ?_
  repeat' (first | refine jM ?_ | (refine jo ?_; first | refine jO fun _ => ?_ | refine jL fun _ => ?_ | refine jAl rfl ?_ | refine jD rfl rfl rfl ?_ | refine jV (g_mkf rfl rfl) ?_))
  rename_i x2 x3 x4
  refine jo ?_
  refine c_defer (fi := []) (ca := [Pt x2 0]) (az := []) rfl rfl ?_
  repeat' (first | (refine jR ?_) | (refine jo ?_; first | refine jAl rfl ?_ | refine jAm rfl ?_ | refine jV (g_ldS rfl rfl aS rfl rfl) ?_ | refine jC rfl rfl rfl ?_ | (refine c_rt rfl rfl rfl cx_sign rfl ?_) | (refine c_m1s rfl rfl rfl cx_uf1 rfl ?_; rintro _ G1 _ hle ⟨u1, c1, t1, b1, rfl, hrep, rfl, hP⟩; dsimp only [zA, fA]; skip)) | (refine k_tt rfl (dTt ‹_›) ?_) | (refine k_ff rfl (by first | rfl | (refine decide_eq_false ?_; (omega))) ?_) | (refine k_any (s_any (id := 38) _ (fun _ h => h) mixed ?_); refine jT 10 [7] (bts 11 128) ?_; (refine jG (bts 11 129) 0 rfl (g_ld rfl rfl rfl) ?_); refine jT 7 [1, 2] (bts 11 135) ?_; (refine jG (bts 11 143) 3 rfl (g_ld rfl rfl rfl) ?_); refine jT 4 [4, 5] (bts 11 191) ?_; (refine jG (bts 11 255) 6 rfl (g_ldS rfl rfl aS rfl rfl) ?_); (refine jG (bts 11 511) 8 rfl (g_ld rfl rfl rfl) ?_); ((refine jG (bts 11 1023) 9 rfl (g_lookupX rfl rfl (map_G aS) aS rfl) ?_)); refine jT 0 [10] (bts 11 2047) ?_; refine jQ ?_))
  all_goals
   obtain ⟨hQ1, hQ2, hQ3, hQ4⟩ := rkQ_tot hP
   refine k_rrU (.inl rfl) rfl (c_unkeyD (x0 := x2) (r := r) (sc := sc) (s := t1) (b := b1) (a := none) (n := 0) (c := 0) (d := d + 1) oM) rfl ?_
   rintro v G' L' ⟨rfl, rfl⟩
   dsimp only [zA, fA]
   exact ⟨[_], [brO r sc t1 b1 none 0 0 (d + 1 - 1)], ⟨rc_A rfl rfl rfl rfl, trivial⟩, sB, hle, ukP_in (c := c1) hrep oM ⟨oM, fun h => ⟨rfl, by rw [hrd, (hQ3 h).1]; rfl⟩, fun h => ⟨.inr (by rw [hrd, hQ4 h]; rfl), by simp only [V.tot, V.tots, List.length_nil]; omega⟩⟩⟩
theorem c_unkR {n r sc p : Nat} {qs : List TyP} {t : Ty} {x s : List UInt8} {d : Int} (hd : d = 12 - (n : Int)) (hn : n ≤ 12) (hU : UkC n sc qs) (hS : ScI G sc qs) (hW0 : SchW (tyq qs)) (hkv : kvF (kvsOf qs) x = some (Pt p 0)) (hT : TyI G p t) (hw : TyW t) (hkf : ∀ d ∈ t.fields, kindIn (tyq qs) d.kind = true) (hso : t.sort = 82) (hs : s.length ≤ 1000) :
  FnM Tryz.prog 24 [Pt r 0, Ag [S [], S [64], S x]] G [brO r sc s false none 0 0 d] (UkP (rkTyped true (tyq qs) (rk true (tyq qs) n) t) r sc s false d) := by
 obtain ⟨u, m, g1, g2, g3⟩ := hS.at'
 have hT2 := hT
 obtain ⟨fv, ln, h1, h2⟩ := hT
 have hfl := hw.len
 have hso' : (t.sort : Int) = 82 := oM
 have cx_sign := @c_sign0 G [64] x
 have hR : rkTyped true (tyq qs) (rk true (tyq qs) n) t s = (rkFlds true (tyq qs) (rk true (tyq qs) n) t (s.length + 1) 0 s []).map fun x => (.nd 82 [] 0 x.1, x.2) := by
  unfold rkTyped; rw [if_pos hso]
 refine d_enter [(0, _), (1, _)] Tryz.func24 kR Tryz.ntmps24 rfl rfl tU fun B hok hB hW => ?_
 repeat' (first | refine jM ?_ | (refine jo ?_; first | refine jO fun _ => ?_ | refine jL fun _ => ?_ | refine jAl rfl ?_ | refine jD rfl rfl rfl ?_ | refine jV (g_mkf rfl rfl) ?_))
 rename_i x2 x3 x4
 refine jo ?_
 refine c_defer (fi := []) (ca := [Pt x2 0]) (az := []) rfl rfl ?_
 repeat' (first | (refine jR ?_) | (refine jo ?_; first | refine jL fun _ => ?_ | refine jAl rfl ?_ | refine jAm rfl ?_ | refine jV (g_ldS rfl rfl aS rfl rfl) ?_ | refine jC rfl rfl rfl ?_ | refine jV (g_bld rfl rfl) ?_ | (refine c_rt rfl rfl rfl cx_sign rfl ?_)) | (refine k_ff rfl (by first | rfl | (refine decide_eq_false ?_; (omega))) ?_) | (refine k_any (s_any (id := 38) _ (fun _ h => h) mixed ?_); refine jT 10 [7] (bts 11 128) ?_; (refine jG (bts 11 129) 0 rfl (g_ld rfl rfl rfl) ?_); refine jT 7 [1, 2] (bts 11 135) ?_; (refine jG (bts 11 143) 3 rfl (g_ld rfl rfl rfl) ?_); refine jT 4 [4, 5] (bts 11 191) ?_; (refine jG (bts 11 255) 6 rfl (g_ldS rfl rfl aS rfl rfl) ?_); (refine jG (bts 11 511) 8 rfl (g_ld rfl rfl rfl) ?_); ((refine jG (bts 11 1023) 9 rfl (g_lookupX rfl rfl (map_G aS) aS rfl) ?_)); refine jT 0 [10] (bts 11 2047) ?_; refine jQ ?_))
 rename_i x5
 refine Nx.addNil tVlU 4 (Nx.perm (List.Perm.cons _ (List.perm_append_comm (l₁ := [_, _, _, _]) (l₂ := [_]))) ?_)
 dsimp only [zA, fA]
 refine k_loop (ι := List V × List VC × Option Addr × Nat × List UInt8 × Nat × Int × Gh) (fun q => (V.reps q.2.2.2.2.2.2.2 q.1 q.2.1 ∧ Gh.le G q.2.2.2.2.2.2.2) ∧ (rkFlds true (tyq qs) (rk true (tyq qs) n) t (s.length + 1) 0 s [] = rkFlds true (tyq qs) (rk true (tyq qs) n) t q.2.2.2.2.2.1 q.2.2.2.2.2.2.1 q.2.2.2.2.1 q.1 ∧ q.2.2.2.2.1.length < q.2.2.2.2.2.1) ∧ (V.tots q.1 + 100 * q.2.2.2.2.1.length ≤ 100 * s.length ∧ q.2.2.2.2.1.length ≤ s.length)) (fun q => [(2, Pt x2 0), (3, Pt x3 0), (4, Pt x4 0), (9, Pt p 0), (11, Pt x5 0), (12, I q.2.2.2.2.2.2.1)]) (fun q => q.2.2.2.2.2.2.2) (fun q => [.acc (.slice q.2.2.1 q.1.length q.2.2.2.1) tVlU 4 q.1.length (rows vcF q.2.1), brO r sc q.2.2.2.2.1 false none 0 0 (d + 1), .blk x5 (.cells (List.toArray [U8 82, S [], I 0, .slice q.2.2.1 q.1.length q.2.2.2.1]) tVlU (0, 0)), .blk x4 (.cells (List.toArray [U8 (0 : Nat), S [], I 0, nilS]) tVlU (0, 0)), .blk x3 (.cells (List.toArray [S [], S [64], S x]) tKdU (0, 0)), .blk x2 (.cells (List.toArray [Pt r 0]) tPbr (0, 0))]) (fun q => q.2.2.2.2.1.length) ([], [], none, 0, s, s.length + 1, 0, G) ?_ tU rfl sRr (fun q Hq => ?_)
 ·exact ⟨⟨rfl, Gh.le.refl _⟩, ⟨rfl, by dsimp only; omega⟩, by dsimp only; simp only [V.tots]; omega, Nat.le_refl _⟩
 obtain ⟨vs, cs, a, cap, t', m', last, Gq⟩ := q
 dsimp only at Hq ⊢
 obtain ⟨⟨hreps, hgq⟩, ⟨hit, htm⟩, hTo, htl'⟩ := Hq
 have hcl := reps_len hreps
 have hkl := tots_len vs
 obtain ⟨m', rfl⟩ : ∃ j, m' = j + 1 := ⟨m' - 1, oM⟩
 conv at hit => rhs; rw [rkFlds]
 cases hf : rbFlag t' with
 | none =>
  rw [hf] at hit
  dsimp only at hit
  have cx_fl := c_flagB0 (G := Gq) (r := r) (sc := sc) (n := 0) (c := 0) (s := t') (b := false) (a := none) (d := d + 1) (.inr hf) oM
  repeat' (first | (refine jR ?_) | (refine jo ?_; first | refine jAl rfl ?_ | refine jAm rfl ?_ | refine jC rfl rfl rfl ?_ | (refine jAf rfl ?_) | (refine c_m1g rfl rfl rfl cx_fl rfl ?_; rintro _ _ ⟨q1, ⟨rfl, hql⟩, rfl⟩; dsimp only [zA, fA])) | (refine k_gf rfl rfl rfl ?_) | (refine k_ff rfl rfl ?_))
  all_goals
   refine Nx.sealS (v := .slice a vs.length cap) fun G2 hG2 hsl => ?_
   refine k_rrU (.inl rfl) rfl (c_unkeyD (x0 := x2) (r := r) (sc := sc) (s := q1) (b := true) (a := none) (n := 0) (c := 0) (d := d + 1) oM) rfl ?_
   rintro v G' L' ⟨rfl, rfl⟩
   dsimp only [zA, fA]
   exact ⟨[_], [brO r sc q1 true none 0 0 (d + 1 - 1)], ⟨rc_A rfl rfl rfl rfl, trivial⟩, sB, (hgq.trans hG2), ukP_in (c := ⟨82, [], 0, a, vs.length, cap⟩) (rep_mk dC dC (fun h => absurd h dC) rfl (by rw [hcl]; exact hsl) (reps_mono hG2 hreps)) oM ⟨oM, fun h => (by cases h), fun _ => ⟨.inr (by rw [hR, hit]; rfl), by rw [nd_tot]; simp only [List.length_nil]; omega⟩⟩⟩
 | some y =>
  obtain ⟨fx, q⟩ := y
  rw [hf] at hit
  have hin := rbFlag_inv hf
  have hl : t'.length = q.length + 1 := by rw [hin]; rfl
  have cx_fl := c_flagB1 (G := Gq) (r := r) (sc := sc) (n := 0) (c := 0) (s := t') (q := q) (x := fx) (a := none) (d := d + 1) hf oM
  clear hin
  cases fx with
  | false =>
   dsimp only at hit
   repeat' (first | (refine jR ?_) | (refine jo ?_; first | refine jAl rfl ?_ | refine jAm rfl ?_ | refine jC rfl rfl rfl ?_ | (refine jAf rfl ?_) | (refine c_m1g rfl rfl rfl cx_fl rfl ?_; rintro _ _ ⟨rfl, rfl⟩; dsimp only [zA, fA])) | (refine k_gf rfl rfl rfl ?_) | (refine k_ff rfl rfl ?_))
   all_goals
    refine Nx.sealS (v := .slice a vs.length cap) fun G2 hG2 hsl => ?_
    refine k_rrU (.inl rfl) rfl (c_unkeyD (x0 := x2) (r := r) (sc := sc) (s := q) (b := false) (a := none) (n := 0) (c := 0) (d := d + 1) oM) rfl ?_
    rintro v G' L' ⟨rfl, rfl⟩
    dsimp only [zA, fA]
    exact ⟨[_], [brO r sc q false none 0 0 (d + 1 - 1)], ⟨rc_A rfl rfl rfl rfl, trivial⟩, sB, (hgq.trans hG2), ukP_in (c := ⟨82, [], 0, a, vs.length, cap⟩) (rep_mk dC dC (fun h => absurd h dC) rfl (by rw [hcl]; exact hsl) (reps_mono hG2 hreps)) oM ⟨oM, fun _ => ⟨rfl, by rw [hR, hit]; rfl⟩, fun h => (by cases h)⟩⟩
  | true =>
   by_cases hb : q = [] ∨ ∃ e q2, q = e :: q2 ∧ fldT t.fields (e.toNat : Int) = none
   ·have hno : rkFlds true (tyq qs) (rk true (tyq qs) n) t (s.length + 1) 0 s [] = none := by
     rcases hb with rfl | ⟨e, q2, rfl, h⟩
     ·exact hit
     ·rw [hit]; dsimp only; rw [h]
    have cx_uf0 := c_ufBad (w := 61) (s := q) (r := r) (sc := sc) (d := d + 1) (hT2.mono hgq) hw hb oM
    clear hit
    repeat' (first | (refine jR ?_) | (refine jo ?_; first | refine jL fun _ => ?_ | refine jAl rfl ?_ | refine jAm rfl ?_ | refine jD rfl rfl rfl ?_ | refine jC rfl rfl rfl ?_ | (refine jAt rfl ?_) | (refine c_m1g rfl rfl rfl cx_fl rfl ?_; rintro _ _ ⟨rfl, rfl⟩; dsimp only [zA, fA]) | (refine c_m1s rfl rfl rfl cx_uf0 rfl ?_; rintro _ G1 _ hle ⟨t1, rfl, rfl, htl⟩; dsimp only [zA, fA]; skip)) | (refine k_gt rfl rfl rfl ?_) | (refine k_tt rfl rfl ?_) | (refine k_any (s_any (id := 51) _ (fun _ h => h) mixed ?_); (refine jG (bts 27 1) 0 rfl (g_ld rfl rfl rfl) ?_); refine jT 24 [1, 2] (bts 27 7) ?_; (refine jG (bts 27 15) 3 rfl (g_ld rfl rfl rfl) ?_); refine jT 22 [4] (bts 27 31) ?_; (try (refine Nx.re (d := 190) (v' := Bo true) rfl (congrArg Value.bool rfl) ?_)); refine jT 20 [5, 7] (bts 27 191) ?_; (refine jN (bts 27 255) 6 rfl ?_); refine jT 18 [8] (bts 27 511) ?_; (refine jG (bts 27 1023) 9 rfl (g_pickT rfl rfl rfl) ?_); refine jT 16 [10] (bts 27 2047) ?_; (try (refine Nx.re (d := 196) (v' := Bo true) rfl (congrArg Value.bool rfl) ?_)); refine jT 13 [11, 20, 21] (bts 27 3149823) ?_; (refine jN (bts 27 3153919) 12 rfl ?_); (refine jN (bts 27 3162111) 13 rfl ?_); (refine jN (bts 27 3178495) 14 rfl ?_); (refine jN (bts 27 3244031) 16 rfl ?_); refine jT 7 [17, 18] (bts 27 3637247) ?_; (refine jN (bts 27 4161535) 19 rfl ?_); (refine jN (bts 27 8355839) 22 rfl ?_); (refine jN (bts 27 8388607) 15 rfl ?_); (refine jN (bts 27 16777215) 23 rfl ?_); (refine jN (bts 27 33554431) 24 rfl ?_); refine jT 1 [25] (bts 27 67108863) ?_; (refine jG (bts 27 134217727) 26 rfl (g_pickT rfl rfl rfl) ?_); refine jQ ?_))
    all_goals
     refine Nx.sealS (v := .slice a vs.length cap) fun G2 hG2 hsl => ?_
     refine k_rrU (.inl rfl) rfl (c_unkeyD (x0 := x2) (r := r) (sc := sc) (s := t1) (b := true) (a := none) (n := 0) (c := 0) (d := d + 1) oM) rfl ?_
     rintro v G' L' ⟨rfl, rfl⟩
     dsimp only [zA, fA]
     exact ⟨[_], [brO r sc t1 true none 0 0 (d + 1 - 1)], ⟨rc_A rfl rfl rfl rfl, trivial⟩, sB, ((hgq.trans hle).trans hG2), ukP_in (c := ⟨82, [], 0, a, vs.length, cap⟩) (rep_mk dC dC (fun h => absurd h dC) rfl (by rw [hcl]; exact hsl) (reps_mono (hle.trans hG2) hreps)) oM ⟨oM, fun h => (by cases h), fun _ => ⟨.inr (by rw [hR, hno]; rfl), by rw [nd_tot]; simp only [List.length_nil]; omega⟩⟩⟩
   ·obtain ⟨e, q2, f, rfl, hft⟩ : ∃ e q2 f, q = e :: q2 ∧ fldT t.fields (e.toNat : Int) = some f := by
     cases q with
     | nil => exact absurd (.inl rfl) hb
     | cons e q2 =>
      cases hft : fldT t.fields (e.toNat : Int) with
      | none => exact absurd (.inr ⟨e, q2, rfl, hft⟩) hb
      | some f => exact ⟨e, q2, f, rfl, hft⟩
    clear hb
    have hl2 : (e :: q2).length = q2.length + 1 := rfl
    dsimp only at hit
    rw [hft] at hit
    dsimp only at hit
    have cx_uf1 := c_ufGood (G := Gq) (q := q2) (w := 61) (r := r) (sc := sc) (d := d + 1) oM hU (hS.mono hgq) (hT2.mono hgq) hw hkf hft oM dC
    obtain ⟨j, hj, hjn, hjt, rfl⟩ := fldT_some hft
    obtain ⟨bf, of, cf, rfl, hsf⟩ := h2.expl oM
    repeat' (first | (refine jR ?_) | (refine jo ?_; first | refine jL fun _ => ?_ | refine jAl rfl ?_ | refine jC rfl rfl rfl ?_ | (refine jAt rfl ?_) | (refine c_m1g rfl rfl rfl cx_fl rfl ?_; rintro _ _ ⟨rfl, rfl⟩; dsimp only [zA, fA]) | (refine c_m1s rfl rfl rfl cx_uf1 rfl ?_; rintro _ G1 _ hle ⟨u1, c1, t1, b1, rfl, hrep, rfl, hP⟩; dsimp only [zA, fA]; skip)) | (refine k_gt rfl rfl rfl ?_) | (refine k_tt rfl rfl ?_))
    rename_i x13
    have hgl := hgq.trans hle
    obtain ⟨kb, ko, kc, dd, rfl, htg, hsd, hrd, hru⟩ := rep_uni hrep
    dsimp only [vcF, VC.sl]
    obtain ⟨hQ1, hQ2, hQ3, hQ4⟩ := rkQ_tot hP
    have hsf1 := hsf.mono hgl
    have hS1 := hS.mono hgl
    have cx_pr := c_print (G := G1) u1.tot (Nat.le_refl _) oM hrd
    have hotl := out_tot hrd
    have cx_fld := c_fieldI1 (h1.mono hgl) hsf1 oM hj (tag := (nth t.fields j).tag) (fun k hk => by rw [hjt]; exact hjn k hk) rfl
    have cx_of := c_ofI hS1 hW0 hsf1 hj (hkf _ (nth_mem hj))
    obtain ⟨u', m2, g1', g2', g3'⟩ := hS1.at'
    cases b1 with
    | true =>
     have hno : rkFlds true (tyq qs) (rk true (tyq qs) n) t (s.length + 1) 0 s [] = none := by rw [hit, hQ4 rfl]
     repeat' (first | (refine jR ?_) | (refine jo ?_; first | refine jAl rfl ?_ | refine jAm rfl ?_ | refine jD rfl rfl rfl ?_ | refine jC rfl rfl rfl ?_) | (refine k_tt rfl rfl ?_) | (refine k_any (s_any (id := 51) _ (fun _ h => h) mixed ?_); (refine jG (bts 27 1) 0 rfl (g_ld rfl rfl rfl) ?_); refine jT 24 [1, 2] (bts 27 7) ?_; (refine jG (bts 27 15) 3 rfl (g_ld rfl rfl rfl) ?_); refine jT 22 [4] (bts 27 31) ?_; (try (refine Nx.re (d := 190) (v' := Bo true) rfl (congrArg Value.bool rfl) ?_)); refine jT 20 [5, 7] (bts 27 191) ?_; (refine jN (bts 27 255) 6 rfl ?_); refine jT 18 [8] (bts 27 511) ?_; (refine jG (bts 27 1023) 9 rfl (g_pickT rfl rfl rfl) ?_); refine jT 16 [10] (bts 27 2047) ?_; (try (refine Nx.re (d := 196) (v' := Bo true) rfl (congrArg Value.bool rfl) ?_)); refine jT 13 [11, 20, 21] (bts 27 3149823) ?_; (refine jN (bts 27 3153919) 12 rfl ?_); (refine jN (bts 27 3162111) 13 rfl ?_); (refine jN (bts 27 3178495) 14 rfl ?_); (refine jN (bts 27 3244031) 16 rfl ?_); refine jT 7 [17, 18] (bts 27 3637247) ?_; (refine jN (bts 27 4161535) 19 rfl ?_); (refine jN (bts 27 8355839) 22 rfl ?_); (refine jN (bts 27 8388607) 15 rfl ?_); (refine jN (bts 27 16777215) 23 rfl ?_); (refine jN (bts 27 33554431) 24 rfl ?_); refine jT 1 [25] (bts 27 67108863) ?_; (refine jG (bts 27 134217727) 26 rfl (g_pickT rfl rfl rfl) ?_); refine jQ ?_))
     all_goals
      refine Nx.sealS (v := .slice a vs.length cap) fun G2 hG2 hsl => ?_
      refine k_rrU (.inl rfl) rfl (c_unkeyD (x0 := x2) (r := r) (sc := sc) (s := t1) (b := true) (a := none) (n := 0) (c := 0) (d := d + 1) oM) rfl ?_
      rintro v G' L' ⟨rfl, rfl⟩
      dsimp only [zA, fA]
      exact ⟨[_], [brO r sc t1 true none 0 0 (d + 1 - 1)], ⟨rc_A rfl rfl rfl rfl, trivial⟩, sB, (hgl.trans hG2), ukP_in (c := ⟨82, [], 0, a, vs.length, cap⟩) (rep_mk dC dC (fun h => absurd h dC) rfl (by rw [hcl]; exact hsl) (reps_mono (hle.trans hG2) hreps)) oM ⟨oM, fun h => (by cases h), fun _ => ⟨.inr (by rw [hR, hno]; rfl), by rw [nd_tot]; simp only [List.length_nil]; omega⟩⟩⟩
    | false =>
     obtain ⟨hfs, hto⟩ := hQ3 rfl
     rw [hfs] at hit
     dsimp only at hit
     by_cases hlast : (nth t.fields j).tag ≤ last
     ·rw [if_pos ⟨rfl, .inl hlast⟩] at hit
      repeat' (first | (refine jR ?_) | (refine jo ?_; first | refine jAl rfl ?_ | refine jAm rfl ?_ | refine jD rfl rfl rfl ?_ | refine jC rfl rfl rfl ?_) | (refine k_tt rfl rfl ?_) | (refine k_any (s_any (id := 51) _ (fun _ h => h) mixed ?_); (refine jG (bts 27 1) 0 rfl (g_ld rfl rfl rfl) ?_); refine jT 24 [1, 2] (bts 27 7) ?_; (refine jG (bts 27 15) 3 rfl (g_ld rfl rfl rfl) ?_); refine jT 22 [4] (bts 27 31) ?_; (try (refine Nx.re (d := 190) (v' := Bo false) rfl (congrArg Value.bool rfl) ?_)); refine jT 20 [5, 7] (bts 27 191) ?_; (refine jG (bts 27 255) 6 rfl (g_ld rfl rfl rfl) ?_); refine jT 18 [8] (bts 27 511) ?_; (refine jG (bts 27 1023) 9 rfl (g_pickF rfl rfl rfl) ?_); refine jT 16 [10] (bts 27 2047) ?_; (try (refine Nx.re (d := 196) (v' := Bo true) rfl (congrArg Value.bool (dTt ‹_›)) ?_)); refine jT 13 [11, 20, 21] (bts 27 3149823) ?_; (refine jN (bts 27 3153919) 12 rfl ?_); (refine jN (bts 27 3162111) 13 rfl ?_); (refine jN (bts 27 3178495) 14 rfl ?_); (refine jN (bts 27 3244031) 16 rfl ?_); refine jT 7 [17, 18] (bts 27 3637247) ?_; (refine jN (bts 27 4161535) 19 rfl ?_); (refine jN (bts 27 8355839) 22 rfl ?_); (refine jN (bts 27 8388607) 15 rfl ?_); (refine jN (bts 27 16777215) 23 rfl ?_); (refine jN (bts 27 33554431) 24 rfl ?_); refine jT 1 [25] (bts 27 67108863) ?_; (refine jG (bts 27 134217727) 26 rfl (g_pickT rfl rfl rfl) ?_); refine jQ ?_))
      all_goals
       refine Nx.sealS (v := .slice a vs.length cap) fun G2 hG2 hsl => ?_
       refine k_rrU (.inl rfl) rfl (c_unkeyD (x0 := x2) (r := r) (sc := sc) (s := t1) (b := true) (a := none) (n := 0) (c := 0) (d := d + 1) oM) rfl ?_
       rintro v G' L' ⟨rfl, rfl⟩
       dsimp only [zA, fA]
       exact ⟨[_], [brO r sc t1 true none 0 0 (d + 1 - 1)], ⟨rc_A rfl rfl rfl rfl, trivial⟩, sB, (hgl.trans hG2), ukP_in (c := ⟨82, [], 0, a, vs.length, cap⟩) (rep_mk dC dC (fun h => absurd h dC) rfl (by rw [hcl]; exact hsl) (reps_mono (hle.trans hG2) hreps)) oM ⟨oM, fun h => (by cases h), fun _ => ⟨.inr (by rw [hR, hit]; rfl), by rw [nd_tot]; simp only [List.length_nil]; omega⟩⟩⟩
     ·by_cases heq : u1.out = standF (tyq qs) (nth t.fields j)
      ·rw [if_pos ⟨rfl, .inr heq⟩] at hit
       repeat' (first | (refine jR ?_) | (refine jo ?_; first | refine jAl rfl ?_ | refine jAm rfl ?_ | refine jD rfl rfl rfl ?_ | refine jC rfl rfl rfl ?_) | (refine k_tt rfl (dTt ‹_›) ?_) | (refine k_any (s_any (id := 51) _ (fun _ h => h) mixed ?_); (refine jG (bts 27 1) 0 rfl (g_ld rfl rfl rfl) ?_); refine jT 24 [1, 2] (bts 27 7) ?_; (refine jG (bts 27 15) 3 rfl (g_ld rfl rfl rfl) ?_); refine jT 22 [4] (bts 27 31) ?_; (try (refine Nx.re (d := 190) (v' := Bo false) rfl (congrArg Value.bool rfl) ?_)); refine jT 20 [5, 7] (bts 27 191) ?_; (refine jG (bts 27 255) 6 rfl (g_ld rfl rfl rfl) ?_); refine jT 18 [8] (bts 27 511) ?_; (refine jG (bts 27 1023) 9 rfl (g_pickF rfl rfl rfl) ?_); refine jT 16 [10] (bts 27 2047) ?_; (try (refine Nx.re (d := 196) (v' := Bo false) rfl (congrArg Value.bool (dFf ‹_›)) ?_)); refine jT 13 [11, 20, 21] (bts 27 3149823) ?_; (refine jG (bts 27 3153919) 12 rfl (g_ld rfl rfl rfl) ?_); (refine jG (bts 27 3162111) 13 rfl (g_iaddr rfl rfl oM) ?_); ((refine jG (bts 27 3178495) 14 rfl (g_ldR rfl rfl aS ?_) ?_; (focus ((simp only [List.length_append, List.length_cons, List.length_nil, List.length_take]; omega); done)))); (refine jG (bts 27 3244031) 16 rfl (g_ld rfl rfl rfl) ?_); refine jT 7 [17, 18] (bts 27 3637247) ?_; (refine jG (bts 27 4161535) 19 rfl (g_ld rfl rfl rfl) ?_); (refine jG (bts 27 8355839) 22 rfl (g_ld rfl rfl rfl) ?_); (refine jA 15 rfl ?_; (refine c_rt rfl rfl rfl cx_pr rfl ?_); refine jS (bts 27 8388607) ?_); (refine jA 23 rfl ?_; (refine c_rt rfl rfl rfl cx_fld rfl ?_); refine jS (bts 27 16777215) ?_); (refine jA 24 rfl ?_; (refine c_rt rfl rfl rfl cx_of rfl ?_); refine jS (bts 27 33554431) ?_); refine jT 1 [25] (bts 27 67108863) ?_; (refine jG (bts 27 134217727) 26 rfl (g_pickF rfl rfl rfl) ?_); refine jQ ?_))
       all_goals
        refine Nx.sealS (v := .slice a vs.length cap) fun G2 hG2 hsl => ?_
        refine k_rrU (.inl rfl) rfl (c_unkeyD (x0 := x2) (r := r) (sc := sc) (s := t1) (b := true) (a := none) (n := 0) (c := 0) (d := d + 1) oM) rfl ?_
        rintro v G' L' ⟨rfl, rfl⟩
        dsimp only [zA, fA]
        exact ⟨[_], [brO r sc t1 true none 0 0 (d + 1 - 1)], ⟨rc_A rfl rfl rfl rfl, trivial⟩, sB, (hgl.trans hG2), ukP_in (c := ⟨82, [], 0, a, vs.length, cap⟩) (rep_mk dC dC (fun h => absurd h dC) rfl (by rw [hcl]; exact hsl) (reps_mono (hle.trans hG2) hreps)) oM ⟨oM, fun h => (by cases h), fun _ => ⟨.inr (by rw [hR, hit]; rfl), by rw [nd_tot]; simp only [List.length_nil]; omega⟩⟩⟩
      ·rw [if_neg (fun h => by rcases h.2 with h | h; exact hlast h; exact heq h)] at hit
       have hrow : rows vcF cs ++ [U8 ((61 : Nat) : Int), S [], I (nth t.fields j).tag, .slice (some ⟨kb, ko, none⟩) 1 kc] = rows vcF (cs ++ [⟨61, [], (nth t.fields j).tag, some ⟨kb, ko, none⟩, 1, kc⟩]) := (rows_snoc vcF cs (⟨61, [], (nth t.fields j).tag, some ⟨kb, ko, none⟩, 1, kc⟩ : VC)).symm
       have hr2 : V.reps G1 (vs ++ [.nd 61 [] (nth t.fields j).tag [u1]]) (cs ++ [⟨61, [], (nth t.fields j).tag, some ⟨kb, ko, none⟩, 1, kc⟩]) := reps_snoc hrep (reps_mono hle hreps)
       have hvl : (vs ++ [V.nd 61 [] (nth t.fields j).tag [u1]]).length = vs.length + 1 := by simp
       have htu : V.tots (vs ++ [V.nd 61 [] (nth t.fields j).tag [u1]]) = V.tots vs + (20 + u1.tot) := by simp [tots_app, V.tots, V.tot]
       repeat' (first | (refine jR ?_) | (refine jo ?_; first | refine jAl rfl ?_ | refine jAm rfl ?_ | refine jD rfl rfl rfl ?_ | refine jF fun _ => ?_ | (refine c_apX rfl rfl rfl rfl rfl rfl rfl rfl rfl oM fun _ _ => ?_)) | (refine k_ff rfl (dFf ‹_›) ?_) | (refine k_any (s_any (id := 51) _ (fun _ h => h) mixed ?_); (refine jG (bts 27 1) 0 rfl (g_ld rfl rfl rfl) ?_); refine jT 24 [1, 2] (bts 27 7) ?_; (refine jG (bts 27 15) 3 rfl (g_ld rfl rfl rfl) ?_); refine jT 22 [4] (bts 27 31) ?_; (try (refine Nx.re (d := 190) (v' := Bo false) rfl (congrArg Value.bool rfl) ?_)); refine jT 20 [5, 7] (bts 27 191) ?_; (refine jG (bts 27 255) 6 rfl (g_ld rfl rfl rfl) ?_); refine jT 18 [8] (bts 27 511) ?_; (refine jG (bts 27 1023) 9 rfl (g_pickF rfl rfl rfl) ?_); refine jT 16 [10] (bts 27 2047) ?_; (try (refine Nx.re (d := 196) (v' := Bo false) rfl (congrArg Value.bool (dFf ‹_›)) ?_)); refine jT 13 [11, 20, 21] (bts 27 3149823) ?_; (refine jG (bts 27 3153919) 12 rfl (g_ld rfl rfl rfl) ?_); (refine jG (bts 27 3162111) 13 rfl (g_iaddr rfl rfl oM) ?_); ((refine jG (bts 27 3178495) 14 rfl (g_ldR rfl rfl aS ?_) ?_; (focus ((simp only [List.length_append, List.length_cons, List.length_nil, List.length_take]; omega); done)))); (refine jG (bts 27 3244031) 16 rfl (g_ld rfl rfl rfl) ?_); refine jT 7 [17, 18] (bts 27 3637247) ?_; (refine jG (bts 27 4161535) 19 rfl (g_ld rfl rfl rfl) ?_); (refine jG (bts 27 8355839) 22 rfl (g_ld rfl rfl rfl) ?_); (refine jA 15 rfl ?_; (refine c_rt rfl rfl rfl cx_pr rfl ?_); refine jS (bts 27 8388607) ?_); (refine jA 23 rfl ?_; (refine c_rt rfl rfl rfl cx_fld rfl ?_); refine jS (bts 27 16777215) ?_); (refine jA 24 rfl ?_; (refine c_rt rfl rfl rfl cx_of rfl ?_); refine jS (bts 27 33554431) ?_); refine jT 1 [25] (bts 27 67108863) ?_; (refine jG (bts 27 134217727) 26 rfl (g_pickF rfl rfl rfl) ?_); refine jQ ?_))
       all_goals
        rename_i y1 yc
        rw [hrow]
        exact k_rd (vs ++ [.nd 61 [] (nth t.fields j).tag [u1]], cs ++ [⟨61, [], (nth t.fields j).tag, some ⟨kb, ko, none⟩, 1, kc⟩], some ⟨y1, 0, none⟩, yc, t1, m', (nth t.fields j).tag, G1) ⟨⟨hr2, hgl⟩, ⟨hit, by dsimp only; omega⟩, by dsimp only; omega, by dsimp only; omega⟩ (by dsimp only; omega) tU rfl (by rw [hvl]; repeat (first | exact List.Sublist.refl _ | apply List.Sublist.cons_cons | apply List.Sublist.cons))
end Go.E
namespace Go.E
set_option maxRecDepth 20000
set_option maxHeartbeats 2000000
open Go.Proofs
variable {G : Gh}
theorem slv_1 {b c : Nat} {v : Value} (h : SlV G (.slice (some ⟨b, 0, none⟩) (0 + 1) c) 1 (0 + 1) [v]) : 1 ≤ c ∧ Seg G b 0 [v] := by
 obtain ⟨_, ⟨h1, _⟩ | ⟨b', o', c', e, h2, h3⟩⟩ := h
 ·cases h1
 ·simp only [Value.slice.injEq, Option.some.injEq, Addr.mk.injEq] at e
  obtain ⟨⟨rfl, rfl, _⟩, _, rfl⟩ := e
  exact ⟨h2, h3⟩
abbrev tRdO : TypeId := 41
abbrev tPtrO : TypeId := 38
def OpnC (n : Nat) (u : Value) (vs : List TyX) : Prop := ∀ (G : Gh) (k s : List UInt8), SchR G u vs → kindIn (tys vs) k = true → s.length ≤ 1000 →
 FnS Tryz.prog 20 [Ag [u], S s, S k, I (n : Nat)] G (ReadP (tys vs) (rk false (tys vs) n k s) k)
theorem c_open0 {n : Nat} {u : Value} {ts : List Ty} {k s : List UInt8} (hc : s = [] ∨ n = 0) (hn : n ≤ 1000) : FnS Tryz.prog 20 [Ag [u], S s, S k, I (n : Nat)] G (ReadP ts (rk false ts n k s) k) := by
 have hno : rk false ts n k s = none := by
  rcases hc with rfl | rfl
  ·exact rk_nil
  ·rfl
 by_cases hs : s = []
 ·refine jB [(0, _), (1, _), (2, _), (3, _)] Tryz.func20 Tryz.ntmps20 fun B hok hB hW => ?_
  repeat' (first | (refine jR ?_) | (refine jo ?_; first | refine jO fun _ => ?_ | (refine jAt rfl ?_)) | (refine k_gt rfl rfl (dTt ‹_›) ?_) | (refine k_tt rfl rfl ?_))
  refine jZ (vs := [_, _, _]) rfl ⟨rfl, rfl, rfl, trivial⟩ rfl ⟨Gh.le.refl _, rfl, ?_⟩
  rw [oneOf_three]
  exact ⟨_, _, _, rfl, fun h => (by (cases h; done)), fun _ => hno⟩
 ·have hn0 : n = 0 := by
   rcases hc with h | h
   ·exact absurd h hs
   ·exact h
  refine jB [(0, _), (1, _), (2, _), (3, _)] Tryz.func20 Tryz.ntmps20 fun B hok hB hW => ?_
  repeat' (first | (refine jR ?_) | (refine jo ?_; first | refine jO fun _ => ?_ | (refine jAf rfl ?_)) | (refine k_gf rfl rfl (dFf ‹_›) ?_) | (refine k_tt rfl (dTt oM) ?_))
  refine jZ (vs := [_, _, _]) rfl ⟨rfl, rfl, rfl, trivial⟩ rfl ⟨Gh.le.refl _, rfl, ?_⟩
  rw [oneOf_three]
  exact ⟨_, _, _, rfl, fun h => (by (cases h; done)), fun _ => hno⟩
theorem c_openN {n : Nat} {u : Value} {ts : List Ty} {s : List UInt8} (hu : u.oneCell' = true) (h0 : s ≠ []) (hs : s.length ≤ 1000) (hn : n ≤ 999) : FnS Tryz.prog 20 [Ag [u], S s, S [110], I (n + 1 : Nat)] G (ReadP ts (rkNum false s) [110]) := by
 have hp : 0 < s.length := List.length_pos_iff.2 h0
 by_cases h3 : 3 ≤ s.length
 ·match s, h3, hs, h0 with
  | a :: b :: c :: r, _, hs, h0 =>
   have hl : (a :: b :: c :: r).length = r.length + 3 := rfl
   have he0 : bt (a :: b :: c :: r) (Int.toNat 0) = a.toNat := bt_zero _ _
   have he1 : bt (a :: b :: c :: r) (Int.toNat 1) = b.toNat := by rw [show Int.toNat 1 = 0 + 1 from rfl, bt_succ]; exact bt_zero _ _
   have he2 : bt (a :: b :: c :: r) (Int.toNat 2) = c.toNat := by rw [show Int.toNat 2 = 0 + 1 + 1 from rfl, bt_succ, bt_succ]; exact bt_zero _ _
   have ha := a.toNat_lt
   have hb := b.toNat_lt
   have hc := c.toNat_lt
   have hnum : ((num3 a b c : Nat) : Int) = (a.toNat : Int) * 65536 + (b.toNat : Int) * 256 + (c.toNat : Int) := by unfold num3; omega
   have hdg := (digF_decI ((num3 a b c : Nat) : Int).toNat (Nat.le_refl _) oM).2
   have hrk : rkNum false (a :: b :: c :: r) = some (.nd 110 (decI (num3 a b c : Nat)) 0 [], r) := by
    rw [rkNum]; exact if_neg (by simp)
   rw [hrk]
   refine jB [(0, _), (1, _), (2, _), (3, _)] Tryz.func20 Tryz.ntmps20 fun B hok hB hW => ?_
   repeat' (first | (refine jX ?_) | (refine jo ?_; first | refine jO fun _ => ?_ | (refine jAf rfl ?_) | refine jV (g_bld rfl rfl) ?_) | (refine k_gf rfl rfl rfl ?_) | (refine k_tt rfl rfl ?_) | (refine k_ff rfl rfl ?_))
   rename_i xr y
   (refine k_any (s_any (id := 8) [.blk xr (.cells (List.toArray [u]) tRdO (0, 0))] (by intro y hy; simp only [List.mem_cons, List.not_mem_nil, or_false] at hy ⊢; simp [hy]) mixed ?_); refine jW 4 [0, 1, 2, 3, 4, 5, 6, 7, 8, 9, 10, 11, 12, 13] (bts 18 16383) ?_; refine jA 14 rfl ?_; (refine c_rt rfl rfl rfl (c_l6Dec oM) rfl ?_); refine jK (bts 18 32767) ?_; refine jW 1 [15, 16] (bts 18 131071) ?_; refine jA 17 rfl ?_; (refine jD rfl rfl rfl ?_); refine jK (bts 18 262143) ?_; refine jQ ?_)
   all_goals repeat' (first | (refine jR ?_) | (refine k_any (s_any (id := 9) _ (fun _ h => h) mixed ?_); refine jW 0 [0, 1, 2, 3, 4, 5] (bts 6 63) ?_; refine jQ ?_))
   all_goals
    rw [he0, he1, he2, ← hnum]
    refine Nx.sealC (b := y) fun G2 hG2 hsy => ?_
    refine jZ (vs := [_, _, _]) rfl ⟨rfl, rfl, rfl, trivial⟩ rfl ⟨hG2, rfl, ?_⟩
    rw [oneOf_three]
    exact ⟨_, _, _, rfl, fun _ => ⟨_, y, rfl, rfl, .leaf 110 _ _ _ _ hsy (.inl ⟨rfl, rfl, rfl, hdg⟩)⟩, fun h => (by (cases h; done))⟩
 ·have hno : rkNum false s = none := by
   unfold rkNum
   split
   ·exact absurd (by simp) h3
   ·rfl
  refine jB [(0, _), (1, _), (2, _), (3, _)] Tryz.func20 Tryz.ntmps20 fun B hok hB hW => ?_
  repeat' (first | (refine jX ?_) | (refine jo ?_; first | refine jO fun _ => ?_ | (refine jAf rfl ?_) | refine jV (g_bld rfl rfl) ?_) | (refine k_gf rfl rfl (dFf ‹_›) ?_) | (refine k_tt rfl (by first | rfl | (refine decide_eq_true ?_; (omega))) ?_) | (refine k_ff rfl rfl ?_))
  all_goals refine jZ (vs := [_, _, _]) rfl ⟨rfl, rfl, rfl, trivial⟩ rfl ⟨Gh.le.refl _, rfl, ?_⟩
  all_goals (rw [oneOf_three]; exact ⟨_, _, _, rfl, fun h => (by (cases h; done)), fun _ => hno⟩)
theorem c_openF {n : Nat} {u : Value} {ts : List Ty} {s : List UInt8} {e : UInt8} (hu : u.oneCell' = true) (hs : s.length ≤ 1000) (hn : n ≤ 999) : FnS Tryz.prog 20 [Ag [u], S (e :: s), S [102], I (n + 1 : Nat)] G (ReadP ts ((rbFlag (e :: s)).map fun x => (.nd 102 (if x.1 = true then [121, 101, 115] else [110, 111]) 0 [], x.2)) [102]) := by
 have he0 : bt (e :: s) (Int.toNat 0) = e.toNat := bt_zero e s
 have hel : (e :: s).length = s.length + 1 := rfl
 by_cases h1 : e.toNat = 1
 ·have e1 : rbFlag (e :: s) = some (true, s) := by rw [rbFlag, if_neg oM, if_pos h1]
  rw [e1]
  refine jB [(0, _), (1, _), (2, _), (3, _)] Tryz.func20 Tryz.ntmps20 fun B hok hB hW => ?_
  repeat' (first | (refine jX ?_) | (refine jo ?_; first | refine jO fun _ => ?_ | (refine jAf rfl ?_) | refine jV (g_bld rfl rfl) ?_ | refine jD rfl rfl rfl ?_) | (refine k_gf rfl rfl rfl ?_) | (refine k_tt rfl (by first | rfl | (refine decide_eq_true ?_; (omega))) ?_) | (refine k_ff rfl rfl ?_) | (refine k_any (s_any (id := 20) _ (fun _ h => h) mixed ?_); refine jW 0 [0, 1, 2, 3, 4, 5, 6, 7, 8] (bts 9 511) ?_; refine jQ ?_))
  all_goals
   rename_i y
   refine Nx.sealC (b := y) fun G2 hG2 hsy => ?_
   refine jZ (vs := [_, _, _]) rfl ⟨rfl, rfl, rfl, trivial⟩ rfl ⟨hG2, rfl, ?_⟩
   rw [oneOf_three]
   exact ⟨_, _, _, rfl, fun _ => ⟨.nd 102 [121, 101, 115] 0 [], y, rfl, rfl, .leaf 102 _ _ _ _ hsy (.inr (.inr ⟨rfl, rfl, rfl, .inl rfl⟩))⟩, fun h => (by (exfalso; have h8 := of_decide_eq_false h; omega))⟩
 ·by_cases h0 : e.toNat = 0
  ·have e1 : rbFlag (e :: s) = some (false, s) := by rw [rbFlag, if_pos h0]
   rw [e1]
   refine jB [(0, _), (1, _), (2, _), (3, _)] Tryz.func20 Tryz.ntmps20 fun B hok hB hW => ?_
   repeat' (first | (refine jX ?_) | (refine jo ?_; first | refine jO fun _ => ?_ | (refine jAf rfl ?_) | refine jV (g_bld rfl rfl) ?_ | refine jD rfl rfl rfl ?_) | (refine k_gf rfl rfl rfl ?_) | (refine k_tt rfl rfl ?_) | (refine k_ff rfl (by first | rfl | (refine decide_eq_false ?_; (omega))) ?_) | (refine k_any (s_any (id := 20) _ (fun _ h => h) mixed ?_); refine jW 0 [0, 1, 2, 3, 4, 5, 6, 7, 8] (bts 9 511) ?_; refine jQ ?_))
   all_goals
    rename_i y
    refine Nx.sealC (b := y) fun G2 hG2 hsy => ?_
    refine jZ (vs := [_, _, _]) rfl ⟨rfl, rfl, rfl, trivial⟩ rfl ⟨hG2, rfl, ?_⟩
    rw [oneOf_three]
    exact ⟨_, _, _, rfl, fun _ => ⟨.nd 102 [110, 111] 0 [], y, rfl, rfl, .leaf 102 _ _ _ _ hsy (.inr (.inr ⟨rfl, rfl, rfl, .inr rfl⟩))⟩, fun h => (by (exfalso; have h8 := of_decide_eq_false h; omega))⟩
  ·have e1 : rbFlag (e :: s) = none := rbFlag_no h0 h1
   rw [e1]
   have h2 : ¬ ((e.toNat : Nat) : Int) < 2 := oM
   refine jB [(0, _), (1, _), (2, _), (3, _)] Tryz.func20 Tryz.ntmps20 fun B hok hB hW => ?_
   repeat' (first | (refine jX ?_) | (refine jo ?_; first | refine jO fun _ => ?_ | (refine jAf rfl ?_) | refine jV (g_bld rfl rfl) ?_ | refine jD rfl rfl rfl ?_) | (refine k_gf rfl rfl rfl ?_) | (refine k_tt rfl rfl ?_) | (refine k_ff rfl (by first | rfl | (refine decide_eq_false ?_; (omega))) ?_) | (refine k_any (s_any (id := 20) _ (fun _ h => h) mixed ?_); refine jW 0 [0, 1, 2, 3, 4, 5, 6, 7, 8] (bts 9 511) ?_; refine jQ ?_))
   all_goals refine jZ (vs := [_, _, _]) rfl ⟨rfl, rfl, rfl, trivial⟩ rfl ⟨Gh.le.refl _, rfl, ?_⟩
   all_goals (rw [oneOf_three]; exact ⟨_, _, _, rfl, fun h => (by (exfalso; have h8 := of_decide_eq_true h; omega)), fun _ => rfl⟩)
theorem c_openO {n : Nat} {u : Value} {vs : List TyX} {k s : List UInt8} {e : UInt8} (hR : OpnC n u vs) (h : SchR G u vs) (hk : kindIn (tys vs) (63 :: k) = true) (hs : s.length ≤ 999) (hn : n ≤ 999) :
  FnS Tryz.prog 20 [Ag [u], S (e :: s), S (63 :: k), I (n + 1 : Nat)] G (ReadP (tys vs) (rk false (tys vs) (n + 1) (63 :: k) (e :: s)) (63 :: k)) := by
 have edn : ((n + 1 : Nat) : Int) - 1 = (n : Nat) := oM
 have he0 : bt (e :: s) (Int.toNat 0) = e.toNat := bt_zero e s
 have hel : (e :: s).length = s.length + 1 := rfl
 have hk0 : bt (63 :: k) (Int.toNat 0) = 63 := bt_zero 63 k
 have hkl2 : (63 :: k).length = k.length + 1 := rfl
 rw [rk_opt]
 by_cases h1 : e.toNat = 1
 ·have e1 : rbFlag (e :: s) = some (true, s) := by rw [rbFlag, if_neg oM, if_pos h1]
  rw [e1]
  dsimp only
  have cx_op := hR G k s h (kindIn_tail (.inr rfl) hk) oM
  rw [← edn] at cx_op
  refine jB [(0, _), (1, _), (2, _), (3, _)] Tryz.func20 Tryz.ntmps20 fun B hok hB hW => ?_
  repeat' (first | refine jM ?_ | (refine jo ?_; first | refine jO fun _ => ?_ | (refine jAf rfl ?_) | refine jV (g_bld rfl rfl) ?_ | refine jAl rfl ?_ | refine jF fun _ => ?_) | (refine k_gf rfl rfl rfl ?_) | (refine k_tt rfl rfl ?_) | (refine k_ff rfl (by first | rfl | (refine decide_eq_false ?_; (omega))) ?_) | (refine k_any (s_any (id := 24) _ (fun _ h => h) mixed ?_); refine jW 9 [1, 2, 3, 4, 5, 6] (bts 15 126) ?_; (refine jG (bts 15 127) 0 rfl (g_ldA rfl rfl rfl rfl) ?_); refine jA 7 rfl ?_; (refine c_fns rfl rfl rfl cx_op rfl ?_; rintro _ G hle ⟨q1, r1, ok1, rfl, hyes, hno⟩; skip); refine jS (bts 15 255) ?_; refine jT 0 [8, 9, 10, 11, 12, 13, 14] (bts 15 32767) ?_; refine jQ ?_))
  refine Nx.addNil tPtrO 1 ?_
  repeat' (first | (refine jR ?_) | (refine jo ?_; first | refine jD rfl rfl rfl ?_ | (refine c_apX rfl rfl rfl rfl rfl rfl rfl rfl rfl oM fun _ _ => ?_)))
  all_goals
   rename_i y8 _ y1 yc
   refine Nx.sealS (v := .slice (some ⟨y1, 0, none⟩) (0 + 1) yc) fun G2 hG2 hs1 => ?_
   refine Nx.sealC (b := y8) fun G3 hG3 hsg => ?_
   refine jZ (vs := [_, _, _]) rfl ⟨rfl, rfl, rfl, trivial⟩ rfl ⟨((hle.trans hG2).trans hG3), rfl, ?_⟩
   rw [oneOf_three]
   refine ⟨_, _, _, rfl, fun hb => ?_, fun hb => by rw [hno hb]; rfl⟩
   obtain ⟨w, wb, rfl, hf, hrep⟩ := hyes hb
   obtain ⟨hc1, hg1⟩ := slv_1 hs1
   exact ⟨.nd 63 [] 0 [w], y8, rfl, by rw [hf]; rfl, .opt k y8 y1 wb yc w hc1 hsg (hg1.mono hG3) (hrep.mono (hG2.trans hG3))⟩
 ·by_cases h0 : e.toNat = 0
  ·have e1 : rbFlag (e :: s) = some (false, s) := by rw [rbFlag, if_pos h0]
   rw [e1]
   refine jB [(0, _), (1, _), (2, _), (3, _)] Tryz.func20 Tryz.ntmps20 fun B hok hB hW => ?_
   repeat' (first | refine jM ?_ | (refine jo ?_; first | refine jO fun _ => ?_ | (refine jAf rfl ?_) | refine jV (g_bld rfl rfl) ?_) | (refine k_gf rfl rfl rfl ?_) | (refine k_tt rfl (by first | rfl | (refine decide_eq_true ?_; (omega))) ?_) | (refine k_ff rfl rfl ?_) | (refine k_any (s_any (id := 23) _ (fun _ h => h) mixed ?_); refine jW 0 [0, 1, 2, 3, 4, 5, 6, 7, 8] (bts 9 511) ?_; refine jQ ?_))
   all_goals
    rename_i y
    refine Nx.sealC (b := y) fun G2 hG2 hsy => ?_
    refine jZ (vs := [_, _, _]) rfl ⟨rfl, rfl, rfl, trivial⟩ rfl ⟨hG2, rfl, ?_⟩
    rw [oneOf_three]
    exact ⟨_, _, _, rfl, fun _ => ⟨_, y, rfl, rfl, .non k y hsy⟩, fun h => (by (exfalso; have h8 := of_decide_eq_false h; omega))⟩
  ·rw [rbFlag_no h0 h1]
   refine jB [(0, _), (1, _), (2, _), (3, _)] Tryz.func20 Tryz.ntmps20 fun B hok hB hW => ?_
   repeat' (first | refine jM ?_ | (refine jo ?_; first | refine jO fun _ => ?_ | (refine jAf rfl ?_) | refine jV (g_bld rfl rfl) ?_) | (refine k_gf rfl rfl rfl ?_) | (refine k_tt rfl (by first | rfl | (refine decide_eq_true ?_; (omega))) ?_) | (refine k_ff rfl rfl ?_) | (refine k_any (s_any (id := 23) _ (fun _ h => h) mixed ?_); refine jW 0 [0, 1, 2, 3, 4, 5, 6, 7, 8] (bts 9 511) ?_; refine jQ ?_))
   all_goals refine jZ (vs := [_, _, _]) rfl ⟨rfl, rfl, rfl, trivial⟩ rfl ⟨Gh.le.refl _, rfl, ?_⟩
   all_goals (rw [oneOf_three]; exact ⟨_, _, _, rfl, fun h => (by (exfalso; have h8 := of_decide_eq_true h; omega)), fun _ => rfl⟩)
theorem c_openA {n : Nat} {u : Value} {ts : List Ty} {k s : List UInt8} {c e : UInt8} (hc : c = 91 ∨ c = 64) (hu : u.oneCell' = true)
  (cx_oa : FnS Tryz.prog 49 [Ag [u], S (e :: s), S (c :: k), I (n + 1 : Nat)] G (ReadP ts (rk false ts (n + 1) (c :: k) (e :: s)) (c :: k))) (hs : s.length ≤ 999) (hkl : k.length ≤ 1000) (hn : n ≤ 999) :
  FnS Tryz.prog 20 [Ag [u], S (e :: s), S (c :: k), I (n + 1 : Nat)] G (ReadP ts (rk false ts (n + 1) (c :: k) (e :: s)) (c :: k)) := by
 have hel : (e :: s).length = s.length + 1 := rfl
 have hkl2 : (c :: k).length = k.length + 1 := rfl
 rcases hc with rfl | rfl
 ·have hk0 : bt (91 :: k) (Int.toNat 0) = 91 := bt_zero 91 k
  refine jB [(0, _), (1, _), (2, _), (3, _)] Tryz.func20 Tryz.ntmps20 fun B hok hB hW => ?_
  repeat' (first | refine jM ?_ | (refine jo ?_; first | refine jO fun _ => ?_ | (refine jAf rfl ?_) | refine jV (g_bld rfl rfl) ?_ | refine jAm rfl ?_ | (refine c_fns rfl rfl rfl cx_oa rfl ?_; rintro _ G hle ⟨q1, r1, ok1, rfl, hyes, hno⟩; skip)) | (refine k_gf rfl rfl rfl ?_) | (refine k_ff rfl rfl ?_))
  all_goals refine jZ (vs := [_, _, _]) rfl ⟨rfl, rfl, rfl, trivial⟩ rfl ⟨hle, rfl, ?_⟩
  all_goals (rw [oneOf_three]; exact ⟨_, _, _, rfl, hyes, hno⟩)
 ·have hk0 : bt (64 :: k) (Int.toNat 0) = 64 := bt_zero 64 k
  refine jB [(0, _), (1, _), (2, _), (3, _)] Tryz.func20 Tryz.ntmps20 fun B hok hB hW => ?_
  repeat' (first | refine jM ?_ | (refine jo ?_; first | refine jO fun _ => ?_ | (refine jAf rfl ?_) | refine jV (g_bld rfl rfl) ?_ | refine jAm rfl ?_ | (refine c_fns rfl rfl rfl cx_oa rfl ?_; rintro _ G hle ⟨q1, r1, ok1, rfl, hyes, hno⟩; skip)) | (refine k_gf rfl rfl rfl ?_) | (refine k_ff rfl rfl ?_))
  all_goals refine jZ (vs := [_, _, _]) rfl ⟨rfl, rfl, rfl, trivial⟩ rfl ⟨hle, rfl, ?_⟩
  all_goals (rw [oneOf_three]; exact ⟨_, _, _, rfl, hyes, hno⟩)
theorem c_openT {n : Nat} {u : Value} {ts : List Ty} {s : List UInt8} (hu : u.oneCell' = true) (h0 : s ≠ []) (hs : s.length ≤ 1000) (hn : n ≤ 999) : FnS Tryz.prog 20 [Ag [u], S s, S [116], I (n + 1 : Nat)] G (ReadP ts (rkText s) [116]) := by
 have hp : 0 < s.length := List.length_pos_iff.2 h0
 refine jB [(0, _), (1, _), (2, _), (3, _)] Tryz.func20 Tryz.ntmps20 fun B hok hB hW => ?_
 repeat' (first | (refine run (t := tb) 400 rfl ?_ ?_; (focus (repeat' (first | exact trivial | apply And.intro | omega | (simp only [List.length_append, List.length_cons, List.length_nil, Int.toNat_natCast]; omega))))) | (refine jo ?_; first | refine jO fun _ => ?_ | (refine jAf rfl ?_) | refine jV (g_bld rfl rfl) ?_) | (refine k_gf rfl rfl (dFf ‹_›) ?_) | (refine k_tt rfl rfl ?_) | (refine k_ff rfl rfl ?_))
 rename_i xr y
 refine k_loop (ι := Nat) (fun i => i ≤ s.length ∧ ∀ j, j < i → bt s j ≠ 0) (fun i => [(1, S s), (2, S [116]), (11, Pt y 0), (12, I (i : Nat))]) (fun _ => G) (fun i => [.blk y (.cells (List.toArray [S [116], S [], nilS, nilS]) tLv (0, 0))]) (fun i => s.length - i) 0 ?_ tU rfl sB (fun i Hi => ?_)
 ·exact ⟨Nat.zero_le _, fun j hj => absurd hj oM⟩
 obtain ⟨hi0, hi1⟩ := Hi
 have hb : bt s ((i : Nat) : Int).toNat = bt s i := rfl
 by_cases hi : i < s.length
 ·by_cases hz : bt s i = 0
  ·have hz' : bt s ((i : Nat) : Int).toNat = 0 := hz
   have hcut := cut1_at (k := 0) hi hi1 hz
   have htl : (s.take ((i : Nat) : Int).toNat).length ≤ 1000 := by rw [List.length_take]; omega
   have htx : [39] ++ List.take ((i : Nat) : Int).toNat s ++ [39] = 39 :: (s.take i ++ [39]) := by simp
   have cx_tx := c_l3Text (G := G) (s := [39] ++ List.take ((i : Nat) : Int).toNat s ++ [39]) (by simp only [List.length_append, List.length_cons, List.length_nil]; omega)
   repeat' (first | (refine run (t := tb) 400 rfl ?_ ?_; (focus (repeat' (first | exact trivial | apply And.intro | omega)))) | (refine jo ?_; first | (refine jAt rfl ?_) | refine jD rfl rfl rfl ?_) | (refine k_gt rfl rfl (dTt oM) ?_) | (refine k_ff rfl (dFf oM) ?_) | (refine k_any (s_any (id := 15) _ (fun _ h => h) mixed ?_); refine jU 11 [0, 1, 2, 3, 4, 5, 8, 9, 10, 11, 12] (bts 22 7999) ?_ ?_; (focus (repeat' (first | exact trivial | apply And.intro | omega))); (try ((refine Nx.re (d := 88) (v' := Bo true) rfl (congrArg Value.bool (dTt oM)) ?_))); refine jT 8 [13, 14, 15] (bts 22 65343) ?_; (refine jG (bts 22 65407) 6 rfl (g_min rfl rfl) ?_); refine jU 6 [7] (bts 22 65535) ?_ ?_; (focus (repeat' (first | exact trivial | apply And.intro | omega))); (refine jG (bts 22 131071) 16 rfl (g_ld rfl rfl rfl) ?_); ((refine jA 17 rfl ?_; ((refine c_rt rfl rfl rfl (c_l3Text ?_) rfl ?_; (focus ((simp; omega); done)))); refine jS (bts 22 262143) ?_)); refine jT 2 [19, 20] (bts 22 1835007) ?_; (refine jG (bts 22 2097151) 18 rfl (g_pickT rfl rfl rfl) ?_); refine jT 0 [21] (bts 22 4194303) ?_; refine jQ ?_))
   ·simp only [List.length_append, List.length_cons, List.length_nil]; omega
   ·simp only [List.length_append, List.length_cons, List.length_nil]; omega
   all_goals repeat' (fail)
   all_goals
    refine Nx.sealC (b := y) fun G2 hG2 hsy => ?_
    refine jZ (vs := [_, _, _]) rfl ⟨rfl, rfl, rfl, trivial⟩ rfl ⟨hG2, rfl, ?_⟩
    rw [oneOf_three]
    have e3 : (min (((i : Nat) : Int) + 1) ((s.length : Nat) : Int)).toNat = i + 1 := oM
    rw [e3, htx]
    rw [htx] at hsy
    have hrk : rkText s = if isTx (39 :: (s.take i ++ [39])) = true then some (.nd 116 (s.take i) 0 [], s.drop (i + 1)) else none := by unfold rkText; rw [hcut]
    refine ⟨_, _, _, rfl, fun h => ?_, fun h => ?_⟩
    ·exact ⟨_, y, rfl, by rw [hrk, if_pos h], .leaf 116 _ _ _ _ hsy (.inr (.inl ⟨rfl, rfl, rfl⟩))⟩
    ·rw [hrk, if_neg (by rw [h]; decide)]
  ·have hz' : ¬ bt s ((i : Nat) : Int).toNat = 0 := hz
   repeat' (first | (refine run (t := tb) 400 rfl ?_ ?_; (focus (repeat' (first | exact trivial | apply And.intro | omega)))) | (refine jo ?_; (refine jAt rfl ?_)) | (refine k_gt rfl rfl (dTt oM) ?_) | (refine k_tt rfl (dTt oM) ?_))
   refine Nx.re (d := 12) (v' := I (i + 1 : Nat)) rfl (congrArg (Value.int .i64) oM) ?_
   exact k_rd (i + 1) ⟨oM, fun j hj => (by
    rcases Nat.lt_or_ge j i with h | h
    ·exact hi1 j h
    ·have : j = i := oM
     subst this; exact hz)⟩ oM tU rfl sRr
 ·have hcut : cut1 0 s = (s, [], false) := cut1_no fun j hj => hi1 j oM
  have hno : rkText s = none := by unfold rkText; rw [hcut]
  have ei : i = s.length := oM
  have htl : (s.take ((i : Nat) : Int).toNat).length ≤ 1000 := by rw [List.length_take]; omega
  repeat' (first | (refine run (t := tb) 400 rfl ?_ ?_; (focus (repeat' (first | exact trivial | apply And.intro | omega)))) | (refine jo ?_; first | (refine jAf rfl ?_) | refine jD rfl rfl rfl ?_) | (refine k_gf rfl rfl (dFf oM) ?_) | (refine k_ff rfl rfl ?_) | (refine k_any (s_any (id := 15) _ (fun _ h => h) mixed ?_); refine jU 11 [0, 1, 2, 3, 4, 5, 8, 9, 10, 11, 12] (bts 22 7999) ?_ ?_; (focus (repeat' (first | exact trivial | apply And.intro | omega))); (try ((refine Nx.re (d := 88) (v' := Bo false) rfl (congrArg Value.bool (dFf oM)) ?_))); refine jT 8 [13, 14, 15] (bts 22 65343) ?_; (refine jG (bts 22 65407) 6 rfl (g_min rfl rfl) ?_); refine jU 6 [7] (bts 22 65535) ?_ ?_; (focus (repeat' (first | exact trivial | apply And.intro | omega))); (refine jN (bts 22 131071) 16 rfl ?_); (refine jN (bts 22 262143) 17 rfl ?_); refine jT 2 [19, 20] (bts 22 1835007) ?_; (refine jG (bts 22 2097151) 18 rfl (g_pickF rfl rfl rfl) ?_); refine jT 0 [21] (bts 22 4194303) ?_; refine jQ ?_))
  ·simp only [List.length_append, List.length_cons, List.length_nil]; omega
  ·simp only [List.length_append, List.length_cons, List.length_nil]; omega
  all_goals repeat' (fail)
  all_goals refine jZ (vs := [_, _, _]) rfl ⟨rfl, rfl, rfl, trivial⟩ rfl ⟨Gh.le.refl _, rfl, ?_⟩
  all_goals (rw [oneOf_three]; exact ⟨_, _, _, rfl, fun h => (by cases h), fun _ => hno⟩)
theorem readP_none {ts : List Ty} {k : List UInt8} {v : Value} {G' : Gh} (h : ReadP ts none k v G') : ∃ q1 r1, v = Tu [.pointer q1, S r1, Bo false] := by
 obtain ⟨q, r, ok, rfl, h1, h2⟩ := h
 cases ok with
 | false => exact ⟨q, r, rfl⟩
 | true => obtain ⟨w, b, _, h3, _⟩ := h1 rfl; cases h3
theorem readP_some {ts : List Ty} {k r : List UInt8} {x : V} {v : Value} {G' : Gh} (h : ReadP ts (some (x, r)) k v G') : ∃ wb, v = Tu [Pt wb 0, S r, Bo true] ∧ RepR G' ts x k wb := by
 obtain ⟨q, r, ok, rfl, h1, h2⟩ := h
 cases ok with
 | false => cases h2 rfl
 | true =>
  obtain ⟨w, b, rfl, h3, h4⟩ := h1 rfl
  cases h3
  exact ⟨b, rfl, h4⟩
abbrev tPtrA : TypeId := 38
abbrev tRdA : TypeId := 41
theorem refV_none {vs : List TyX} {c : UInt8} {k : List UInt8} (hc : c ≠ 64) : refV vs (c :: k) = none := by
 rcases hr : refV vs (c :: k) with _ | x
 ·rfl
 ·have href := refV_ty vs (c :: k)
  rw [hr] at href
  obtain ⟨r, e⟩ := refT_64 href.symm
  simp only [List.cons.injEq] at e
  exact absurd e.1 hc
theorem c_openL {n : Nat} {u : Value} {vs : List TyX} {k s : List UInt8} (hR : OpnC n u vs) (h : SchR G u vs) (hvl : vs.length ≤ 1000000) (hk : kindIn (tys vs) (91 :: k) = true) (hs : s.length ≤ 1000) (hn : n ≤ 999) :
  FnS Tryz.prog 49 [Ag [u], S s, S (91 :: k), I (n + 1 : Nat)] G (ReadP (tys vs) (rk false (tys vs) (n + 1) (91 :: k) s) (91 :: k)) := by
 have edn : ((n + 1 : Nat) : Int) - 1 = (n : Nat) := oM
 have hkk := kindOk_kOk (kindIn_ok hk)
 have hki := kindIn_tail (.inl rfl) hk
 have hk0 : bt (91 :: k) (Int.toNat 0) = 91 := bt_zero 91 k
 have hkl2 : (91 :: k).length = k.length + 1 := rfl
 have cx_rf := c_ref (k := 91 :: k) h hvl hkk.1 oM
 rw [refV_none dC] at cx_rf
 have cx_rf : PuG Tryz.prog 88 [u, S (91 :: k)] G (· = Tu [Ag [U8 (0 : Nat), S [], nilS], Bo false]) := cx_rf
 rw [rk_lst]
 refine jB [(0, _), (1, _), (2, _), (3, _)] Tryz.func49 Tryz.ntmps49 fun B hok hB hW => ?_
 repeat' (first | refine jM ?_ | (refine jo ?_; first | refine jO fun _ => ?_ | refine jAl rfl ?_ | refine jL fun _ => ?_ | refine jC rfl rfl rfl ?_ | refine jV (g_bld rfl rfl) ?_ | (refine c_rt rfl rfl rfl cx_rf rfl ?_)) | (refine k_ff rfl rfl ?_))
 rename_i xr xt y
 refine Nx.addNil tPtrA 1 ?_
 refine k_loop (ι := List V × List Nat × Option Addr × Nat × List UInt8 × Nat × Gh) (fun q => ((q.2.1.length = q.1.length ∧ ∀ i, i < q.1.length → RepR q.2.2.2.2.2.2 (tys vs) (nth q.1 i) k (nth q.2.1 i)) ∧ Gh.le G q.2.2.2.2.2.2) ∧ (rkItems false (rk false (tys vs) n k) (s.length + 1) s [] = rkItems false (rk false (tys vs) n k) q.2.2.2.2.2.1 q.2.2.2.2.1 q.1 ∧ q.2.2.2.2.1.length < q.2.2.2.2.2.1) ∧ q.1.length + q.2.2.2.2.1.length ≤ s.length) (fun q => [(1, S q.2.2.2.2.1), (2, S (91 :: k)), (3, I (n + 1 : Nat)), (4, Pt xr 0), (13, Pt y 0)]) (fun q => q.2.2.2.2.2.2) (fun q => [.acc (.slice q.2.2.1 q.1.length q.2.2.2.1) tPtrA 1 q.1.length (rows ptR q.2.1), .blk y (.cells (List.toArray [S (91 :: k), S [], nilS, .slice q.2.2.1 q.1.length q.2.2.2.1]) tLv (0, 0)), .blk xr (.cells (List.toArray [u]) tRdA (0, 0))]) (fun q => q.2.2.2.2.1.length) ([], [], none, 0, s, s.length + 1, G) ?_ tU rfl sB (fun q Hq => ?_)
 ·exact ⟨⟨⟨rfl, fun i hi => absurd hi (by simp)⟩, Gh.le.refl _⟩, ⟨rfl, Nat.lt_succ_self _⟩, by simp⟩
 obtain ⟨ws, bs, a, cap, t, m, Gq⟩ := q
 dsimp only at Hq ⊢
 obtain ⟨⟨⟨hbl, hreps⟩, hgq⟩, ⟨hit, htm⟩, hwt⟩ := Hq
 have hnone : ∀ {v : Value} {G' : Gh} {p : Option Addr} {r : List UInt8}, rkItems false (rk false (tys vs) n k) m t ws = none → v = Tu [.pointer p, S r, Bo false] → ReadP (tys vs) ((rkItems false (rk false (tys vs) n k) (s.length + 1) s []).map fun x => (.nd 91 [] 0 x.1, x.2)) (91 :: k) v G' := fun h1 h2 => ⟨_, _, _, h2, fun h => (by cases h), fun _ => by rw [hit, h1]; rfl⟩
 cases t with
 | nil =>
  repeat' (first | (refine jR ?_) | (refine k_ff rfl rfl ?_))
  all_goals refine jZ (vs := [_, _, _]) rfl ⟨rfl, rfl, rfl, trivial⟩ rfl ⟨hgq, rfl, ?_⟩
  all_goals exact hnone (rkItems_no (.inl rfl)) rfl
 | cons e r =>
  obtain ⟨m, rfl⟩ : ∃ m', m = m' + 1 := ⟨m - 1, oM⟩
  have he0 : bt (e :: r) (Int.toNat 0) = e.toNat := bt_zero e r
  have hel : (e :: r).length = r.length + 1 := rfl
  by_cases h1 : e.toNat = 1
  case neg =>
   by_cases h0 : e.toNat = 0
   ·obtain rfl : e = 0 := u8_eq h0 dC
    rw [rkItems_0] at hit
    repeat' (first | refine jM ?_ | (refine jo ?_; first | refine jAl rfl ?_ | (refine jAt rfl ?_)) | (refine k_gt rfl rfl rfl ?_) | (refine k_tt rfl rfl ?_) | (refine k_any (s_any (id := 8) _ (fun _ h => h) mixed ?_); refine jW 0 [0, 1, 2, 3, 4, 5, 6, 7, 8] (bts 9 511) ?_; refine jQ ?_))
    all_goals
     refine Nx.sealS (v := .slice a ws.length cap) fun G2 hG2 hsl => ?_
     refine Nx.sealC (b := y) fun G3 hG3 hsg => ?_
     refine jZ (vs := [_, _, _]) rfl ⟨rfl, rfl, rfl, trivial⟩ rfl ⟨((hgq.trans hG2).trans hG3), rfl, ?_⟩
     rw [oneOf_three]
     exact ⟨_, _, _, rfl, fun _ => ⟨.nd 91 [] 0 ws, y, rfl, by rw [hit]; rfl, .lst k y ws bs a cap hsg (hsl.mono hG3) hbl (fun i hi => (hreps i hi).mono (hG2.trans hG3))⟩, fun h => (by (cases h; done))⟩
   ·have hno := rkItems_no (st := false) (f := rk false (tys vs) n k) (m := m + 1) (acc := ws) (.inr (.inl ⟨e, r, rfl, h0, h1⟩))
    repeat' (first | refine jM ?_ | (refine jo ?_; first | refine jAl rfl ?_ | (refine jAt rfl ?_)) | (refine k_gt rfl rfl rfl ?_) | (refine k_tt rfl (by first | rfl | (refine decide_eq_true ?_; (omega))) ?_) | (refine k_any (s_any (id := 8) _ (fun _ h => h) mixed ?_); refine jW 0 [0, 1, 2, 3, 4, 5, 6, 7, 8] (bts 9 511) ?_; refine jQ ?_))
    all_goals refine jZ (vs := [_, _, _]) rfl ⟨rfl, rfl, rfl, trivial⟩ rfl ⟨hgq, rfl, ?_⟩
    all_goals
     rw [oneOf_three]
     exact ⟨_, _, _, rfl, fun h => (by (exfalso; have h8 := of_decide_eq_true h; omega)), fun _ => by rw [hit, hno]; rfl⟩
  obtain rfl : e = 1 := u8_eq h1 dC
  have hop := hR Gq k r (h.mono hgq) hki oM
  rw [← edn] at hop
  cases hf : rk false (tys vs) n k r with
  | none =>
   rw [hf] at hop
   have cx_op0 : FnS Tryz.prog 20 [Ag [u], S r, S k, I (((n + 1 : Nat) : Int) - 1)] Gq (fun v _ => ∃ q1 r1, v = Tu [.pointer q1, S r1, Bo false]) := hop.mono fun v G' L' h => ⟨h.1, h.2.1, readP_none h.2.2⟩
   clear hop
   have hno2 := rkItems_no (st := false) (f := rk false (tys vs) n k) (m := m + 1) (acc := ws) (.inr (.inr ⟨r, rfl, hf⟩))
   repeat' (first | refine jM ?_ | (refine jo ?_; first | refine jAl rfl ?_ | refine jAm rfl ?_ | (refine jAt rfl ?_) | (refine c_fns rfl rfl rfl cx_op0 rfl ?_; rintro _ G hle ⟨q1, r1, rfl⟩; skip)) | (refine k_gt rfl rfl rfl ?_) | (refine k_tt rfl rfl ?_) | (refine k_ff rfl rfl ?_))
   all_goals refine jZ (vs := [_, _, _]) rfl ⟨rfl, rfl, rfl, trivial⟩ rfl ⟨(hgq.trans hle), rfl, ?_⟩
   all_goals exact hnone hno2 rfl
  | some y =>
   obtain ⟨w, r'⟩ := y
   rw [hf] at hop
   have cx_op1 : FnS Tryz.prog 20 [Ag [u], S r, S k, I (((n + 1 : Nat) : Int) - 1)] Gq (fun v G' => ∃ wb, v = Tu [Pt wb 0, S r', Bo true] ∧ RepR G' (tys vs) w k wb) := hop.mono fun v G' L' h => ⟨h.1, h.2.1, readP_some h.2.2⟩
   clear hop
   have hsh := rk_len _ _ _ _ _ hf
   have hstep := rkItems_step (st := false) (m := m) (acc := ws) hf (by simp)
   have hwl1 : (ws ++ [w]).length = ws.length + 1 := by simp
   repeat' (first | refine jM ?_ | (refine jo ?_; first | refine jAl rfl ?_ | refine jAm rfl ?_ | refine jD rfl rfl rfl ?_ | refine jF fun _ => ?_ | (refine jAt rfl ?_) | (refine c_apX rfl rfl rfl rfl rfl rfl rfl rfl rfl oM fun _ _ => ?_) | (refine c_fns rfl rfl rfl cx_op1 rfl ?_; rintro _ G hle ⟨wb, rfl, hrep⟩; skip)) | (refine k_gt rfl rfl rfl ?_) | (refine k_tt rfl rfl ?_) | (refine k_ff rfl rfl ?_))
   have hgl := hgq.trans hle
   have hrow : rows ptR bs ++ [Pt wb 0] = rows ptR (bs ++ [wb]) := (rows_snoc ptR bs wb).symm
   have hbl1 : (bs ++ [wb]).length = (ws ++ [w]).length := by simp [hbl]
   have hrp : ∀ i, i < (ws ++ [w]).length → RepR G (tys vs) (nth (ws ++ [w]) i) k (nth (bs ++ [wb]) i) := fun i hi => by
    by_cases h1 : i < ws.length
    ·have e1 : nth (ws ++ [w]) i = nth ws i := by rw [nth_eq hi, nth_eq h1, List.getElem_append_left h1]
     have e2 : nth (bs ++ [wb]) i = nth bs i := by rw [nth_eq oM, nth_eq oM, List.getElem_append_left oM]
     rw [e1, e2]; exact (hreps i h1).mono hle
    ·have h2 : i = ws.length := oM
     have e1 : nth (ws ++ [w]) i = w := by rw [nth_eq hi]; simp [h2]
     have e2 : nth (bs ++ [wb]) i = wb := by rw [nth_eq oM]; simp [h2, hbl]
     rw [e1, e2]; exact hrep
   rename_i y0 y1 yc
   rw [hrow]
   exact k_rd (ws ++ [w], bs ++ [wb], some ⟨y1, 0, none⟩, yc, r', m, G) ⟨⟨⟨hbl1, hrp⟩, hgl⟩, ⟨(by dsimp only; rw [hit, hstep]), (by dsimp only; omega)⟩, (by dsimp only; omega)⟩ (by dsimp only; omega) tU rfl (by rw [hwl1]; repeat (first | exact List.Sublist.refl _ | apply List.Sublist.cons_cons | apply List.Sublist.cons))
abbrev tIntOA : TypeId := 3
abbrev tFdOA : TypeId := 141
abbrev tTyOA : TypeId := 86
theorem c_openR {n : Nat} {u : Value} {vs : List TyX} {a : Option Addr} {ca : Nat} {nm : List UInt8} {fs : List Fld} {k s : List UInt8} (hR : OpnC n u vs) (h : SchR G u vs) (hw : SchW (tys vs)) (hr : refV vs (64 :: k) = some ((a, ca), ⟨82, nm, fs⟩)) (hk : kOk (64 :: k) = true) (hkl : k.length ≤ 999) (hs : s.length ≤ 1000) (hn : n ≤ 999) :
  FnS Tryz.prog 49 [Ag [u], S s, S (64 :: k), I (n + 1 : Nat)] G (ReadP (tys vs) (rk false (tys vs) (n + 1) (64 :: k) s) (64 :: k)) := by
 have edn : ((n + 1 : Nat) : Int) - 1 = (n : Nat) := oM
 have hk0 : bt (64 :: k) (Int.toNat 0) = 64 := bt_zero 64 k
 have hkl2 : (64 :: k).length = k.length + 1 := rfl
 have hvl : vs.length ≤ 8 := by have := hw.len; unfold tys at this; simpa using this
 have href := refV_ty vs (64 :: k)
 rw [hr] at href
 have cx_rf := c_ref (G := G) (k := 64 :: k) h oM hk oM
 rw [hr] at cx_rf
 have cx_rf : PuG Tryz.prog 88 [u, S (64 :: k)] G (· = Tu [Ag [U8 (82 : Nat), S nm, .slice a fs.length ca], Bo true]) := cx_rf
 have hxm := refV_mem hr
 have hxt : (⟨82, nm, fs⟩ : Ty) ∈ tys vs := List.mem_map_of_mem hxm
 have hTW := hw.ty _ hxt
 have hfl := hTW.len
 dsimp only at hfl
 rw [rk_typed href.symm]
 have hRl : rkTyped false (tys vs) (rk false (tys vs) n) ⟨82, nm, fs⟩ s = (rkFlds false (tys vs) (rk false (tys vs) n) ⟨82, nm, fs⟩ (s.length + 1) 0 s []).map fun x => (.nd 82 [] 0 x.1, x.2) := by
  unfold rkTyped
  rw [if_pos rfl]
 rw [hRl]
 refine jB [(0, _), (1, _), (2, _), (3, _)] Tryz.func49 Tryz.ntmps49 fun B hok hB hW => ?_
 repeat' (first | refine jM ?_ | (refine jo ?_; first | refine jO fun _ => ?_ | refine jAl rfl ?_ | refine jL fun _ => ?_ | refine jD rfl rfl rfl ?_ | refine jC rfl rfl rfl ?_ | refine jV (g_bld rfl rfl) ?_ | refine jF fun _ => ?_ | refine jV (g_bsB rfl rfl (by (repeat (first | exact BL.nil | apply BL.lit rfl)); done)) ?_ | (refine c_rt rfl rfl rfl cx_rf rfl ?_)) | (refine k_tt rfl rfl ?_))
 rename_i xr xt y xb
 refine Nx.addNil tIntOA 1 (Nx.addNil tPtrA 1 ?_)
 refine k_loop (ι := List (Fld × V) × List Nat × Option Addr × Nat × Option Addr × Nat × List UInt8 × Nat × Gh) (fun q => ((q.2.1.length = q.1.length ∧ (∀ i, i < q.1.length → (nth q.1 i).1 ∈ fs) ∧ ∀ i, i < q.1.length → RepR q.2.2.2.2.2.2.2.2 (tys vs) (nth q.1 i).2 (nth q.1 i).1.kind (nth q.2.1 i)) ∧ Gh.le G q.2.2.2.2.2.2.2.2) ∧ (rkFlds false (tys vs) (rk false (tys vs) n) ⟨82, nm, fs⟩ (s.length + 1) 0 s [] = rkFlds false (tys vs) (rk false (tys vs) n) ⟨82, nm, fs⟩ q.2.2.2.2.2.2.2.1 (lastT q.1) q.2.2.2.2.2.2.1 (nd61 q.1) ∧ q.2.2.2.2.2.2.1.length < q.2.2.2.2.2.2.2.1) ∧ q.1.length + q.2.2.2.2.2.2.1.length ≤ s.length) (fun q => [(1, S q.2.2.2.2.2.2.1), (2, S (64 :: k)), (3, I (n + 1 : Nat)), (4, Pt xr 0), (11, Pt xt 0), (13, Pt y 0)]) (fun q => q.2.2.2.2.2.2.2.2) (fun q => [.acc (.slice q.2.2.2.2.1 q.1.length q.2.2.2.2.2.1) tPtrA 1 q.1.length (rows ptR q.2.1), .acc (.slice q.2.2.1 q.1.length q.2.2.2.1) tIntOA 1 q.1.length (rows inR (q.1.map fun p => p.1.tag)), .blk y (.cells (List.toArray [S (64 :: k), S [82], .slice q.2.2.1 q.1.length q.2.2.2.1, .slice q.2.2.2.2.1 q.1.length q.2.2.2.2.2.1]) tLv (0, 0)), .blk xt (.cells (List.toArray [U8 (82 : Nat), S nm, .slice a fs.length ca]) tTyOA (0, 0)), .blk xr (.cells (List.toArray [u]) tRdA (0, 0))]) (fun q => q.2.2.2.2.2.2.1.length) ([], [], none, 0, none, 0, s, s.length + 1, G) ?_ tU rfl sB (fun q Hq => ?_)
 ·exact ⟨⟨⟨rfl, fun i hi => absurd hi (by simp), fun i hi => absurd hi (by simp)⟩, Gh.le.refl _⟩, ⟨rfl, Nat.lt_succ_self _⟩, by simp⟩
 obtain ⟨gs, bs, a1, c1, a2, c2, t, m, Gq⟩ := q
 dsimp only at Hq ⊢
 obtain ⟨⟨⟨hbl, hfm, hreps⟩, hgq⟩, ⟨hit, htm⟩, hwt⟩ := Hq
 have hnone : ∀ {v : Value} {G' : Gh} {p : Option Addr} {r : List UInt8}, rkFlds false (tys vs) (rk false (tys vs) n) ⟨82, nm, fs⟩ m (lastT gs) t (nd61 gs) = none → v = Tu [.pointer p, S r, Bo false] → ReadP (tys vs) ((rkFlds false (tys vs) (rk false (tys vs) n) ⟨82, nm, fs⟩ (s.length + 1) 0 s []).map fun x => (.nd 82 [] 0 x.1, x.2)) (64 :: k) v G' := fun h1 h2 => ⟨_, _, _, h2, fun h => (by cases h), fun _ => by rw [hit, h1]; rfl⟩
 cases t with
 | nil =>
  repeat' (first | (refine jR ?_) | (refine k_ff rfl rfl ?_))
  all_goals refine jZ (vs := [_, _, _]) rfl ⟨rfl, rfl, rfl, trivial⟩ rfl ⟨hgq, rfl, ?_⟩
  all_goals exact hnone (rkFlds_no (.inl rfl)) rfl
 | cons e r =>
  obtain ⟨m, rfl⟩ : ∃ m', m = m' + 1 := ⟨m - 1, oM⟩
  have he0 : bt (e :: r) (Int.toNat 0) = e.toNat := bt_zero e r
  have hel : (e :: r).length = r.length + 1 := rfl
  by_cases h1 : e.toNat = 1
  case neg =>
   by_cases h0 : e.toNat = 0
   ·obtain rfl : e = 0 := u8_eq h0 dC
    rw [rkFlds_0] at hit
    repeat' (first | refine jM ?_ | (refine jo ?_; first | refine jAl rfl ?_ | (refine jAf rfl ?_)) | (refine k_gf rfl rfl rfl ?_) | (refine k_tt rfl rfl ?_) | (refine k_any (s_any (id := 8) _ (fun _ h => h) mixed ?_); refine jW 0 [0, 1, 2, 3, 4, 5, 6, 7, 8] (bts 9 511) ?_; refine jQ ?_))
    all_goals
     refine Nx.sealS (v := .slice a1 gs.length c1) fun G2 hG2 hs1 => ?_
     refine Nx.sealS (v := .slice a2 gs.length c2) fun G3 hG3 hs2 => ?_
     refine Nx.sealC (b := y) fun G4 hG4 hsg => ?_
     refine jZ (vs := [_, _, _]) rfl ⟨rfl, rfl, rfl, trivial⟩ rfl ⟨(((hgq.trans hG2).trans hG3).trans hG4), rfl, ?_⟩
     rw [oneOf_three]
     exact ⟨_, _, _, rfl, fun _ => ⟨.nd 82 [] 0 (nd61 gs), y, rfl, by rw [hit]; rfl, .recd (64 :: k) y ⟨82, nm, fs⟩ gs bs a1 a2 c1 c2 ⟨href.symm, rfl⟩ hsg ((hs1.mono hG3).mono hG4) (hs2.mono hG4) hbl hfm (fun i hi => (hreps i hi).mono ((hG2.trans hG3).trans hG4))⟩, fun h => (by (cases h; done))⟩
   ·have hno := rkFlds_no (st := false) (ts := tys vs) (f := rk false (tys vs) n) (ty := ⟨82, nm, fs⟩) (m := m + 1) (la := lastT gs) (acc := nd61 gs) (.inr (.inl ⟨e, r, rfl, h0, h1⟩))
    repeat' (first | refine jM ?_ | (refine jo ?_; first | refine jAl rfl ?_ | (refine jAf rfl ?_)) | (refine k_gf rfl rfl rfl ?_) | (refine k_tt rfl (by first | rfl | (refine decide_eq_true ?_; (omega))) ?_) | (refine k_any (s_any (id := 8) _ (fun _ h => h) mixed ?_); refine jW 0 [0, 1, 2, 3, 4, 5, 6, 7, 8] (bts 9 511) ?_; refine jQ ?_))
    all_goals refine jZ (vs := [_, _, _]) rfl ⟨rfl, rfl, rfl, trivial⟩ rfl ⟨hgq, rfl, ?_⟩
    all_goals
     rw [oneOf_three]
     exact ⟨_, _, _, rfl, fun h => (by (exfalso; have h8 := of_decide_eq_true h; omega)), fun _ => by rw [hit, hno]; rfl⟩
  obtain rfl : e = 1 := u8_eq h1 dC
  cases r with
  | nil =>
   repeat' (first | refine jM ?_ | (refine jo ?_; first | refine jAl rfl ?_ | (refine jAf rfl ?_)) | (refine k_gf rfl rfl rfl ?_) | (refine k_tt rfl rfl ?_) | (refine k_ff rfl rfl ?_))
   all_goals refine jZ (vs := [_, _, _]) rfl ⟨rfl, rfl, rfl, trivial⟩ rfl ⟨hgq, rfl, ?_⟩
   all_goals exact hnone (rkFlds_no (.inr (.inr (.inl rfl)))) rfl
  | cons b r =>
   have hb0 : bt (b :: r) (Int.toNat 0) = b.toNat := bt_zero b r
   have hbl0 : (b :: r).length = r.length + 1 := rfl
   have hdr : ¬ List.drop (Int.toNat 1) (1 :: b :: r) = [] := (List.cons_ne_nil b r : ¬ b :: r = [])
   have hdl : (List.drop (Int.toNat 1) (1 :: b :: r)).length = r.length + 1 := rfl
   have hb1 : bt (List.drop (Int.toNat 1) (1 :: b :: r)) (Int.toNat 0) = b.toNat := bt_zero b r
   have cx_f0 := c_fieldS (G := Gq) (x := ((a, ca), ⟨82, nm, fs⟩)) (tag := (b.toNat : Int)) ((h.mono hgq).fl _ hxm) (by dsimp only; omega)
   cases hd : fldT fs (b.toNat : Int) with
   | none =>
    rw [hd] at cx_f0
    have cx_fld : PuG Tryz.prog 89 [Ag [U8 (82 : Nat), S nm, .slice a fs.length ca], I ((bt (List.drop (Int.toNat 1) (1 :: b :: r)) (Int.toNat 0) : Nat) : Int)] Gq (· = Tu [Ag [I 0, S [], S [], S []], Bo false]) := by rw [hb1]; exact cx_f0
    have hno := rkFlds_no (st := false) (ts := tys vs) (f := rk false (tys vs) n) (ty := ⟨82, nm, fs⟩) (m := m + 1) (la := lastT gs) (acc := nd61 gs) (.inr (.inr (.inr ⟨b, r, rfl, .inl hd⟩)))
    repeat' (first | refine jM ?_ | (refine jo ?_; first | refine jAl rfl ?_ | (refine jAf rfl ?_)) | (refine k_gf rfl rfl rfl ?_) | (refine k_tt rfl rfl ?_) | (refine k_ff rfl rfl ?_))
    (refine k_any (s_any (id := 14) [.blk xt (.cells (List.toArray [U8 (82 : Nat), S nm, .slice a fs.length ca]) tTyOA (0, 0))] (by intro y hy; simp only [List.mem_cons, List.not_mem_nil, or_false] at hy ⊢; simp [hy]) mixed ?_); refine jW 8 [1, 2, 3] (bts 11 14) ?_; (refine jG (bts 11 15) 0 rfl (g_ldA rfl rfl rfl rfl) ?_); refine x_all [4, 8] kR dC ⟨?_, ?_, trivial⟩; (focus (refine x_opg rfl rfl ?_; (refine c_rt rfl rfl rfl cx_fld rfl ?_); refine jK (bts 11 31) ?_; refine jW 3 [5, 6, 7] (bts 11 255) ?_; refine jA 8 rfl ?_; (refine jL fun _ => ?_); refine jK (bts 11 511) ?_; refine jA 9 rfl ?_; (refine jC rfl rfl rfl ?_); refine jK (bts 11 1023) ?_; refine jW 0 [10] (bts 11 2047) ?_; refine jQ ?_)); rotate_left 1; (focus (refine x_opg rfl rfl ?_; (refine jL fun _ => ?_); refine jK (bts 11 271) ?_; refine jA 4 rfl ?_; (refine c_rt rfl rfl rfl cx_fld rfl ?_); refine jK (bts 11 287) ?_; refine jW 2 [5, 6, 7] (bts 11 511) ?_; refine jA 9 rfl ?_; (refine jC rfl rfl rfl ?_); refine jK (bts 11 1023) ?_; refine jW 0 [10] (bts 11 2047) ?_; refine jQ ?_)); rotate_left 1)
    all_goals repeat' (first | (refine jR ?_) | (refine k_tt rfl rfl ?_))
    all_goals refine jZ (vs := [_, _, _]) rfl ⟨rfl, rfl, rfl, trivial⟩ rfl ⟨hgq, rfl, ?_⟩
    all_goals exact hnone hno rfl
   | some d =>
    rw [hd] at cx_f0
    have cx_fld : PuG Tryz.prog 89 [Ag [U8 (82 : Nat), S nm, .slice a fs.length ca], I ((bt (List.drop (Int.toNat 1) (1 :: b :: r)) (Int.toNat 0) : Nat) : Int)] Gq (· = Tu [Ag [I d.tag, S d.name, S d.kind, S d.stand], Bo true]) := by rw [hb1]; exact cx_f0
    have hdm : d ∈ fs := List.mem_of_find?_eq_some hd
    have hdk : kindIn (tys vs) d.kind = true := kind_in hw hxt (by dsimp only; omega) hdm
    have hop := hR Gq d.kind r (h.mono hgq) hdk oM
    rw [← edn] at hop
    cases hf : rk false (tys vs) n d.kind r with
    | none =>
     rw [hf] at hop
     have cx_op0 : FnS Tryz.prog 20 [Ag [u], S r, S d.kind, I (((n + 1 : Nat) : Int) - 1)] Gq (fun v _ => ∃ q1 r1, v = Tu [.pointer q1, S r1, Bo false]) := hop.mono fun v G' L' h => ⟨h.1, h.2.1, readP_none h.2.2⟩
     clear hop
     have hno2 := rkFlds_no (st := false) (ts := tys vs) (f := rk false (tys vs) n) (ty := ⟨82, nm, fs⟩) (m := m + 1) (la := lastT gs) (acc := nd61 gs) (.inr (.inr (.inr ⟨b, r, rfl, .inr ⟨d, hd, hf⟩⟩)))
     repeat' (first | refine jM ?_ | (refine jo ?_; first | refine jAl rfl ?_ | (refine jAf rfl ?_)) | (refine k_gf rfl rfl rfl ?_) | (refine k_tt rfl rfl ?_) | (refine k_ff rfl rfl ?_))
     (refine k_any (s_any (id := 14) [.blk xt (.cells (List.toArray [U8 (82 : Nat), S nm, .slice a fs.length ca]) tTyOA (0, 0))] (by intro y hy; simp only [List.mem_cons, List.not_mem_nil, or_false] at hy ⊢; simp [hy]) mixed ?_); refine jW 8 [1, 2, 3] (bts 11 14) ?_; (refine jG (bts 11 15) 0 rfl (g_ldA rfl rfl rfl rfl) ?_); refine x_all [4, 8] kR dC ⟨?_, ?_, trivial⟩; (focus (refine x_opg rfl rfl ?_; (refine c_rt rfl rfl rfl cx_fld rfl ?_); refine jK (bts 11 31) ?_; refine jW 3 [5, 6, 7] (bts 11 255) ?_; refine jA 8 rfl ?_; (refine jL fun _ => ?_); refine jK (bts 11 511) ?_; refine jA 9 rfl ?_; (refine jC rfl rfl rfl ?_); refine jK (bts 11 1023) ?_; refine jW 0 [10] (bts 11 2047) ?_; refine jQ ?_)); rotate_left 1; (focus (refine x_opg rfl rfl ?_; (refine jL fun _ => ?_); refine jK (bts 11 271) ?_; refine jA 4 rfl ?_; (refine c_rt rfl rfl rfl cx_fld rfl ?_); refine jK (bts 11 287) ?_; refine jW 2 [5, 6, 7] (bts 11 511) ?_; refine jA 9 rfl ?_; (refine jC rfl rfl rfl ?_); refine jK (bts 11 1023) ?_; refine jW 0 [10] (bts 11 2047) ?_; refine jQ ?_)); rotate_left 1)
     all_goals repeat' (first | (refine jR ?_) | (refine k_ff rfl rfl ?_))
     all_goals
      rename_i x15
      (refine k_any (s_any (id := 17) [.blk x15 (.cells (List.toArray [I d.tag, S d.name, S d.kind, S d.stand]) tFdOA (0, 0))] (by intro y hy; simp only [List.mem_cons, List.not_mem_nil, or_false] at hy ⊢; simp [hy]) mixed ?_); refine jW 7 [0, 1, 2, 3, 5] (bts 12 47) ?_; (refine jG (bts 12 111) 6 rfl (g_ld rfl rfl rfl) ?_); refine x_all [4, 7] kR dC ⟨?_, ?_, trivial⟩; (focus (refine x_opg rfl rfl ?_; (refine jAl rfl ?_); refine jK (bts 12 127) ?_; refine jA 7 rfl ?_; (refine jF fun _ => ?_); refine jK (bts 12 255) ?_; refine jA 8 rfl ?_; ((refine c_apX rfl rfl rfl rfl rfl rfl rfl rfl rfl ?_ fun _ _ => ?_; (focus ((omega); done)))); refine jK (bts 12 511) ?_; refine jW 1 [9, 10] (bts 12 2047) ?_; refine jA 11 rfl ?_; (refine jD rfl rfl rfl ?_); refine jK (bts 12 4095) ?_; refine jQ ?_)); rotate_left 1; (focus (refine x_opg rfl rfl ?_; (refine jF fun _ => ?_); refine jK (bts 12 239) ?_; refine jA 4 rfl ?_; (refine jAl rfl ?_); refine jK (bts 12 255) ?_; refine jA 8 rfl ?_; ((refine c_apX rfl rfl rfl rfl rfl rfl rfl rfl rfl ?_ fun _ _ => ?_; (focus ((omega); done)))); refine jK (bts 12 511) ?_; refine jW 1 [9, 10] (bts 12 2047) ?_; refine jA 11 rfl ?_; (refine jD rfl rfl rfl ?_); refine jK (bts 12 4095) ?_; refine jQ ?_)); rotate_left 1)
     all_goals repeat' (first | refine jM ?_ | (refine jo ?_; first | refine jAl rfl ?_ | refine jAm rfl ?_ | (refine c_fns rfl rfl rfl cx_op0 rfl ?_; rintro _ G hle ⟨q1, r1, rfl⟩; skip)) | (refine k_tt rfl rfl ?_) | (refine k_ff rfl rfl ?_))
     all_goals refine jZ (vs := [_, _, _]) rfl ⟨rfl, rfl, rfl, trivial⟩ rfl ⟨(hgq.trans hle), rfl, ?_⟩
     all_goals exact hnone hno2 rfl
    | some w =>
     obtain ⟨w, r'⟩ := w
     rw [hf] at hop
     have cx_op1 : FnS Tryz.prog 20 [Ag [u], S r, S d.kind, I (((n + 1 : Nat) : Int) - 1)] Gq (fun v G' => ∃ wb, v = Tu [Pt wb 0, S r', Bo true] ∧ RepR G' (tys vs) w d.kind wb) := hop.mono fun v G' L' h => ⟨h.1, h.2.1, readP_some h.2.2⟩
     clear hop
     have hsh := rk_len _ _ _ _ _ hf
     have hst := rkFlds_lo (ts := tys vs) (f := rk false (tys vs) n) (ty := ⟨82, nm, fs⟩) (m := m) (la := lastT gs) (acc := nd61 gs) hd hf
     have hl' : (gs ++ [(d, w)]).length = gs.length + 1 := by simp
     have hnd : nd61 (gs ++ [(d, w)]) = nd61 gs ++ [.nd 61 [] d.tag [w]] := by simp [nd61]
     have hrow1 : rows inR (gs.map fun p => p.1.tag) ++ [I d.tag] = rows inR ((gs ++ [(d, w)]).map fun p => p.1.tag) := by rw [List.map_append]; exact (rows_snoc inR _ d.tag).symm
     repeat' (first | refine jM ?_ | (refine jo ?_; first | refine jAl rfl ?_ | (refine jAf rfl ?_)) | (refine k_gf rfl rfl rfl ?_) | (refine k_tt rfl rfl ?_) | (refine k_ff rfl rfl ?_))
     (refine k_any (s_any (id := 14) [.blk xt (.cells (List.toArray [U8 (82 : Nat), S nm, .slice a fs.length ca]) tTyOA (0, 0))] (by intro y hy; simp only [List.mem_cons, List.not_mem_nil, or_false] at hy ⊢; simp [hy]) mixed ?_); refine jW 8 [1, 2, 3] (bts 11 14) ?_; (refine jG (bts 11 15) 0 rfl (g_ldA rfl rfl rfl rfl) ?_); refine x_all [4, 8] kR dC ⟨?_, ?_, trivial⟩; (focus (refine x_opg rfl rfl ?_; (refine c_rt rfl rfl rfl cx_fld rfl ?_); refine jK (bts 11 31) ?_; refine jW 3 [5, 6, 7] (bts 11 255) ?_; refine jA 8 rfl ?_; (refine jL fun _ => ?_); refine jK (bts 11 511) ?_; refine jA 9 rfl ?_; (refine jC rfl rfl rfl ?_); refine jK (bts 11 1023) ?_; refine jW 0 [10] (bts 11 2047) ?_; refine jQ ?_)); rotate_left 1; (focus (refine x_opg rfl rfl ?_; (refine jL fun _ => ?_); refine jK (bts 11 271) ?_; refine jA 4 rfl ?_; (refine c_rt rfl rfl rfl cx_fld rfl ?_); refine jK (bts 11 287) ?_; refine jW 2 [5, 6, 7] (bts 11 511) ?_; refine jA 9 rfl ?_; (refine jC rfl rfl rfl ?_); refine jK (bts 11 1023) ?_; refine jW 0 [10] (bts 11 2047) ?_; refine jQ ?_)); rotate_left 1)
     all_goals repeat' (first | (refine jR ?_) | (refine k_ff rfl rfl ?_))
     all_goals
      rename_i x15
      (refine k_any (s_any (id := 17) [.blk x15 (.cells (List.toArray [I d.tag, S d.name, S d.kind, S d.stand]) tFdOA (0, 0))] (by intro y hy; simp only [List.mem_cons, List.not_mem_nil, or_false] at hy ⊢; simp [hy]) mixed ?_); refine jW 7 [0, 1, 2, 3, 5] (bts 12 47) ?_; (refine jG (bts 12 111) 6 rfl (g_ld rfl rfl rfl) ?_); refine x_all [4, 7] kR dC ⟨?_, ?_, trivial⟩; (focus (refine x_opg rfl rfl ?_; (refine jAl rfl ?_); refine jK (bts 12 127) ?_; refine jA 7 rfl ?_; (refine jF fun _ => ?_); refine jK (bts 12 255) ?_; refine jA 8 rfl ?_; ((refine c_apX rfl rfl rfl rfl rfl rfl rfl rfl rfl ?_ fun _ _ => ?_; (focus ((omega); done)))); refine jK (bts 12 511) ?_; refine jW 1 [9, 10] (bts 12 2047) ?_; refine jA 11 rfl ?_; (refine jD rfl rfl rfl ?_); refine jK (bts 12 4095) ?_; refine jQ ?_)); rotate_left 1; (focus (refine x_opg rfl rfl ?_; (refine jF fun _ => ?_); refine jK (bts 12 239) ?_; refine jA 4 rfl ?_; (refine jAl rfl ?_); refine jK (bts 12 255) ?_; refine jA 8 rfl ?_; ((refine c_apX rfl rfl rfl rfl rfl rfl rfl rfl rfl ?_ fun _ _ => ?_; (focus ((omega); done)))); refine jK (bts 12 511) ?_; refine jW 1 [9, 10] (bts 12 2047) ?_; refine jA 11 rfl ?_; (refine jD rfl rfl rfl ?_); refine jK (bts 12 4095) ?_; refine jQ ?_)); rotate_left 1)
     all_goals repeat' (first | refine jM ?_ | (refine jo ?_; first | refine jAl rfl ?_ | refine jAm rfl ?_ | refine jD rfl rfl rfl ?_ | refine jF fun _ => ?_ | (refine c_apX rfl rfl rfl rfl rfl rfl rfl rfl rfl oM fun _ _ => ?_) | (refine c_fns rfl rfl rfl cx_op1 rfl ?_; rintro _ G hle ⟨wb, rfl, hrep⟩; skip)) | (refine k_ff rfl rfl ?_))
     all_goals
      have hgl := hgq.trans hle
      have hrow2 : rows ptR bs ++ [Pt wb 0] = rows ptR (bs ++ [wb]) := (rows_snoc ptR bs wb).symm
      have hbl' : (bs ++ [wb]).length = (gs ++ [(d, w)]).length := by simp [hbl]
      have hnth : ∀ i, i < (gs ++ [(d, w)]).length → (i < gs.length ∧ nth (gs ++ [(d, w)]) i = nth gs i ∧ nth (bs ++ [wb]) i = nth bs i) ∨ (nth (gs ++ [(d, w)]) i = (d, w) ∧ nth (bs ++ [wb]) i = wb) := fun i hi => by
       by_cases h1 : i < gs.length
       ·exact .inl ⟨h1, by rw [nth_eq hi, nth_eq h1, List.getElem_append_left h1], by rw [nth_eq oM, nth_eq oM, List.getElem_append_left oM]⟩
       ·have h2 : i = gs.length := oM
        exact .inr ⟨by rw [nth_eq hi]; simp [h2], by rw [nth_eq oM]; simp [h2, hbl]⟩
      have hfm' : ∀ i, i < (gs ++ [(d, w)]).length → (nth (gs ++ [(d, w)]) i).1 ∈ fs := fun i hi => by
       rcases hnth i hi with ⟨h1, h2, _⟩ | ⟨h2, _⟩
       ·rw [h2]; exact hfm i h1
       ·rw [h2]; exact hdm
      have hreps' : ∀ i, i < (gs ++ [(d, w)]).length → RepR G (tys vs) (nth (gs ++ [(d, w)]) i).2 (nth (gs ++ [(d, w)]) i).1.kind (nth (bs ++ [wb]) i) := fun i hi => by
       rcases hnth i hi with ⟨h1, h2, h3⟩ | ⟨h2, h3⟩
       ·rw [h2, h3]; exact (hreps i h1).mono hle
       ·rw [h2, h3]; exact hrep
      rename_i _ y1 yc1 _ y2 yc2
      rw [hrow1, hrow2]
      exact k_rd (gs ++ [(d, w)], bs ++ [wb], some ⟨y1, 0, none⟩, yc1, some ⟨y2, 0, none⟩, yc2, r', m, G) ⟨⟨⟨hbl', hfm', hreps'⟩, hgl⟩, ⟨(by dsimp only; rw [hit, hst, lastT_snoc, hnd]), (by dsimp only; omega)⟩, (by dsimp only; omega)⟩ (by dsimp only; omega) tU rfl (by rw [hl']; repeat (first | exact List.Sublist.refl _ | apply List.Sublist.cons_cons | apply List.Sublist.cons))
end Go.E
