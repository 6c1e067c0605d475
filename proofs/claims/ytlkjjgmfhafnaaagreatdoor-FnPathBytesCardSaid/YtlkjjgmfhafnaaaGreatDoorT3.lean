/- Contracts and plain laws that the statement rests on, part 3. Conditions: as each says. -/
import Derived.Test.YtlkjjgmfhafnaaaGreatDoorT2
set_option linter.unusedVariables false
set_option linter.unusedSimpArgs false
namespace Go.E
set_option maxRecDepth 20000
set_option maxHeartbeats 2000000
inductive RdK (ts : List Ty) (f : adE → adE → Option (V × adE)) : adE → adE → V → adE → Prop
 | lst0 (k r : adE) : RdK ts f (91 :: k) (91 :: 93 :: r) (.nd 91 [] 0 []) r
 | lst (k s r : adE) (vs : List V) : bj (f k) 20 s [] = some (vs,r) → RdK ts f (91 :: k) (91 :: s) (.nd 91 [] 0 vs) r
 | non (k r : adE) : RdK ts f (63 :: k) (45 :: r) (.nd 63 [] 0 []) r
 | opt (k s r : adE) (v : V) : f k s = some (v,r) → RdK ts f (63 :: k) (43 :: s) (.nd 63 [] 0 [v]) r
 | num (k s r : adE) (n : Int) : aX ts (110 :: k) = none → cq 999999 s = some (n,r) → RdK ts f (110 :: k) s (.nd 110 (a8 n) 0 []) r
 | txt (k s r : adE) (v : V) : aX ts (116 :: k) = none → dw s = some (v,r) → RdK ts f (116 :: k) s v r
 | flg (k s r : adE) (v : V) : aX ts (102 :: k) = none → er s = some (v,r) → RdK ts f (102 :: k) s v r
 | recd0 (k r : adE) (t : Ty) : aX ts k = some t → t.sort = 82 → RdK ts f k (123 :: 125 :: r) (.nd 82 [] 0 []) r
 | recd (k s r : adE) (t : Ty) (vs : List V) : aX ts k = some t → t.sort = 82 → bP ts f t (s.length + 1) 0 s [] = some (vs,r) → RdK ts f k (123 :: s) (.nd 82 [] 0 vs) r
 | enm (k s r : adE) (t : Ty) (n : Int) : aX ts k = some t → t.sort = 69 → cq 200 s = some (n,r) → (bB t.fields n).isSome = true → RdK ts f k (35 :: s) (.nd 69 [] n []) r
 | uni (k s r : adE) (t : Ty) (d : Fld) (v : V) : aX ts k = some t → t.sort ≠ 82 → t.sort ≠ 69 → aW f t s = some ((d,v),62 :: r) → RdK ts f k (60 :: s) (.nd 85 [] d.tag [v]) r
theorem qn {ts : List Ty} {f : adE → adE → Option (V × adE)} : ∀ (k s : adE) {x : V × adE},fe ts f k s = some x → RdK ts f k s x.1 x.2
 | [],_,_,e=>by cases e
 | c :: k,s,x,e=>by
  unfold fe at e
  dsimp only at e
  by_cases h91 : c.toNat = 91
  ·simp only [if_pos h91] at e
   obtain rfl:=bn h91 dC
   cases s with
   | nil=>cases e
   | cons d s' =>
    dsimp only at e
    by_cases hd : d.toNat = 91
    ·simp only [if_pos hd] at e
     obtain rfl:=bn hd dC
     cases s' with
     | nil=>cases e
     | cons e' r =>
      dsimp only at e
      by_cases he : e'.toNat = 93
      ·simp only [if_pos he,Option.some.injEq] at e;subst e
       obtain rfl:=bn he dC
       exact .lst0 _ _
      ·simp only [if_neg he] at e
       cases hf : bj (f k) 20 (e' :: r) [] with
       | none=>rw [hf] at e;cases e
       | some y =>
        rw [hf] at e
        simp only [Option.map_some,Option.some.injEq] at e;subst e
        exact .lst _ _ _ _ hf
    ·simp only [if_neg hd] at e;cases e
  ·simp only [if_neg h91] at e
   by_cases h63 : c.toNat = 63
   ·simp only [if_pos h63] at e
    obtain rfl:=bn h63 dC
    cases s with
    | nil=>cases e
    | cons d s' =>
     dsimp only at e
     by_cases hd : d.toNat = 45
     ·simp only [if_pos hd,Option.some.injEq] at e;subst e
      obtain rfl:=bn hd dC
      exact .non _ _
     ·simp only [if_neg hd] at e
      by_cases hd2 : d.toNat = 43
      ·simp only [if_pos hd2] at e
       obtain rfl:=bn hd2 dC
       cases hf : f k s' with
       | none=>rw [hf] at e;cases e
       | some y =>
        rw [hf] at e
        simp only [Option.map_some,Option.some.injEq] at e;subst e
        exact .opt _ _ _ _ hf
      ·simp only [if_neg hd2] at e;cases e
   ·simp only [if_neg h63] at e
    cases hr : aX ts (c :: k) with
    | none =>
     rw [hr] at e
     dsimp only at e
     by_cases h1 : c.toNat = 110
     ·simp only [if_pos h1] at e
      obtain rfl:=bn h1 dC
      cases hn : cq 999999 s with
      | none=>rw [hn] at e;cases e
      | some y =>
       rw [hn] at e
       simp only [Option.map_some,Option.some.injEq] at e;subst e
       exact .num _ _ _ _ hr hn
     ·simp only [if_neg h1] at e
      by_cases h2 : c.toNat = 116
      ·simp only [if_pos h2] at e
       obtain rfl:=bn h2 dC
       exact .txt _ _ _ _ hr e
      ·simp only [if_neg h2] at e
       by_cases h3 : c.toNat = 102
       ·simp only [if_pos h3] at e
        obtain rfl:=bn h3 dC
        exact .flg _ _ _ _ hr e
       ·simp only [if_neg h3] at e;cases e
    | some t =>
     rw [hr] at e
     dsimp only at e
     unfold be at e
     cases s with
     | nil=>cases e
     | cons d s =>
      dsimp only at e
      by_cases h82 : t.sort = 82
      ·simp only [if_pos h82] at e
       by_cases hd : d.toNat = 123
       ·simp only [if_pos hd] at e
        obtain rfl:=bn hd dC
        cases s with
        | nil=>cases e
        | cons d' r =>
         dsimp only at e
         by_cases hd' : d'.toNat = 125
         ·simp only [if_pos hd',Option.some.injEq] at e;subst e
          obtain rfl:=bn hd' dC
          exact .recd0 _ _ t hr h82
         ·simp only [if_neg hd'] at e
          cases hf : bP ts f t ((d' :: r).length + 1) 0 (d' :: r) [] with
          | none=>rw [hf] at e;cases e
          | some y =>
           rw [hf] at e
           simp only [Option.map_some,Option.some.injEq] at e;subst e
           exact .recd _ _ _ t _ hr h82 hf
       ·simp only [if_neg hd] at e;cases e
      ·simp only [if_neg h82] at e
       by_cases h69 : t.sort = 69
       ·simp only [if_pos h69] at e
        by_cases hd : d.toNat = 35
        ·simp only [if_pos hd] at e
         obtain rfl:=bn hd dC
         cases hn : cq 200 s with
         | none=>rw [hn] at e;cases e
         | some y =>
          rw [hn] at e
          obtain ⟨n,r⟩:=y
          dsimp only at e
          split at e
          ·rename_i hs
           simp only [Option.some.injEq] at e;subst e
           exact .enm _ _ _ t _ hr h69 hn hs
          ·cases e
        ·simp only [if_neg hd] at e;cases e
       ·simp only [if_neg h69] at e
        by_cases hd : d.toNat = 60
        ·simp only [if_pos hd] at e
         obtain rfl:=bn hd dC
         cases hf : aW f t s with
         | none=>rw [hf] at e;cases e
         | some y =>
          rw [hf] at e
          obtain ⟨⟨fd,v⟩,r⟩:=y
          cases r with
          | nil=>cases e
          | cons c' r =>
           dsimp only at e
           by_cases hc' : c'.toNat = 62
           ·simp only [if_pos hc',Option.some.injEq] at e;subst e
            obtain rfl:=bn hc' dC
            exact .uni _ _ _ t _ _ hr h82 h69 hf
           ·simp only [if_neg hc'] at e;cases e
        ·simp only [if_neg hd] at e;cases e
mutual
def V.tot : V → Nat
 | .nd _ x _ ks=>20 + x.length + V.tots ks
def V.tots : List V → Nat
 | []=>0
 | v :: r=>V.tot v + V.tots r
end
theorem dW : ∀ (a b : List V),V.tots (a ++ b) = V.tots a + V.tots b
 | [],b=>by simp [V.tots]
 | v :: a,b=>by simp only [List.cons_append,V.tots,dW a b];omega
theorem iw (v : V) : 20 ≤ v.tot:=by obtain ⟨w,x,t,ks⟩:=v;rw [V.tot];omega
theorem oy : ∀ {ks : List V} {v : V},v ∈ ks → V.tot v ≤ V.tots ks
 | u :: ks,v,h=>by
  rw [V.tots]
  rcases List.mem_cons.1 h with rfl | h
  ·omega
  ·have:=oy h;omega
theorem dq : ∀ (ks : List V),20 * ks.length ≤ V.tots ks
 | []=>by simp [V.tots]
 | u :: ks=>by rw [V.tots,List.length_cons];have:=dq ks;have:=iw u;omega
theorem fE (n : Int) : 1 ≤ (a8 n).length:=by
 by_cases h : n < 10
 ·by_cases h0 : 0 ≤ n
  ·rw [dP h h0];simp
  ·have : n.toNat = (0 : Int).toNat:=oM
   have e : a8 n = a8 0:=by unfold a8;rw [this]
   rw [e,dP dC dC];simp
 ·rw [g7 h];simp
theorem mU {top : Int} {s r : adE} {n : Int} (h : cq top s = some (n,r)) : (a8 n).length + r.length = s.length ∧ 1 ≤ (a8 n).length:=by
 have:=ky h
 exact ⟨by rw [this];simp,fE n⟩
theorem nX {f : adE → Option (V × adE)} (h : ∀ s y,f s = some y → y.1.tot + 100 * y.2.length ≤ 100 * s.length) : ∀ (m : Nat) (s : adE) (acc : List V) {x : List V × adE},bj f m s acc = some x → V.tots x.1 + 100 * (x.2.length + 1) ≤ V.tots acc + 100 * s.length
 | 0,_,_,_,e=>by cases e
 | m + 1,s,acc,x,e=>by
  unfold bj at e
  cases hf : f s with
  | none=>rw [hf] at e;cases e
  | some y =>
   rw [hf] at e
   have hy:=h s y hf
   obtain ⟨v,r⟩:=y
   cases r with
   | nil=>cases e
   | cons c r =>
    dsimp only at e hy
    have e2 : V.tots (acc ++ [v]) = V.tots acc + v.tot:=by simp [dW,V.tots]
    rw [List.length_cons] at hy
    split at e
    ·have:=nX h m r _ e
     omega
    ·split at e
     ·simp only [Option.some.injEq] at e;subst e
      dsimp only;omega
     ·cases e
theorem n4 {f : adE → adE → Option (V × adE)} (h : ∀ k s y,f k s = some y → y.1.tot + 100 * y.2.length ≤ 100 * s.length) {t : Ty} {s : adE} {x : (Fld × V) × adE} (e : aW f t s = some x) : x.1.2.tot + 100 * x.2.length + 200 ≤ 100 * s.length:=by
 unfold aW at e
 cases hn : cq 200 s with
 | none=>rw [hn] at e;cases e
 | some y =>
  rw [hn] at e
  obtain ⟨n,r⟩:=y
  obtain ⟨h1,h2⟩:=mU hn
  dsimp only at e
  cases hd : bB t.fields n with
  | none=>rw [hd] at e;cases e
  | some d =>
   rw [hd] at e
   cases r with
   | nil=>cases e
   | cons c r' =>
    dsimp only at e
    rw [List.length_cons] at h1
    by_cases hc : c.toNat = 61
    ·rw [if_pos hc] at e
     cases hf : f d.kind r' with
     | none=>rw [hf] at e;cases e
     | some y =>
      rw [hf] at e
      simp only [Option.map_some,Option.some.injEq] at e
      subst e
      have h3:=h _ _ _ hf
      dsimp only
      omega
    ·rw [if_neg hc] at e;cases e
theorem pp {ts : List Ty} {f : adE → adE → Option (V × adE)} (h : ∀ k s y,f k s = some y → y.1.tot + 100 * y.2.length ≤ 100 * s.length) {t : Ty} : ∀ (m : Nat) (last : Int) (s : adE) (acc : List V) {x : List V × adE},bP ts f t m last s acc = some x → V.tots x.1 + 100 * (x.2.length + 1) ≤ V.tots acc + 100 * s.length
 | 0,_,_,_,_,e=>by cases e
 | m + 1,last,s,acc,x,e=>by
  unfold bP at e
  cases hf : aW f t s with
  | none=>rw [hf] at e;cases e
  | some y =>
   rw [hf] at e
   have hy:=n4 h hf
   obtain ⟨⟨d,v⟩,r⟩:=y
   dsimp only at e hy
   split at e
   ·cases e
   ·cases r with
    | nil=>cases e
    | cons c r =>
     dsimp only at e
     have e2 : V.tots (acc ++ [V.nd 61 [] d.tag [v]]) = V.tots acc + (20 + v.tot):=by simp [dW,V.tots,V.tot]
     rw [List.length_cons] at hy
     split at e
     ·have:=pp h m _ r _ e
      omega
     ·split at e
      ·simp only [Option.some.injEq] at e;subst e
       dsimp only;omega
      ·cases e
theorem iW {ts : List Ty} : ∀ (n : Nat) (k s : adE) (x : V × adE),rd ts n k s = some x → x.1.tot + 100 * x.2.length ≤ 100 * s.length
 | 0,_,_,_,e=>by cases e
 | n + 1,k,s,x,e=>by
  have ih : ∀ k s y,rd ts n k s = some y → y.1.tot + 100 * y.2.length ≤ 100 * s.length:=fun k s y hy=>iW n k s y hy
  have h:=qn k s (x:=x) e
  obtain ⟨v,r⟩:=x
  dsimp only at h ⊢
  cases h with
  | lst0=>simp only [V.tot,V.tots,List.length_cons,List.length_nil];omega
  | lst k s r vs h =>
   have:=nX (ih k) _ _ _ h
   simp only [V.tot,V.tots,List.length_cons,List.length_nil] at this ⊢;omega
  | non=>simp only [V.tot,V.tots,List.length_cons,List.length_nil];omega
  | opt k s r v h =>
   have:=ih _ _ _ h
   simp only [V.tot,V.tots,List.length_cons,List.length_nil] at this ⊢;omega
  | num k s r n _ h =>
   have:=mU h
   simp only [V.tot,V.tots];omega
  | txt k s r v _ h =>
   have e1:=nW h
   have h2 : v.out.length = 2 + v.text.length ∧ v.tot = 20 + v.text.length:=by
    unfold dw at h
    split at h
    ·cases h
    ·split at h
     ·split at h
      ·split at h
       ·simp only [Option.some.injEq,Prod.mk.injEq] at h
        obtain ⟨rfl,_⟩:=h
        simp [V.out,cO,V.text,V.tot,V.tots];omega
       ·cases h
      ·cases h
     ·cases h
   rw [e1]
   simp only [List.length_append]
   omega
  | flg k s r v _ h =>
   have e1:=pu h
   have h2 : 2 ≤ v.out.length ∧ v.tot ≤ 23:=by
    unfold er at h
    split at h
    ·simp only [Option.some.injEq,Prod.mk.injEq] at h
     obtain ⟨rfl,_⟩:=h
     simp [V.out,cO,V.tot,V.tots]
    ·split at h
     ·simp only [Option.some.injEq,Prod.mk.injEq] at h
      obtain ⟨rfl,_⟩:=h
      simp [V.out,cO,V.tot,V.tots]
     ·cases h
   rw [e1]
   simp only [List.length_append]
   omega
  | recd0=>simp only [V.tot,V.tots,List.length_cons,List.length_nil];omega
  | recd k s r t vs _ _ h =>
   have:=pp ih _ _ _ _ h
   simp only [V.tot,V.tots,List.length_cons,List.length_nil] at this ⊢;omega
  | enm k s r t n _ _ h _ =>
   have:=mU h
   simp only [V.tot,V.tots,List.length_cons,List.length_nil];omega
  | uni k s r t d v _ _ _ h =>
   have:=n4 ih h
   simp only [V.tot,V.tots,List.length_cons,List.length_nil] at this ⊢;omega
def tZ (w : Nat) (x : adE) (t : Int) (ks : List V) : Prop :=
 (w = 110 ∧ ks = [] ∧ t = 0 ∧ ∃ n : Int,0 ≤ n ∧ n ≤ 999999 ∧ x = a8 n ∧ aM x 999999 = some n)
 ∨ (w = 116 ∧ ks = [] ∧ t = 0 ∧ dc (39 :: (x ++ [39])) = true)
 ∨ (w = 102 ∧ ks = [] ∧ t = 0 ∧ (x = [121,101,115] ∨ x = [110,111]))
 ∨ (w = 91 ∧ x = [] ∧ t = 0 ∧ ks.length ≤ 20 ∧ ∀ v ∈ ks,v.what ≠ 61)
 ∨ (w = 63 ∧ x = [] ∧ t = 0 ∧ ks.length ≤ 1 ∧ ∀ v ∈ ks,v.what ≠ 61)
 ∨ (w = 69 ∧ x = [] ∧ 0 ≤ t ∧ t ≤ 200 ∧ ks = [])
 ∨ (w = 85 ∧ x = [] ∧ 0 ≤ t ∧ t ≤ 200 ∧ ks.length = 1 ∧ ∀ v ∈ ks,v.what ≠ 61)
 ∨ (w = 61 ∧ x = [] ∧ 0 ≤ t ∧ t ≤ 200 ∧ ks.length = 1 ∧ ∀ v ∈ ks,v.what ≠ 61)
 ∨ (w = 82 ∧ x = [] ∧ t = 0 ∧ ks.Pairwise (fun a b=>a.tag < b.tag) ∧ ∀ v ∈ ks,v.what = 61)
mutual
def V.wf : V → Prop
 | .nd w x t ks=>tZ w x t ks ∧ V.wfs ks
def V.wfs : List V → Prop
 | []=>True
 | v :: r=>V.wf v ∧ V.wfs r
end
theorem nC : ∀ {ks : List V},V.wfs ks ↔ ∀ v ∈ ks,v.wf
 | []=>by simp [V.wfs]
 | v :: r=>by rw [V.wfs,nC (ks:=r)];simp
theorem up : ∀ (s : adE) {n m : Int},0 ≤ n → df n s = some m → 0 ≤ m
 | [],n,m,h,e=>by simp only [df,Option.some.injEq] at e;omega
 | c :: s,n,m,h,e=>by
  unfold df at e
  split at e
  ·exact up s oM e
  ·cases e
theorem ke {s : adE} {top n : Int} (h : aM s top = some n) : 0 ≤ n:=by
 unfold aM at h
 split at h
 ·split at h
  ·split at h
   ·rename_i h1 _ _ _ h2;simp only [Option.some.injEq] at h;subst h;exact up _ (Int.le_refl 0) aS
   ·cases h
  ·cases h
 ·cases h
theorem lJ {top : Int} {s r : adE} {n : Int} (h : cq top s = some (n,r)) : 0 ≤ n ∧ n ≤ top ∧ aM (a8 n) top = some n:=by
 unfold cq at h
 cases hn : aM (s.takeWhile bc) top with
 | none=>rw [hn] at h;cases h
 | some m =>
  rw [hn] at h
  simp only [Option.map_some,Option.some.injEq,Prod.mk.injEq] at h
  obtain ⟨rfl,_⟩:=h
  obtain ⟨h1,h2,_⟩:=dE hn
  exact ⟨ke hn,h1,by rw [← h2];exact hn⟩
theorem kV {f : adE → Option (V × adE)} : ∀ (m : Nat) (s : adE) (acc : List V) {x : List V × adE},bj f m s acc = some x → x.1.length ≤ acc.length + m
 | 0,_,_,_,e=>by cases e
 | m + 1,s,acc,x,e=>by
  unfold bj at e
  cases hf : f s with
  | none=>rw [hf] at e;cases e
  | some y =>
   rw [hf] at e
   obtain ⟨v,r⟩:=y
   cases r with
   | nil=>cases e
   | cons c r =>
    dsimp only at e
    split at e
    ·have:=kV m r _ e
     simp only [List.length_append,List.length_singleton] at this;omega
    ·split at e
     ·simp only [Option.some.injEq] at e;subst e
      simp only [List.length_append,List.length_singleton];omega
     ·cases e
theorem pw {f : adE → adE → Option (V × adE)} {t : Ty} {s : adE} {x : (Fld × V) × adE} (e : aW f t s = some x) : 0 ≤ x.1.1.tag ∧ x.1.1.tag ≤ 200:=by
 unfold aW at e
 cases hn : cq 200 s with
 | none=>rw [hn] at e;cases e
 | some y =>
  rw [hn] at e
  obtain ⟨n,r⟩:=y
  have h1:=lJ hn
  dsimp only at e
  cases hd : bB t.fields n with
  | none=>rw [hd] at e;cases e
  | some d =>
   rw [hd] at e
   have h2 : d.tag = n:=by have:=List.find?_some hd;simpa using this
   cases r with
   | nil=>cases e
   | cons c r' =>
    dsimp only at e
    by_cases hc : c.toNat = 61
    ·rw [if_pos hc] at e
     cases hf : f d.kind r' with
     | none=>rw [hf] at e;cases e
     | some y =>
      rw [hf] at e
      simp only [Option.map_some,Option.some.injEq] at e
      subst e
      dsimp only;omega
    ·rw [if_neg hc] at e;cases e
theorem qW {ts : List Ty} {f : adE → adE → Option (V × adE)} (h : ∀ k s y,f k s = some y → y.1.wf ∧ y.1.what ≠ 61) {t : Ty} : ∀ (m : Nat) (last : Int) (s : adE) (acc : List V) {x : List V × adE},bP ts f t m last s acc = some x → (∀ v ∈ acc,v.wf ∧ v.what = 61 ∧ v.tag ≤ last) → acc.Pairwise (fun a b=>a.tag < b.tag) → (∀ v ∈ x.1,v.wf ∧ v.what = 61) ∧ x.1.Pairwise (fun a b=>a.tag < b.tag)
 | 0,_,_,_,_,e,_,_=>by cases e
 | m + 1,last,s,acc,x,e,ha,hp=>by
  unfold bP at e
  cases hf : aW f t s with
  | none=>rw [hf] at e;cases e
  | some y =>
   rw [hf] at e
   obtain ⟨_,s',hy⟩:=fM hf
   have ht:=pw hf
   obtain ⟨⟨d,v⟩,r⟩:=y
   dsimp only at e hy ht
   obtain ⟨hv1,hv2⟩:=h _ _ _ hy
   dsimp only at hv1 hv2
   split at e
   ·cases e
   ·rename_i hd
    have hd' : last < d.tag:=oM
    have hw : V.wf (.nd 61 [] d.tag [v]):=by
     rw [V.wf]
     refine ⟨.inr (.inr (.inr (.inr (.inr (.inr (.inr (.inl ⟨F,F,ht.1,ht.2,F,?_⟩))))))),?_,trivial⟩
     ·intro u hu;simp only [List.mem_singleton] at hu;subst hu;exact hv2
     ·exact hv1
    have ha2 : ∀ u ∈ acc ++ [V.nd 61 [] d.tag [v]],u.wf ∧ u.what = 61 ∧ u.tag ≤ d.tag:=fun u hu=>by
     rcases List.mem_append.1 hu with hu | hu
     ·obtain ⟨a1,a2,a3⟩:=ha u hu;exact ⟨a1,a2,oM⟩
     ·simp only [List.mem_singleton] at hu;subst hu;exact ⟨hw,F,Int.le_refl _⟩
    have hp2 : (acc ++ [V.nd 61 [] d.tag [v]]).Pairwise (fun a b=>a.tag < b.tag):=by
     rw [List.pairwise_append]
     refine ⟨hp,List.pairwise_singleton _ _,fun a hA b hB=>?_⟩
     simp only [List.mem_singleton] at hB;subst hB
     have:=(ha a hA).2.2
     show a.tag < d.tag
     omega
    cases r with
    | nil=>cases e
    | cons c r =>
     dsimp only at e
     split at e
     ·exact qW h m _ r _ e ha2 hp2
     ·split at e
      ·simp only [Option.some.injEq] at e;subst e
       exact ⟨fun u hu=>⟨(ha2 u hu).1,(ha2 u hu).2.1⟩,hp2⟩
      ·cases e
theorem ym {ts : List Ty} : ∀ (n : Nat) (k s : adE) (x : V × adE),rd ts n k s = some x → x.1.wf ∧ x.1.what ≠ 61
 | 0,_,_,_,e=>by cases e
 | n + 1,k,s,x,e=>by
  have ih : ∀ k s y,rd ts n k s = some y → y.1.wf ∧ y.1.what ≠ 61:=fun k s y hy=>ym n k s y hy
  have h:=qn k s (x:=x) e
  obtain ⟨v,r⟩:=x
  dsimp only at h ⊢
  cases h with
  | lst0=>exact ⟨by rw [V.wf];exact ⟨.inr (.inr (.inr (.inl ⟨F,F,F,by simp,by simp⟩))),trivial⟩,by simp [V.what]⟩
  | lst k s r vs h =>
   have h1:=kV _ _ _ h
   have h2:=iO (p:=fun v=>v.wf ∧ v.what ≠ 61) (fun s y hy=>ih k s y hy) _ _ _ h (by simp)
   refine ⟨by rw [V.wf];exact ⟨.inr (.inr (.inr (.inl ⟨F,F,F,by simpa using h1,fun v hv=>(h2 v hv).2⟩))),nC.2 fun v hv=>(h2 v hv).1⟩,by simp [V.what]⟩
  | non=>exact ⟨by rw [V.wf];exact ⟨.inr (.inr (.inr (.inr (.inl ⟨F,F,F,by simp,by simp⟩)))),trivial⟩,by simp [V.what]⟩
  | opt k s r v h =>
   have h1:=ih _ _ _ h
   have h2 : ∀ u ∈ [v],u.what ≠ 61:=fun u hu=>by simp only [List.mem_singleton] at hu;subst hu;exact h1.2
   exact ⟨by rw [V.wf];exact ⟨.inr (.inr (.inr (.inr (.inl ⟨F,F,F,by simp,h2⟩)))),h1.1,trivial⟩,by simp [V.what]⟩
  | num k s r n _ h =>
   have h1:=lJ h
   exact ⟨by rw [V.wf];exact ⟨.inl ⟨F,F,F,n,h1.1,h1.2.1,F,h1.2.2⟩,trivial⟩,by simp [V.what]⟩
  | txt k s r v _ h =>
   unfold dw at h
   split at h
   ·cases h
   ·split at h
    ·split at h
     ·split at h
      ·rename_i hx
       simp only [Option.some.injEq,Prod.mk.injEq] at h
       obtain ⟨rfl,_⟩:=h
       exact ⟨by rw [V.wf];exact ⟨.inr (.inl ⟨F,F,F,hx⟩),trivial⟩,by simp [V.what]⟩
      ·cases h
     ·cases h
    ·cases h
  | flg k s r v _ h =>
   unfold er at h
   split at h
   ·simp only [Option.some.injEq,Prod.mk.injEq] at h
    obtain ⟨rfl,_⟩:=h
    exact ⟨by rw [V.wf];exact ⟨.inr (.inr (.inl ⟨F,F,F,.inl F⟩)),trivial⟩,by simp [V.what]⟩
   ·split at h
    ·simp only [Option.some.injEq,Prod.mk.injEq] at h
     obtain ⟨rfl,_⟩:=h
     exact ⟨by rw [V.wf];exact ⟨.inr (.inr (.inl ⟨F,F,F,.inr F⟩)),trivial⟩,by simp [V.what]⟩
    ·cases h
  | recd0=>exact ⟨by rw [V.wf];exact ⟨.inr (.inr (.inr (.inr (.inr (.inr (.inr (.inr ⟨F,F,F,by simp,by simp⟩))))))),trivial⟩,by simp [V.what]⟩
  | recd k s r t vs _ _ h =>
   have h1:=qW ih _ _ _ _ h (by simp) (by simp)
   exact ⟨by rw [V.wf];exact ⟨.inr (.inr (.inr (.inr (.inr (.inr (.inr (.inr ⟨F,F,F,h1.2,fun v hv=>(h1.1 v hv).2⟩))))))),nC.2 fun v hv=>(h1.1 v hv).1⟩,by simp [V.what]⟩
  | enm k s r t n _ _ h _ =>
   have h1:=lJ h
   exact ⟨by rw [V.wf];exact ⟨.inr (.inr (.inr (.inr (.inr (.inl ⟨F,F,h1.1,h1.2.1,F⟩))))),trivial⟩,by simp [V.what]⟩
  | uni k s r t d v _ _ _ h =>
   obtain ⟨_,s',hy⟩:=fM h
   have ht:=pw h
   have h1:=ih _ _ _ hy
   have h2 : ∀ u ∈ [v],u.what ≠ 61:=fun u hu=>by simp only [List.mem_singleton] at hu;subst hu;exact h1.2
   exact ⟨by rw [V.wf];exact ⟨.inr (.inr (.inr (.inr (.inr (.inr (.inl ⟨F,F,ht.1,ht.2,F,h2⟩)))))),h1.1,trivial⟩,by simp [V.what]⟩
theorem ou {ts : List Ty} {k s : adE} {v : V} (h : bV ts k s = some v) : v.wf ∧ v.what ≠ 61:=by
 unfold bV at h
 split at h
 ·split at h
  ·rename_i hr
   simp only [Option.some.injEq] at h;subst h
   exact ym _ _ _ _ hr
  ·cases h
 ·cases h
def fR (w : Nat) (x : adE) (t : Int) (k : Nat) (j : adE) : adE :=
 if w = 110 then bL ((aM x 999999).getD 0) else if w = 116 then bL x.length ++ x else if w = 102 then (if x = [121,101,115] then [1] else [0])
 else if w = 91 then bL k ++ j else if w = 63 then (if k = 0 then [0] else 1 :: j) else if w = 69 then bL t
 else if w = 85 ∨ w = 61 then bL t ++ (bL j.length ++ j) else j ++ [0]
mutual
def V.bys : V → adE
 | .nd w x t ks=>fR w x t ks.length (V.byss ks).flatten
def V.byss : List V → List adE
 | []=>[]
 | v :: r=>V.bys v :: V.byss r
end
theorem f3 (n : Int) : 1 ≤ (bL n).length:=by
 unfold bL
 rw [num]
 split <;> simp
theorem iH : ∀ ks : List V,V.byss ks = ks.map V.bys
 | []=>rfl
 | v :: r=>by rw [V.byss,iH r];rfl
theorem iI (ks : List V) : (V.byss ks).length = ks.length:=by rw [iH];simp
theorem o9 {ks : List V} {i : Nat} (h : i < ks.length) : ae (V.byss ks) i = (ae ks i).bys:=by
 rw [iH,aI (by simpa using h),aI h];simp
theorem v8 {x : adE} {top : Int} (h : 0 ≤ top) : 0 ≤ (aM x top).getD 0 ∧ (aM x top).getD 0 ≤ top:=by
 cases hn : aM x top with
 | none=>exact ⟨Int.le_refl _,h⟩
 | some n=>exact ⟨ke hn,(dE hn).1⟩
theorem ya {w : Nat} {x : adE} {t : Int} {k : Nat} {j : adE} (ht : t ≤ 999999) (hx : x.length ≤ 999999) (hk : k ≤ 999999) (hj : j.length ≤ 999999) : 1 ≤ (fR w x t k j).length ∧ (fR w x t k j).length ≤ 6 + x.length + j.length:=by
 have h0:=v8 (x:=x) (top:=999999) dC
 have h1:=cL (n:=(aM x 999999).getD 0) h0.2
 have h2:=cL (n:=x.length) oM
 have h3:=cL (n:=k) oM
 have h4:=cL ht
 have h5:=cL (n:=j.length) oM
 have g1:=f3 ((aM x 999999).getD 0)
 have g2:=f3 x.length
 have g3:=f3 k
 have g4:=f3 t
 unfold fR
 repeat' split
 all_goals ((try simp only [List.length_append,List.length_cons,List.length_nil]);omega)
theorem qh {w : Nat} {x : adE} {t : Int} {ks : List V} (h : tZ w x t ks) : 0 ≤ t ∧ t ≤ 200:=by
 unfold tZ at h
 omega
mutual
theorem j0 : ∀ v : V,v.wf → v.tot ≤ 999999 → 1 ≤ v.bys.length ∧ v.bys.length ≤ v.tot
 | .nd w x t ks,hw,hl=>by
  rw [V.wf] at hw
  rw [V.tot] at hl
  have h0:=dq ks
  have h1:=i6 ks hw.2 oM
  have h2:=ya (w:=w) (x:=x) (t:=t) (k:=ks.length) (j:=(V.byss ks).flatten) (by have:=qh hw.1;omega) oM oM oM
  rw [V.bys,V.tot];omega
theorem i6 : ∀ ks : List V,V.wfs ks → V.tots ks ≤ 999999 → (V.byss ks).flatten.length ≤ V.tots ks
 | [],_,_=>by simp [V.byss]
 | v :: r,hw,hl=>by
  rw [V.wfs] at hw
  rw [V.tots] at hl
  have h1:=j0 v hw.1 oM
  have h2:=i6 r hw.2 oM
  simp only [V.byss,List.flatten_cons,List.length_append,V.tots];omega
end
theorem kK {ks : List V} {i : Nat} (h : i < ks.length) : ((V.byss ks).take (i + 1)).flatten = ((V.byss ks).take i).flatten ++ (ae ks i).bys:=by
 rw [cr (by rw [iI];exact h),o9 h];simp
theorem kJ (ks : List V) (i : Nat) : (((V.byss ks).take i).flatten).length ≤ (V.byss ks).flatten.length:=by
 have h:=List.take_append_drop i (V.byss ks)
 have h2 : (V.byss ks).flatten = ((V.byss ks).take i).flatten ++ ((V.byss ks).drop i).flatten:=by rw [← List.flatten_append,h]
 rw [h2];simp
theorem rQ {ks : List V} (h : V.wfs ks) {i : Nat} (hi : i < ks.length) : (ae ks i).wf:=by
 rw [aI hi];exact nC.1 h _ (List.getElem_mem hi)
abbrev aV (p : Fld × V) : V:=.nd 61 [] p.1.tag [p.2]
inductive OfK (ts : List Ty) : adE → V → Prop
 | num (k : adE) (n : Int) : 0 ≤ n → n ≤ 999999 → OfK ts (110 :: k) (.nd 110 (a8 n) 0 [])
 | txt (k x : adE) : dc (39 :: (x ++ [39])) = true → OfK ts (116 :: k) (.nd 116 x 0 [])
 | flg (k x : adE) : x = [121,101,115] ∨ x = [110,111] → OfK ts (102 :: k) (.nd 102 x 0 [])
 | lst (k : adE) (ks : List V) : ks.length ≤ 20 → (∀ v ∈ ks,OfK ts k v) → OfK ts (91 :: k) (.nd 91 [] 0 ks)
 | non (k : adE) : OfK ts (63 :: k) (.nd 63 [] 0 [])
 | opt (k : adE) (v : V) : OfK ts k v → OfK ts (63 :: k) (.nd 63 [] 0 [v])
 | recd (k : adE) (t : Ty) (fs : List (Fld × V)) : aX ts k = some t → t.sort = 82 → (∀ p ∈ fs,p.1 ∈ t.fields) → (∀ p ∈ fs,OfK ts p.1.kind p.2) → (∀ p ∈ fs,p.2.out ≠ bK ts p.1) → fs.Pairwise (fun a b=>a.1.tag < b.1.tag) → OfK ts k (.nd 82 [] 0 (fs.map aV))
 | enm (k : adE) (t : Ty) (d : Fld) : aX ts k = some t → t.sort = 69 → d ∈ t.fields → OfK ts k (.nd 69 [] d.tag [])
 | uni (k : adE) (t : Ty) (d : Fld) (v : V) : aX ts k = some t → t.sort ≠ 82 → t.sort ≠ 69 → d ∈ t.fields → OfK ts d.kind v → OfK ts k (.nd 85 [] d.tag [v])
theorem qX {ts : List Ty} {f : adE → adE → Option (V × adE)} (h : ∀ k s y,f k s = some y → OfK ts k y.1) {t : Ty} : ∀ (m : Nat) (last : Int) (s : adE) (fs : List (Fld × V)) {x : List V × adE},bP ts f t m last s (fs.map aV) = some x → (∀ p ∈ fs,p.1 ∈ t.fields ∧ OfK ts p.1.kind p.2 ∧ p.2.out ≠ bK ts p.1 ∧ p.1.tag ≤ last) → fs.Pairwise (fun a b=>a.1.tag < b.1.tag) →
  ∃ gs : List (Fld × V),x.1 = gs.map aV ∧ (∀ p ∈ gs,p.1 ∈ t.fields ∧ OfK ts p.1.kind p.2 ∧ p.2.out ≠ bK ts p.1) ∧ gs.Pairwise (fun a b=>a.1.tag < b.1.tag)
 | 0,_,_,_,_,e,_,_=>by cases e
 | m + 1,last,s,fs,x,e,ha,hp=>by
  unfold bP at e
  cases hf : aW f t s with
  | none=>rw [hf] at e;cases e
  | some y =>
   rw [hf] at e
   obtain ⟨hd1,s',hy⟩:=fM hf
   obtain ⟨⟨d,v⟩,r⟩:=y
   dsimp only at e hy hd1
   have hv:=h _ _ _ hy
   dsimp only at hv
   split at e
   ·cases e
   ·rename_i hd
    have hd' : last < d.tag:=oM
    have hne : v.out ≠ bK ts d:=fun h=>hd (.inr h)
    have e2 : fs.map aV ++ [V.nd 61 [] d.tag [v]] = (fs ++ [(d,v)]).map aV:=by simp
    have ha2 : ∀ p ∈ fs ++ [(d,v)],p.1 ∈ t.fields ∧ OfK ts p.1.kind p.2 ∧ p.2.out ≠ bK ts p.1 ∧ p.1.tag ≤ d.tag:=fun p hu=>by
     rcases List.mem_append.1 hu with hu | hu
     ·obtain ⟨a1,a2,a3,a4⟩:=ha p hu;exact ⟨a1,a2,a3,oM⟩
     ·simp only [List.mem_singleton] at hu;subst hu;exact ⟨hd1,hv,hne,Int.le_refl _⟩
    have hp2 : (fs ++ [(d,v)]).Pairwise (fun a b=>a.1.tag < b.1.tag):=by
     rw [List.pairwise_append]
     refine ⟨hp,List.pairwise_singleton _ _,fun a hA b hB=>?_⟩
     simp only [List.mem_singleton] at hB;subst hB
     have:=(ha a hA).2.2.2
     show a.1.tag < d.tag
     omega
    rw [e2] at e
    cases r with
    | nil=>cases e
    | cons c r =>
     dsimp only at e
     split at e
     ·exact qX h m _ r _ e ha2 hp2
     ·split at e
      ·simp only [Option.some.injEq] at e;subst e
       exact ⟨_,F,fun p hp=>⟨(ha2 p hp).1,(ha2 p hp).2.1,(ha2 p hp).2.2.1⟩,hp2⟩
      ·cases e
theorem yn {ts : List Ty} : ∀ (n : Nat) (k s : adE) (x : V × adE),rd ts n k s = some x → OfK ts k x.1
 | 0,_,_,_,e=>by cases e
 | n + 1,k,s,x,e=>by
  have ih : ∀ k s y,rd ts n k s = some y → OfK ts k y.1:=fun k s y hy=>yn n k s y hy
  have h:=qn k s (x:=x) e
  obtain ⟨v,r⟩:=x
  dsimp only at h ⊢
  cases h with
  | lst0=>exact .lst _ _ (by simp) (by simp)
  | lst k s r vs h =>
   have h1:=kV _ _ _ h
   exact .lst _ _ (by simpa using h1) (iO (p:=fun v=>OfK ts k v) (fun s y hy=>ih k s y hy) _ _ _ h (by simp))
  | non=>exact .non _
  | opt k s r v h=>exact .opt _ _ (ih _ _ _ h)
  | num k s r n _ h=>have h1:=lJ h;exact .num _ _ h1.1 h1.2.1
  | txt k s r v _ h =>
   unfold dw at h
   split at h
   ·cases h
   ·split at h
    ·split at h
     ·split at h
      ·rename_i hx
       simp only [Option.some.injEq,Prod.mk.injEq] at h
       obtain ⟨rfl,_⟩:=h
       exact .txt _ _ hx
      ·cases h
     ·cases h
    ·cases h
  | flg k s r v _ h =>
   unfold er at h
   split at h
   ·simp only [Option.some.injEq,Prod.mk.injEq] at h
    obtain ⟨rfl,_⟩:=h
    exact .flg _ _ (.inl F)
   ·split at h
    ·simp only [Option.some.injEq,Prod.mk.injEq] at h
     obtain ⟨rfl,_⟩:=h
     exact .flg _ _ (.inr F)
    ·cases h
  | recd0 k r t h1 h2=>exact .recd _ t [] h1 h2 (by simp) (by simp) (by simp) (by simp)
  | recd k s r t vs h1 h2 h =>
   obtain ⟨gs,e1,e2,e3⟩:=qX (fs:=[]) ih _ _ _ h (by simp) (by simp)
   dsimp only at e1
   subst e1
   exact .recd _ t gs h1 h2 (fun p hp=>(e2 p hp).1) (fun p hp=>(e2 p hp).2.1) (fun p hp=>(e2 p hp).2.2) e3
  | enm k s r t n h1 h2 h h3 =>
   obtain ⟨d,hd⟩:=Option.isSome_iff_exists.1 h3
   have hdt : d.tag = n:=by have:=List.find?_some hd;simpa using this
   rw [← hdt]
   exact .enm _ t d h1 h2 (List.mem_of_find?_eq_some hd)
  | uni k s r t d v h1 h2 h3 h =>
   obtain ⟨a1,s',hy⟩:=fM h
   exact .uni _ t d v h1 h2 h3 a1 (ih _ _ _ hy)
theorem gg {ts : List Ty} {k s : adE} {v : V} (h : bV ts k s = some v) : OfK ts k v:=by
 unfold bV at h
 split at h
 ·split at h
  ·rename_i hr
   simp only [Option.some.injEq] at h;subst h
   exact yn _ _ _ _ hr
  ·cases h
 ·cases h
theorem jJ {t : Ty} (hw : TyW t) {d d' : Fld} (h1 : d ∈ t.fields) (h2 : d' ∈ t.fields) (he : d.tag = d'.tag) : d = d':=by
 have hp:=hw.asc
 obtain ⟨i,hi,rfl⟩:=List.mem_iff_getElem.1 h1
 obtain ⟨j,hj,rfl⟩:=List.mem_iff_getElem.1 h2
 rw [List.pairwise_iff_getElem] at hp
 rcases Nat.lt_trichotomy i j with h | h | h
 ·have:=(hp i j hi hj h).1;omega
 ·subst h;rfl
 ·have:=(hp j i hj hi h).1;omega
theorem dg {ts : List Ty} {k : adE} {t : Ty} {c : UInt8} {r : adE} (h : aX ts k = some t) (hk : k = c :: r) (hc : c.toNat ≠ 64) : False:=by
 subst hk
 have : bH (c :: r) = none:=by unfold bH;exact if_neg hc
 unfold aX at h
 rw [this] at h
 cases h
theorem dR {ts : List Ty} {k : adE} {u : V} {t : Ty} (h : OfK ts k u) (hr : aX ts k = some t) :
  (t.sort = 82 ∧ ∃ fs : List (Fld × V),u = .nd 82 [] 0 (fs.map aV) ∧ (∀ p ∈ fs,p.1 ∈ t.fields) ∧ (∀ p ∈ fs,OfK ts p.1.kind p.2) ∧ (∀ p ∈ fs,p.2.out ≠ bK ts p.1) ∧ fs.Pairwise (fun a b=>a.1.tag < b.1.tag))
  ∨ (t.sort = 69 ∧ ∃ d,u = .nd 69 [] d.tag [] ∧ d ∈ t.fields) ∨ (t.sort ≠ 82 ∧ t.sort ≠ 69 ∧ ∃ d v,u = .nd 85 [] d.tag [v] ∧ d ∈ t.fields ∧ OfK ts d.kind v):=by
 cases h with
 | num=>exact (dg hr F dC).elim
 | txt=>exact (dg hr F dC).elim
 | flg=>exact (dg hr F dC).elim
 | lst=>exact (dg hr F dC).elim
 | non=>exact (dg hr F dC).elim
 | opt=>exact (dg hr F dC).elim
 | recd _ t' fs g1 g2 g3 g4 g5 g6=>rw [hr] at g1;obtain rfl:=Option.some.inj g1;exact .inl ⟨g2,fs,F,g3,g4,g5,g6⟩
 | enm _ t' d g1 g2 g3=>rw [hr] at g1;obtain rfl:=Option.some.inj g1;exact .inr (.inl ⟨g2,d,F,g3⟩)
 | uni _ t' d v g1 g2 g3 g4 g5=>rw [hr] at g1;obtain rfl:=Option.some.inj g1;exact .inr (.inr ⟨g2,g3,d,v,F,g4,g5⟩)
theorem iY {ts : List Ty} {c : UInt8} {k : adE} {u : V} (h : OfK ts (c :: k) u) (hc : c.toNat ≠ 64) :
  (c.toNat = 110 ∧ ∃ n : Int,0 ≤ n ∧ n ≤ 999999 ∧ u = .nd 110 (a8 n) 0 []) ∨ (c.toNat = 116 ∧ ∃ x,dc (39 :: (x ++ [39])) = true ∧ u = .nd 116 x 0 []) ∨ (c.toNat = 102 ∧ ∃ x,(x = [121,101,115] ∨ x = [110,111]) ∧ u = .nd 102 x 0 [])
  ∨ (c.toNat = 91 ∧ ∃ ks,ks.length ≤ 20 ∧ (∀ v ∈ ks,OfK ts k v) ∧ u = .nd 91 [] 0 ks) ∨ (c.toNat = 63 ∧ (u = .nd 63 [] 0 [] ∨ ∃ v,OfK ts k v ∧ u = .nd 63 [] 0 [v])):=by
 generalize hk : c :: k = k' at h
 cases h with
 | num k n h1 h2=>injection hk with e1 e2;subst e1;exact .inl ⟨F,n,h1,h2,F⟩
 | txt k x h1=>injection hk with e1 e2;subst e1;exact .inr (.inl ⟨F,x,h1,F⟩)
 | flg k x h1=>injection hk with e1 e2;subst e1;exact .inr (.inr (.inl ⟨F,x,h1,F⟩))
 | lst k ks h1 h2=>injection hk with e1 e2;subst e1;subst e2;exact .inr (.inr (.inr (.inl ⟨F,ks,h1,h2,F⟩)))
 | non k=>injection hk with e1 e2;subst e1;exact .inr (.inr (.inr (.inr ⟨F,.inl F⟩)))
 | opt k v h1=>injection hk with e1 e2;subst e1;subst e2;exact .inr (.inr (.inr (.inr ⟨F,.inr ⟨v,h1,F⟩⟩)))
 | recd _ t' fs g1=>exact (dg g1 hk.symm hc).elim
 | enm _ t' d g1=>exact (dg g1 hk.symm hc).elim
 | uni _ t' d v g1=>exact (dg g1 hk.symm hc).elim
theorem vN {i : Int} (h : 0 ≤ i ∧ i ≤ 9) : (u8 (48 + i)).toNat = (48 + i).toNat:=by have:=fh (a:=48 + i) oM;omega
theorem rx : ∀ (s : adE) {n m : Int} {c : UInt8},df n s = some m → 48 ≤ c.toNat ∧ c.toNat ≤ 57 → df n (s ++ [c]) = some (10 * m + ((c.toNat : Int) - 48))
 | [],n,m,c,h,hc=>by simp only [df,Option.some.injEq] at h;subst h;simp only [List.nil_append,df,if_pos hc]
 | d :: s,n,m,c,h,hc=>by
  unfold df at h
  split at h
  ·rename_i hd
   have:=rx s h hc
   simp only [List.cons_append]
   unfold df
   rw [if_pos hd];exact this
  ·cases h
theorem g0 : ∀ (k : Nat) {m : Int},m.toNat ≤ k → 0 ≤ m → df 0 (a8 m) = some m ∧ ∀ c ∈ a8 m,bc c = true:=by
 intro k
 induction k with
 | zero =>
  intro m hk h0
  have : m = 0:=oM
  subst this
  rw [dP dC dC]
  exact ⟨by decide,by intro c hc;simp only [List.mem_singleton] at hc;subst hc;decide⟩
 | succ k ih =>
  intro m hk h0
  by_cases h : m < 10
  ·have hd:=vN (i:=m) oM
   have hd2 : bc (u8 (48 + m)) = true:=by unfold bc;rw [decide_eq_true_eq];omega
   rw [dP h h0]
   refine ⟨?_,fun c hc=>by simp only [List.mem_singleton] at hc;subst hc;exact hd2⟩
   unfold df df
   rw [if_pos oM];congr 1;omega
  ·obtain ⟨h1,h2⟩:=ih (m:=m / 10) oM oM
   have hd:=vN (i:=m % 10) oM
   have hd2 : bc (u8 (48 + m % 10)) = true:=by unfold bc;rw [decide_eq_true_eq];omega
   rw [g7 h]
   refine ⟨by rw [rx _ h1 oM];congr 1;omega,fun c hc=>?_⟩
   rcases List.mem_append.1 hc with hc | hc
   ·exact h2 c hc
   ·simp only [List.mem_singleton] at hc;subst hc;exact hd2
theorem gz {m : Int} (h : m ≤ 999999) : (a8 m).length ≤ 6:=uq _ 5 oM
theorem jl {m top : Int} (h0 : 0 ≤ m) (h1 : m ≤ top) (ht : top ≤ 999999) : aM (a8 m) top = some m:=by
 unfold aM
 rw [if_pos (gz oM),(g0 _ (Nat.le_refl _) h0).1]
 dsimp only
 rw [if_pos ⟨rfl,h1⟩]
def Dl (s : adE) : Prop:=∀ c r,s = c :: r → bc c = false
theorem jP {c : UInt8} {r : adE} (h : bc c = false) : Dl (c :: r):=fun d s e=>by injection e with e1 e2;subst e1;exact h
theorem lm : Dl []:=fun _ _ e=>by cases e
theorem acx : ∀ {s : adE},Dl s → s.takeWhile bc = [] ∧ s.dropWhile bc = s
 | [],_=>⟨rfl,rfl⟩
 | c :: r,h=>by have:=h c r rfl;rw [List.takeWhile_cons,List.dropWhile_cons,this];exact ⟨F,F⟩
theorem vO {p : UInt8 → Bool} : ∀ {s r : adE},(∀ c ∈ s,p c = true) → (s ++ r).takeWhile p = s ++ r.takeWhile p ∧ (s ++ r).dropWhile p = r.dropWhile p
 | [],_,_=>⟨rfl,rfl⟩
 | c :: s,r,h=>by
  obtain ⟨h1,h2⟩:=vO (s:=s) (r:=r) fun d hd=>h d (by simp [hd])
  have:=h c (by simp)
  rw [List.cons_append,List.takeWhile_cons,List.dropWhile_cons,this,if_pos rfl,if_pos rfl,h1,h2];exact ⟨F,F⟩
theorem oF {m top : Int} {r : adE} (h0 : 0 ≤ m) (h1 : m ≤ top) (ht : top ≤ 999999) (hr : Dl r) : cq top (a8 m ++ r) = some (m,r):=by
 obtain ⟨e1,e2⟩:=vO (r:=r) (g0 _ (Nat.le_refl _) h0).2
 obtain ⟨e3,e4⟩:=acx hr
 unfold cq
 rw [e1,e2,e3,e4,List.append_nil,jl h0 h1 ht];rfl
theorem ab2 {x : adE} (h : dc (39 :: (x ++ [39])) = true) : ∀ j,j < x.length → bt x j ≠ 39:=by
 intro j hj e
 unfold dc at h
 rw [decide_eq_true_eq] at h
 have h1:=h.2.2.2 (j + 1) (by simp;omega)
 rw [dQ] at h1
 have h2 : bt (x ++ [39]) j = bt x j:=by simp [bt,List.getD,List.getElem?_append_left hj]
 rw [h2,e] at h1
 rcases h1 with h1 | h1
 ·omega
 ·exact absurd h1 dC
theorem va {x r : adE} (h : dc (39 :: (x ++ [39])) = true) : dw (39 :: (x ++ 39 :: r)) = some (.nd 116 x 0 [],r):=by
 have hc : aJ 39 (x ++ 39 :: r) = (x,r,true):=by
  have h1:=nN (k:=39) (s:=x ++ 39 :: r) (i:=x.length) (by simp) (fun j hj=>by
   have:=ab2 h j hj
   have h2 : bt (x ++ 39 :: r) j = bt x j:=by simp [bt,List.getD,List.getElem?_append_left hj]
   rw [h2];exact this) (by simp [bt,List.getD])
  rw [h1]
  congr 1
  ·exact List.take_left
  ·congr 1
   rw [show x.length + 1 = (x ++ [39]).length by simp,show x ++ 39 :: r = (x ++ [39]) ++ r by simp,List.drop_left]
 unfold dw
 dsimp only
 rw [if_pos dC,hc]
 dsimp only
 rw [if_pos h]
theorem vY {x r : adE} (h : x = [121,101,115] ∨ x = [110,111]) : er (x ++ r) = some (.nd 102 x 0 [],r):=by
 unfold er
 rcases h with rfl | rfl
 ·rw [if_pos (by simp [List.isPrefixOf])];rfl
 ·rw [if_neg (by simp [List.isPrefixOf]),if_pos (by simp [List.isPrefixOf])];rfl
theorem po {f : adE → Option (V × adE)} {rest : adE} : ∀ (ks : List V) (m : Nat) (acc : List V),ks ≠ [] → ks.length ≤ m → (∀ v ∈ ks,∀ r,Dl r → f (v.out ++ r) = some (v,r)) → bj f m (aO 44 (ks.map V.out) ++ 93 :: rest) acc = some (acc ++ ks,rest)
 | [],_,_,h,_,_=>absurd rfl h
 | [v],m,acc,_,hm,hf=>by
  obtain ⟨m,rfl⟩ : ∃ n,m = n + 1:=⟨m - 1,by simp at hm;omega⟩
  unfold bj
  simp only [List.map_cons,List.map_nil,aO]
  rw [hf v (by simp) _ (jP dC)]
  dsimp only
  rw [if_neg dC,if_pos dC]
 | v :: u :: ks,m,acc,_,hm,hf=>by
  obtain ⟨m,rfl⟩ : ∃ n,m = n + 1:=⟨m - 1,by simp at hm;omega⟩
  have ih:=po (rest:=rest) (u :: ks) m (acc ++ [v]) (by simp) (by simp at hm ⊢;omega) fun w hw=>hf w (by simp [hw])
  unfold bj
  simp only [List.map_cons,aO,List.append_assoc,List.cons_append] at ih ⊢
  rw [hf v (by simp) _ (jP dC)]
  dsimp only
  rw [if_pos dC,ih]
  simp
theorem ga {t : Ty} (hw : TyW t) {d : Fld} (h : d ∈ t.fields) : bB t.fields d.tag = some d:=by
 cases e : bB t.fields d.tag with
 | none=>have:=(List.find?_eq_none.1 e) d h;simp at this
 | some d' =>
  have h1 : d'.tag = d.tag:=by have:=List.find?_some e;simpa using this
  rw [jJ hw (List.mem_of_find?_eq_some e) h h1]
theorem lK {f : adE → adE → Option (V × adE)} {t : Ty} (hw : TyW t) {d : Fld} {v : V} {r : adE} (h : d ∈ t.fields) (hf : f d.kind (v.out ++ r) = some (v,r)) : aW f t (a8 d.tag ++ 61 :: (v.out ++ r)) = some ((d,v),r):=by
 have ht:=(hw.fld d h).tag
 unfold aW
 rw [oF oM ht.2 dC (jP dC)]
 dsimp only
 rw [ga hw h]
 dsimp only
 rw [if_pos dC,hf];rfl
theorem qY {ts : List Ty} {f : adE → adE → Option (V × adE)} {t : Ty} (hw : TyW t) {rest : adE} : ∀ (fs : List (Fld × V)) (m : Nat) (last : Int) (acc : List V),fs ≠ [] → fs.length ≤ m → (∀ p ∈ fs,p.1 ∈ t.fields ∧ p.2.out ≠ bK ts p.1 ∧ last < p.1.tag ∧ ∀ r,Dl r → f p.1.kind (p.2.out ++ r) = some (p.2,r)) → fs.Pairwise (fun a b=>a.1.tag < b.1.tag) →
  bP ts f t m last (aO 44 ((fs.map aV).map V.out) ++ 125 :: rest) acc = some (acc ++ fs.map aV,rest)
 | [],_,_,_,h,_,_,_=>absurd rfl h
 | [p],m,last,acc,_,hm,hf,_=>by
  obtain ⟨m,rfl⟩ : ∃ n,m = n + 1:=⟨m - 1,by simp at hm;omega⟩
  obtain ⟨h1,h2,h3,h4⟩:=hf p (by simp)
  unfold bP
  simp only [List.map_cons,List.map_nil,aO,aV,fN,List.append_assoc,List.cons_append]
  rw [lK hw h1 (h4 _ (jP dC))]
  dsimp only
  rw [if_neg (by rintro (h | h);omega;exact h2 h),if_neg dC,if_pos dC]
 | p :: q :: fs,m,last,acc,_,hm,hf,hp=>by
  obtain ⟨m,rfl⟩ : ∃ n,m = n + 1:=⟨m - 1,by simp at hm;omega⟩
  obtain ⟨h1,h2,h3,h4⟩:=hf p (by simp)
  rw [List.pairwise_cons] at hp
  have ih:=qY (ts:=ts) (f:=f) hw (rest:=rest) (q :: fs) m p.1.tag (acc ++ [aV p]) (by simp) (by simp at hm ⊢;omega) (fun w hw=>⟨(hf w (by simp [hw])).1,(hf w (by simp [hw])).2.1,hp.1 w hw,(hf w (by simp [hw])).2.2.2⟩) hp.2
  unfold bP
  simp only [List.map_cons,aO,fN,List.append_assoc,List.cons_append] at ih ⊢
  rw [lK hw h1 (h4 _ (jP dC))]
  dsimp only
  rw [if_neg (by rintro (h | h);omega;exact h2 h),if_pos dC,ih]
  simp
theorem ry {m : Int} (h : 0 ≤ m) : ∃ c r,a8 m = c :: r ∧ bc c = true:=by
 cases e : a8 m with
 | nil=>have:=fE m;rw [e] at this;simp at this
 | cons c r=>exact ⟨c,r,F,(g0 _ (Nat.le_refl _) h).2 c (by rw [e];simp)⟩
theorem vx {c : UInt8} (h : bc c = true) : 48 ≤ c.toNat ∧ c.toNat ≤ 57:=by unfold bc at h;rwa [decide_eq_true_eq] at h
theorem xx {ts : List Ty} {k : adE} {v : V} (h : OfK ts k v) : ∃ c r,v.out = c :: r ∧ c.toNat ≠ 93:=by
 cases h with
 | num k n h1 h2=>obtain ⟨c,r,e,hc⟩:=ry h1;have:=vx hc;exact ⟨c,r,by rw [V.out];exact e,oM⟩
 | txt k x=>exact ⟨39,_,by rw [V.out];rfl,by decide⟩
 | flg k x h=>rcases h with rfl | rfl;exact ⟨121,_,by rw [V.out];rfl,by decide⟩;exact ⟨110,_,by rw [V.out];rfl,by decide⟩
 | lst=>exact ⟨91,_,by rw [V.out];rfl,by decide⟩
 | non=>exact ⟨45,_,by rw [V.out];rfl,by decide⟩
 | opt=>exact ⟨43,_,by rw [V.out];rfl,by decide⟩
 | recd=>exact ⟨123,_,by rw [V.out];rfl,by decide⟩
 | enm=>exact ⟨35,_,by rw [V.out];rfl,by decide⟩
 | uni=>exact ⟨60,_,by rw [V.out];rfl,by decide⟩
theorem lI {ts : List Ty} (hw : SchW ts) : ∀ (n : Nat) {k : adE} {v : V},OfK ts k v → v.deep ≤ n → ∀ r,Dl r → rd ts n k (v.out ++ r) = some (v,r)
 | 0,k,v,h,hd,r,hr=>by
  obtain ⟨w,x,t,ks⟩:=v
  have hne : w ≠ 61:=by cases h <;> decide
  rw [cy hne] at hd;omega
 | n + 1,k,v,h,hd,r,hr=>by
  have ih:=fun {k : adE} {v : V}=>lI hw n (k:=k) (v:=v)
  show fe ts (rd ts n) k (v.out ++ r) = some (v,r)
  cases h with
  | num k m h1 h2 =>
   have e : V.out (.nd 110 (a8 m) 0 []) = a8 m:=by rw [V.out];rfl
   have hrf : aX ts (110 :: k) = none:=by cases h : aX ts (110 :: k) with | none=>rfl | some t=>exact (dg h F dC).elim
   rw [e]
   unfold fe
   try dsimp only
   rw [if_neg dC,if_neg dC,hrf]
   try dsimp only
   rw [if_pos dC,oF h1 h2 dC hr];rfl
  | txt k x h1 =>
   have e : V.out (.nd 116 x 0 []) ++ r = 39 :: (x ++ 39 :: r):=by rw [V.out];simp [cO]
   have hrf : aX ts (116 :: k) = none:=by cases h : aX ts (116 :: k) with | none=>rfl | some t=>exact (dg h F dC).elim
   rw [e]
   unfold fe
   try dsimp only
   rw [if_neg dC,if_neg dC,hrf]
   try dsimp only
   rw [if_neg dC,if_pos dC,va h1]
  | flg k x h1 =>
   have e : V.out (.nd 102 x 0 []) = x:=by rw [V.out];rfl
   have hrf : aX ts (102 :: k) = none:=by cases h : aX ts (102 :: k) with | none=>rfl | some t=>exact (dg h F dC).elim
   rw [e]
   unfold fe
   try dsimp only
   rw [if_neg dC,if_neg dC,hrf]
   try dsimp only
   rw [if_neg dC,if_neg dC,if_pos dC,vY h1]
  | lst k ks h1 h2 =>
   rw [cy dC] at hd
   rw [oL]
   unfold fe
   try dsimp only
   rw [if_pos dC]
   try dsimp only
   rw [if_pos dC]
   cases ks with
   | nil=>simp only [List.map_nil,aO,List.nil_append];rw [if_pos dC]
   | cons v ks =>
    have hI:=po (f:=rd ts n k) (rest:=r) (v :: ks) 20 [] (by simp) h1 fun u hu r hr=>ih (h2 u hu) (by have:=V.deep_mem hu;omega) r hr
    obtain ⟨c,s,e1,e2⟩:=xx (h2 v (by simp))
    cases hj : aO 44 ((v :: ks).map V.out) ++ 93 :: r with
    | nil=>simp at hj
    | cons c' s' =>
     have hc' : c' = c:=by
      have : ∃ s2,aO 44 ((v :: ks).map V.out) ++ 93 :: r = c :: s2:=by
       cases ks with
       | nil=>simp only [List.map_cons,List.map_nil,aO,e1,List.cons_append];exact ⟨_,F⟩
       | cons u ks=>simp only [List.map_cons,aO,e1,List.cons_append];exact ⟨_,F⟩
      obtain ⟨s2,h3⟩:=this
      rw [hj] at h3;injection h3
     try dsimp only
     rw [if_neg (by rw [hc'];exact e2),← hj,hI];rfl
  | non k =>
   have e : V.out (.nd 63 [] 0 []) ++ r = 45 :: r:=by rw [V.out];rfl
   rw [e]
   unfold fe
   try dsimp only
   rw [if_neg dC,if_pos dC]
   try dsimp only
   rw [if_pos dC]
  | opt k v h1 =>
   rw [cy dC] at hd
   have hd2 : v.deep ≤ n:=by have:=V.deep_mem (ks:=[v]) (v:=v) (by simp);omega
   rw [ud]
   unfold fe
   try dsimp only
   rw [if_neg dC,if_pos dC]
   try dsimp only
   rw [if_neg dC,if_pos dC,ih h1 hd2 r hr];rfl
  | recd k t fs h1 h2 h3 h4 h5 h6 =>
   rw [cy dC] at hd
   have hk : ∃ k',k = 64 :: k':=by
    cases k with
    | nil=>simp [aX,bH] at h1
    | cons c k' =>
     by_cases h64 : c.toNat = 64
     ·exact ⟨k',by rw [show c = 64 from UInt8.toNat_inj.1 h64]⟩
     ·exact (dg h1 F h64).elim
   obtain ⟨k',rfl⟩:=hk
   rw [qr]
   unfold fe
   try dsimp only
   rw [if_neg dC,if_neg dC,h1]
   try dsimp only
   unfold be
   dsimp only
   rw [if_pos h2,if_pos dC]
   cases fs with
   | nil=>simp only [List.map_nil,aO,List.nil_append];rw [if_pos dC]
   | cons p fs =>
    have hlen : (p :: fs).length ≤ (aO 44 (((p :: fs).map aV).map V.out) ++ 125 :: r).length + 1:=by
     have h7 : ∀ xs : List adE,(∀ x ∈ xs,1 ≤ x.length) → xs.length ≤ (aO 44 xs).length:=by
      intro xs
      induction xs with
      | nil=>intro _;simp
      | cons x xs ihx =>
       intro hx
       have hx1:=hx x (by simp)
       have ihx:=ihx fun y hy=>hx y (by simp [hy])
       cases xs with
       | nil=>simp only [aO,List.length_cons,List.length_nil];omega
       | cons y xs=>simp only [aO,List.length_append,List.length_cons] at ihx ⊢;omega
     have h8:=h7 (((p :: fs).map aV).map V.out) (fun x hx=>by
      obtain ⟨v,hv,rfl⟩:=List.mem_map.1 hx
      obtain ⟨q,hq,rfl⟩:=List.mem_map.1 hv
      rw [fN];simp;omega)
     simp only [List.length_map] at h8
     simp only [List.length_append,List.length_cons]
     simp only [List.length_cons] at h8
     omega
    have hI:=qY (ts:=ts) (f:=rd ts n) (hw.ty t (bi h1)) (rest:=r) (p :: fs) ((aO 44 (((p :: fs).map aV).map V.out) ++ 125 :: r).length + 1) 0 [] (by simp) hlen (fun q hq=>⟨h3 q hq,h5 q hq,by have:=((hw.ty t (bi h1)).fld _ (h3 q hq)).tag;omega,fun r hr=>ih (h4 q hq) (by
     have:=V.deep_mem (ks:=(p :: fs).map aV) (v:=aV q) (List.mem_map.2 ⟨q,hq,rfl⟩)
     rw [show V.deep (aV q) = V.deep q.2 from l6] at this
     omega) r hr⟩) h6
    obtain ⟨c,s,e1,e2⟩:=ry (m:=p.1.tag) (by have:=((hw.ty t (bi h1)).fld _ (h3 p (by simp))).tag;omega)
    have he2:=vx e2
    cases hj : aO 44 (((p :: fs).map aV).map V.out) ++ 125 :: r with
    | nil=>simp at hj
    | cons c' s' =>
     have hc' : c' = c:=by
      have : ∃ s2,aO 44 (((p :: fs).map aV).map V.out) ++ 125 :: r = c :: s2:=by
       cases fs with
       | nil=>simp only [List.map_cons,List.map_nil,aO,fN,e1,List.cons_append];exact ⟨_,F⟩
       | cons u ks=>simp only [List.map_cons,aO,fN,e1,List.cons_append];exact ⟨_,F⟩
      obtain ⟨s2,h3⟩:=this
      rw [hj] at h3;injection h3
     try dsimp only
     rw [if_neg (by rw [hc'];omega),← hj,hI];rfl
  | enm k t d h1 h2 h3 =>
   have hk : ∃ k',k = 64 :: k':=by
    cases k with
    | nil=>simp [aX,bH] at h1
    | cons c k' =>
     by_cases h64 : c.toNat = 64
     ·exact ⟨k',by rw [show c = 64 from UInt8.toNat_inj.1 h64]⟩
     ·exact (dg h1 F h64).elim
   obtain ⟨k',rfl⟩:=hk
   have ht:=((hw.ty t (bi h1)).fld d h3).tag
   have e : V.out (.nd 69 [] d.tag []) ++ r = 35 :: (a8 d.tag ++ r):=by rw [V.out];rfl
   rw [e]
   unfold fe
   try dsimp only
   rw [if_neg dC,if_neg dC,h1]
   try dsimp only
   unfold be
   dsimp only
   rw [if_neg oM,if_pos h2,if_pos dC,oF oM ht.2 dC hr]
   try dsimp only
   rw [ga (hw.ty t (bi h1)) h3,if_pos (by simp)]
  | uni k t d v h1 h2 h3 h4 h5 =>
   rw [cy dC] at hd
   have hd2 : v.deep ≤ n:=by have:=V.deep_mem (ks:=[v]) (v:=v) (by simp);omega
   have hk : ∃ k',k = 64 :: k':=by
    cases k with
    | nil=>simp [aX,bH] at h1
    | cons c k' =>
     by_cases h64 : c.toNat = 64
     ·exact ⟨k',by rw [show c = 64 from UInt8.toNat_inj.1 h64]⟩
     ·exact (dg h1 F h64).elim
   obtain ⟨k',rfl⟩:=hk
   rw [qp]
   unfold fe
   try dsimp only
   rw [if_neg dC,if_neg dC,h1]
   try dsimp only
   unfold be
   dsimp only
   rw [if_neg h2,if_neg h3,if_pos dC,lK (hw.ty t (bi h1)) h4 (ih h5 hd2 _ (jP dC))]
   try dsimp only
   rw [if_pos dC]
theorem iu {ts : List Ty} (hw : SchW ts) {k : adE} {v : V} (h : OfK ts k v) (hl : v.out.length ≤ 400) (hd : v.deep ≤ 12) : bV ts k v.out = some v:=by
 have h1:=lI hw 12 h hd [] lm
 rw [List.append_nil] at h1
 unfold bV
 rw [if_pos hl,h1]
theorem tH {ts : List Ty} (hw : SchW ts) {k : adE} {v : V} (h : OfK ts k v) (hn : ¬ (v.out.length ≤ 400 ∧ v.deep ≤ 12)) : bV ts k v.out = none:=by
 cases hv : bV ts k v.out with
 | none=>rfl
 | some u =>
  obtain ⟨h1,h2,h3⟩:=mE hv
  have hu:=gg hv
  have hd : v.deep ≤ max v.deep 12:=Nat.le_max_left _ _
  have h4:=lI hw (max v.deep 12) h hd [] lm
  have h5:=lI hw (max v.deep 12) hu (Nat.le_trans h3 (Nat.le_max_right _ _)) [] lm
  rw [List.append_nil] at h4 h5
  rw [h1,h4] at h5
  have:=(Prod.mk.inj (Option.some.inj h5)).1
  subst this
  exact absurd ⟨h2,h3⟩ hn
def gl (m : Nat) : adE → Option (Int × adE)
 | []=>none
 | c :: r=>if c.toNat < 128 then (if c.toNat = 0 ∨ 999999 < m + c.toNat * 16384 then none else some (((m + c.toNat * 16384 : Nat) : Int),r)) else none
def gC (m : Nat) : adE → Option (Int × adE)
 | []=>none
 | b :: r=>if b.toNat < 128 then (if b.toNat = 0 then none else some (((m + b.toNat * 128 : Nat) : Int),r)) else gl (m + b.toNat % 128 * 128) r
def bI : adE → Option (Int × adE)
 | []=>none
 | a :: r=>if a.toNat < 128 then some ((a.toNat : Int),r) else gC (a.toNat % 128) r
theorem jv {n : Int} (h0 : 0 ≤ n) (h1 : n ≤ 999999) (r : adE) : bI (bL n ++ r) = some (n,r):=by
 by_cases h2 : n < 128
 ·have e:=fh (a:=n) oM
  rw [gj h2 h0,List.singleton_append,bI,if_pos oM,e]
 ·have e:=fh (a:=128 + n % 128) oM
  rw [iA h2]
  by_cases h3 : n / 128 < 128
  ·have e2:=fh (a:=n / 128) oM
   rw [gj h3 oM]
   simp only [List.cons_append,List.nil_append]
   rw [bI,if_neg oM,gC,if_pos oM,if_neg oM]
   congr 2
   omega
  ·have e2:=fh (a:=128 + n / 128 % 128) oM
   have e3:=fh (a:=n / 128 / 128) oM
   rw [iA h3,gj oM oM]
   simp only [List.cons_append,List.nil_append]
   rw [bI,if_neg oM,gC,if_neg oM,gl,if_pos oM,if_neg oM]
   congr 2
   omega
theorem di {s r : adE} {n : Int} (h : bI s = some (n,r)) : 0 ≤ n ∧ n ≤ 999999 ∧ s = bL n ++ r:=by
 cases s with
 | nil=>cases h
 | cons a s =>
  rw [bI] at h
  have ha:=a.toNat_lt
  split at h
  ·simp only [Option.some.injEq,Prod.mk.injEq] at h
   obtain ⟨rfl,rfl⟩:=h
   refine ⟨oM,oM,?_⟩
   rw [gj oM oM,iv];rfl
  ·cases s with
   | nil=>cases h
   | cons b s =>
    rw [gC] at h
    have hb:=b.toNat_lt
    split at h
    ·split at h
     ·cases h
     ·simp only [Option.some.injEq,Prod.mk.injEq] at h
      obtain ⟨rfl,rfl⟩:=h
      refine ⟨oM,oM,?_⟩
      rw [iA oM,gj oM oM]
      rw [show (128 + ((a.toNat % 128 + b.toNat * 128 : Nat) : Int) % 128) = (a.toNat : Int) by omega,show ((a.toNat % 128 + b.toNat * 128 : Nat) : Int) / 128 = (b.toNat : Int) by omega,iv,iv];rfl
    ·cases s with
     | nil=>cases h
     | cons c s =>
      rw [gl] at h
      have hc:=c.toNat_lt
      split at h
      ·split at h
       ·cases h
       ·simp only [Option.some.injEq,Prod.mk.injEq] at h
        obtain ⟨rfl,rfl⟩:=h
        refine ⟨oM,oM,?_⟩
        rw [iA oM,iA oM,gj oM oM]
        rw [show (128 + ((a.toNat % 128 + b.toNat % 128 * 128 + c.toNat * 16384 : Nat) : Int) % 128) = (a.toNat : Int) by omega,
         show (128 + ((a.toNat % 128 + b.toNat % 128 * 128 + c.toNat * 16384 : Nat) : Int) / 128 % 128) = (b.toNat : Int) by omega,
         show ((a.toNat % 128 + b.toNat % 128 * 128 + c.toNat * 16384 : Nat) : Int) / 128 / 128 = (c.toNat : Int) by omega,iv,iv,iv];rfl
      ·cases h
theorem ce {s r : adE} {n : Int} (h : bI s = some (n,r)) : r.length < s.length:=by
 obtain ⟨_,_,rfl⟩:=di h
 have:=f3 n
 simp;omega
def cx (s : adE) : Option (adE × adE):=match bI s with
 | none=>none
 | some (n,r)=>if n.toNat ≤ r.length then some (r.take n.toNat,r.drop n.toNat) else none
theorem mY {x r : adE} (h : x.length ≤ 999999) : cx (bL x.length ++ (x ++ r)) = some (x,r):=by
 unfold cx
 rw [jv oM oM]
 dsimp only
 rw [if_pos (by simp),Int.toNat_natCast,List.take_left,List.drop_left]
theorem vd {s x r : adE} (h : cx s = some (x,r)) : x.length ≤ 999999 ∧ s = bL x.length ++ (x ++ r):=by
 unfold cx at h
 split at h
 ·cases h
 ·rename_i n q hn
  obtain ⟨h0,h1,rfl⟩:=di hn
  split at h
  ·rename_i hl
   simp only [Option.some.injEq,Prod.mk.injEq] at h
   obtain ⟨rfl,rfl⟩:=h
   have e : ((List.take n.toNat q).length : Int) = n:=by rw [List.length_take];omega
   exact ⟨oM,by rw [e,List.take_append_drop]⟩
  ·cases h
theorem eB {s x r : adE} (h : cx s = some (x,r)) : r.length + x.length < s.length:=by
 obtain ⟨_,rfl⟩:=vd h
 have:=f3 x.length
 simp;omega
def bO (f : adE → Option (V × adE)) : Nat → adE → List V → Option (List V × adE)
 | 0,s,acc=>some (acc,s)
 | m + 1,s,acc=>match f s with
  | none=>none
  | some (v,r)=>bO f m r (acc ++ [v])
def cU (f : adE → adE → Option (V × adE)) (k p : adE) : Option V:=match f k p with
 | some (v,[])=>some v
 | _=>none
def bS (ts : List Ty) (f : adE → adE → Option (V × adE)) (t : Ty) : Nat → Int → adE → List V → Option (List V × adE)
 | 0,_,_,_=>none
 | m + 1,last,s,acc=>match bI s with
  | none=>none
  | some (n,r)=>if n = 0 then some (acc,r) else match cx r with
   | none=>none
   | some (p,r')=>if n ≤ last then none else match bB t.fields n with
    | none=>bS ts f t m n r' acc
    | some d=>match cU f d.kind p with
     | none=>none
     | some v=>bS ts f t m n r' (if v.out = bK ts d then acc else acc ++ [.nd 61 [] d.tag [v]])
def b8 (ts : List Ty) (f : adE → adE → Option (V × adE)) (t : Ty) (s : adE) : Option (V × adE) :=
 if t.sort = 82 then (bS ts f t (s.length + 1) 0 s []).map fun x=>(.nd 82 [] 0 x.1,x.2) else match bI s with
  | none=>none
  | some (n,r)=>match bB t.fields n with
   | none=>none
   | some d=>if t.sort = 69 then some (.nd 69 [] d.tag [],r) else match cx r with
    | none=>none
    | some (p,r')=>(cU f d.kind p).map fun v=>(.nd 85 [] d.tag [v],r')
def cI : adE → Option (Bool × adE)
 | []=>none
 | b :: r=>if b.toNat = 0 then some (false,r) else if b.toNat = 1 then some (true,r) else none
def fT (ts : List Ty) (f : adE → adE → Option (V × adE)) : adE → adE → Option (V × adE)
 | [],_=>none
 | c :: k,s =>
  if c.toNat = 91 then (match bI s with
   | none=>none
   | some (n,r)=>if n ≤ 20 then (bO (f k) n.toNat r []).map fun x=>(.nd 91 [] 0 x.1,x.2) else none)
  else if c.toNat = 63 then (match cI s with
   | none=>none
   | some (false,r)=>some (.nd 63 [] 0 [],r)
   | some (true,r)=>(f k r).map fun x=>(.nd 63 [] 0 [x.1],x.2))
  else match aX ts (c :: k) with
   | some t=>b8 ts f t s
   | none=>if c.toNat = 110 then (bI s).map fun x=>(.nd 110 (a8 x.1) 0 [],x.2)
    else if c.toNat = 116 then (match cx s with
     | none=>none
     | some (p,r)=>if dc (39 :: (p ++ [39])) = true then some (.nd 116 p 0 [],r) else none)
    else if c.toNat = 102 then (cI s).map fun x=>(.nd 102 (if x.1 = true then [121,101,115] else [110,111]) 0 [],x.2) else none
def rb (ts : List Ty) : Nat → adE → adE → Option (V × adE)
 | 0,_,_=>none
 | n + 1,k,s=>fT ts (rb ts n) k s
theorem n8 {f : adE → Option (V × adE)} {p : V → Prop} (h : ∀ s y,f s = some y → p y.1) : ∀ (m : Nat) (s : adE) (acc : List V) {x : List V × adE},bO f m s acc = some x → (∀ v ∈ acc,p v) → (∀ v ∈ x.1,p v) ∧ x.1.length = acc.length + m
 | 0,s,acc,x,e,ha=>by simp only [bO,Option.some.injEq] at e;subst e;exact ⟨ha,F⟩
 | m + 1,s,acc,x,e,ha=>by
  unfold bO at e
  cases hf : f s with
  | none=>rw [hf] at e;cases e
  | some y =>
   rw [hf] at e
   obtain ⟨v,r⟩:=y
   have:=n8 h m r _ e (fun u hu=>by
    rcases List.mem_append.1 hu with hu | hu
    ·exact ha u hu
    ·simp only [List.mem_singleton] at hu;subst hu;exact h _ _ hf)
   exact ⟨this.1,by rw [this.2,List.length_append,List.length_singleton];omega⟩
theorem cS {f : adE → adE → Option (V × adE)} {k p : adE} {v : V} (h : cU f k p = some v) : f k p = some (v,[]):=by
 unfold cU at h
 split at h
 ·rename_i u hu;rw [hu];simp only [Option.some.injEq] at h;subst h;rfl
 ·cases h
theorem i4 {fs : List Fld} {n : Int} {d : Fld} (h : bB fs n = some d) : d.tag = n ∧ d ∈ fs:=⟨by have:=List.find?_some h;simpa using this,List.mem_of_find?_eq_some h⟩
theorem kz {ts : List Ty} {f : adE → adE → Option (V × adE)} {q : adE → V → Prop} (h : ∀ k s y,f k s = some y → q k y.1) {t : Ty} : ∀ (m : Nat) (last : Int) (s : adE) (fs : List (Fld × V)) {x : List V × adE},bS ts f t m last s (fs.map aV) = some x → (∀ p ∈ fs,p.1 ∈ t.fields ∧ q p.1.kind p.2 ∧ p.2.out ≠ bK ts p.1 ∧ p.1.tag ≤ last) → fs.Pairwise (fun a b=>a.1.tag < b.1.tag) →
  ∃ gs : List (Fld × V),x.1 = gs.map aV ∧ (∀ p ∈ gs,p.1 ∈ t.fields ∧ q p.1.kind p.2 ∧ p.2.out ≠ bK ts p.1) ∧ gs.Pairwise (fun a b=>a.1.tag < b.1.tag)
 | 0,_,_,_,_,e,_,_=>by cases e
 | m + 1,last,s,fs,x,e,ha,hp=>by
  unfold bS at e
  cases hn : bI s with
  | none=>rw [hn] at e;cases e
  | some y =>
   rw [hn] at e
   obtain ⟨n,r⟩:=y
   dsimp only at e
   split at e
   ·simp only [Option.some.injEq] at e;subst e
    exact ⟨fs,F,fun p hp=>⟨(ha p hp).1,(ha p hp).2.1,(ha p hp).2.2.1⟩,hp⟩
   ·split at e
    ·cases e
    ·split at e
     ·cases e
     ·rename_i hl
      have ha1 : ∀ p ∈ fs,p.1 ∈ t.fields ∧ q p.1.kind p.2 ∧ p.2.out ≠ bK ts p.1 ∧ p.1.tag ≤ n:=fun p hp=>by
       obtain ⟨a1,a2,a3,a4⟩:=ha p hp;exact ⟨a1,a2,a3,oM⟩
      split at e
      ·exact kz h m n _ fs e ha1 hp
      ·rename_i d hd
       obtain ⟨hd1,hd2⟩:=i4 hd
       split at e
       ·cases e
       ·rename_i v hv
        have hq:=h _ _ _ (cS hv)
        split at e
        ·exact kz h m n _ fs e ha1 hp
        ·rename_i hne
         have e2 : fs.map aV ++ [V.nd 61 [] d.tag [v]] = (fs ++ [(d,v)]).map aV:=by simp
         rw [e2] at e
         refine kz h m n _ _ e (fun p hp=>?_) ?_
         ·rcases List.mem_append.1 hp with hp | hp
          ·exact ha1 p hp
          ·simp only [List.mem_singleton] at hp;subst hp;exact ⟨hd2,hq,hne,by dsimp only;omega⟩
         ·rw [List.pairwise_append]
          refine ⟨hp,List.pairwise_singleton _ _,fun a hA b hB=>?_⟩
          simp only [List.mem_singleton] at hB;subst hB
          have:=(ha a hA).2.2.2
          show a.1.tag < d.tag
          omega
theorem lL {ts : List Ty} : ∀ (n : Nat) (k s : adE) (x : V × adE),rb ts n k s = some x → OfK ts k x.1 ∧ x.1.deep ≤ n
 | 0,_,_,_,e=>by cases e
 | n + 1,k,s,x,e=>by
  have ih : ∀ k s y,rb ts n k s = some y → OfK ts k y.1 ∧ y.1.deep ≤ n:=fun k s y hy=>lL n k s y hy
  replace e : fT ts (rb ts n) k s = some x:=e
  cases k with
  | nil=>cases e
  | cons c k =>
   unfold fT at e
   dsimp only at e
   split at e
   ·rename_i hc
    obtain rfl:=bn hc dC
    split at e
    ·cases e
    ·split at e
     ·rename_i m r hm hm2
      cases hi : bO (rb ts n k) m.toNat r [] with
      | none=>rw [hi] at e;cases e
      | some y =>
       rw [hi] at e
       simp only [Option.map_some,Option.some.injEq] at e;subst e
       have h1:=n8 (p:=fun v=>OfK ts k v ∧ v.deep ≤ n) (fun s y hy=>ih k s y hy) _ _ _ hi (by simp)
       obtain ⟨h2,h3⟩:=h1
       simp only [List.length_nil] at h3
       refine ⟨.lst _ _ oM fun v hv=>(h2 v hv).1,?_⟩
       rw [cy dC]
       have:=V.deeps_le (n:=n) fun v hv=>(h2 v hv).2
       omega
     ·cases e
   ·rename_i hc
    split at e
    ·rename_i hc2
     obtain rfl:=bn hc2 dC
     split at e
     ·cases e
     ·simp only [Option.some.injEq] at e;subst e
      exact ⟨.non _,by rw [cy dC];simp [V.deeps]⟩
     ·rename_i r _
      cases hf : rb ts n k r with
      | none=>rw [hf] at e;cases e
      | some y =>
       rw [hf] at e
       simp only [Option.map_some,Option.some.injEq] at e;subst e
       obtain ⟨h1,h2⟩:=ih _ _ _ hf
       refine ⟨.opt _ _ h1,?_⟩
       rw [cy dC]
       have:=V.deeps_le (ks:=[y.1]) (n:=n) fun v hv=>by simp only [List.mem_singleton] at hv;subst hv;exact h2
       omega
    ·split at e
     ·rename_i t ht
      unfold b8 at e
      split at e
      ·rename_i h82
       cases hf : bS ts (rb ts n) t (s.length + 1) 0 s [] with
       | none=>rw [hf] at e;cases e
       | some y =>
        rw [hf] at e
        simp only [Option.map_some,Option.some.injEq] at e;subst e
        obtain ⟨gs,e1,e2,e3⟩:=kz (q:=fun k v=>OfK ts k v ∧ v.deep ≤ n) (fs:=[]) ih _ _ _ hf (by simp) (by simp)
        dsimp only
        rw [e1]
        refine ⟨.recd _ t gs ht h82 (fun p hp=>(e2 p hp).1) (fun p hp=>(e2 p hp).2.1.1) (fun p hp=>(e2 p hp).2.2) e3,?_⟩
        rw [cy dC]
        have:=V.deeps_le (ks:=gs.map aV) (n:=n) fun v hv=>by
         obtain ⟨p,hp,rfl⟩:=List.mem_map.1 hv
         have:=(e2 p hp).2.1.2
         show V.deep (.nd 61 [] p.1.tag [p.2]) ≤ n
         rw [V.deep,if_pos rfl]
         exact V.deeps_le (ks:=[p.2]) fun v hv=>by simp only [List.mem_singleton] at hv;subst hv;exact this
        omega
      ·rename_i h82
       split at e
       ·cases e
       ·split at e
        ·cases e
        ·rename_i d hd
         obtain ⟨hd1,hd2⟩:=i4 hd
         split at e
         ·rename_i h69
          simp only [Option.some.injEq] at e;subst e
          exact ⟨.enm _ t d ht h69 hd2,by rw [cy dC];simp [V.deeps]⟩
         ·rename_i h69
          split at e
          ·cases e
          ·rename_i p r' _
           cases hf : cU (rb ts n) d.kind p with
           | none=>rw [hf] at e;cases e
           | some v =>
            rw [hf] at e
            simp only [Option.map_some,Option.some.injEq] at e;subst e
            obtain ⟨h1,h2⟩:=ih _ _ _ (cS hf)
            refine ⟨.uni _ t d v ht h82 h69 hd2 h1,?_⟩
            rw [cy dC]
            have:=V.deeps_le (ks:=[v]) (n:=n) fun u hv=>by simp only [List.mem_singleton] at hv;subst hv;exact h2
            omega
     ·rename_i ht
      split at e
      ·rename_i h1
       obtain rfl:=bn h1 dC
       cases hn : bI s with
       | none=>rw [hn] at e;cases e
       | some y =>
        rw [hn] at e
        obtain ⟨m,r⟩:=y
        obtain ⟨g1,g2,_⟩:=di hn
        simp only [Option.map_some,Option.some.injEq] at e;subst e
        exact ⟨.num _ _ g1 g2,by rw [cy dC];simp [V.deeps]⟩
      ·split at e
       ·rename_i h1
        obtain rfl:=bn h1 dC
        split at e
        ·cases e
        ·split at e
         ·rename_i hx
          simp only [Option.some.injEq] at e;subst e
          exact ⟨.txt _ _ hx,by rw [cy dC];simp [V.deeps]⟩
         ·cases e
       ·split at e
        ·rename_i h1
         obtain rfl:=bn h1 dC
         cases hn : cI s with
         | none=>rw [hn] at e;cases e
         | some y =>
          rw [hn] at e
          simp only [Option.map_some,Option.some.injEq] at e;subst e
          refine ⟨.flg _ _ ?_,by rw [cy dC];simp [V.deeps]⟩
          split
          ·exact .inl F
          ·exact .inr F
        ·cases e
open Go.Proofs
variable {G : Gh}
abbrev eH : TypeId:=179
abbrev ia : TypeId:=5
theorem abD {n : Nat} {D : List Deferred} {E : bx} {B : Base} {L : List Own} {K : Act → World → Prop} {Q : Exit → Act → World → Prop} {ty : TypeId} {pos : String} {aft : Array Edge} {gd : Option (Nat × Bool)} {d : Nat} {fo x : Operand} {af : Array TypeId} {m : Nat}
  (hf : ev E fo = some (.func (.func 203) #[] #[])) (hx : ev E x = some (I (m : Nat))) (hlt : Nat.blt d n = true) (hm : 0 < m ∧ m ≤ 1000000000)
  (k : ∀ b cap,m ≤ cap + 1 → Nx n D ((d,.slice (some ⟨b,0,none⟩) m (cap + 1)) :: E) B G (.acc (.slice (some ⟨b,0,none⟩) 0 (cap + 1)) ia 1 0 [] :: L) K) : Nx n D E B G L (ow adD ⟨some d,.call ⟨.value fo,[x].toArray,af⟩,ty,pos,aft,gd⟩ Q K) :=
 acO (ps:=#[3]) hf hx hlt Tryz.func203 kR kR kR kR (TI.und (T:=22)) hm k
theorem yE {b : Nat} {v : Value} : cM adD 173 [Pt b 0] G [.blk b (.cells (List.toArray [.pointer none,v]) eH (0,0))] (fun r L'=>L' = [.blk b (.cells (List.toArray [Pt b 0,v]) eH (0,0))]):=by
 have hx : ∀ w,(callFunc 202 [Pt b 0].toArray).run adD w = .ok (.value (Pt b 0)) w:=fun w=>by
  rw [run_callFunc_extern Tryz.func202 kR kR kR (e:=Extern.AbiNoEscape.same) kR]
  rw [Lib.run_noEscape];rfl
 refine jH [(0,_)] Tryz.func173 Tryz.ntmps173 fun B hB hW=>?_
 repeat' (first | refine jR ?_ | (refine jo ?_;first | refine al F ?_ | refine jV (cn F F) ?_ | refine jV (acj kR F F F) ?_) | refine ab F F ?_)
 refine vj F (kS (oS F F F hx) F F ?_)
 repeat' (first | refine jR ?_ | (refine jo ?_;first | refine jV (zm kR F kR) ?_ | refine jD F F F ?_))
 exact oP (vs:=[]) F trivial F aZ ⟨F,F⟩
theorem acQ {b : Nat} {v : Value} : cM adD 173 [Pt b 0] G [.blk b (.cells (List.toArray [Pt b 0,v]) eH (0,0))] (fun r L'=>L' = [.blk b (.cells (List.toArray [Pt b 0,v]) eH (0,0))]):=by
 refine jH [(0,_)] Tryz.func173 Tryz.ntmps173 fun B hB hW=>?_
 repeat' (first | refine jR ?_ | (refine jo ?_;first | refine al F ?_ | refine jV (cn F F) ?_ | refine jV (aa2 F F) ?_) | refine ad F F ?_)
 exact oP (vs:=[]) F trivial F aZ ⟨F,F⟩
theorem z9 {b m : Nat} (hm : 0 < m ∧ m ≤ 1000000000) : cM adD 174 [Pt b 0,I (m : Nat)] G [.blk b (.cells (List.toArray [Pt b 0,aN]) eH (0,0))] (fun r L'=>∃ b2 c2,L' = [.acc (.slice (some ⟨b2,0,none⟩) 0 (c2 + 1)) ia 1 0 [],.blk b (.cells (List.toArray [Pt b 0,.slice (some ⟨b2,0,none⟩) 0 (c2 + 1)]) eH (0,0))]):=by
 refine jH [(0,_),(1,_)] Tryz.func174 Tryz.ntmps174 fun B hB hW=>?_
 repeat' (first | refine jR ?_ | (refine jo ?_;first | refine al F ?_ | refine jV (zr F F) ?_ | refine jD F F F ?_) | (refine ak (ar (id:=0) _ (fun _ h=>h) aj ?_);refine jT 9 [0,1,2,6,9,10,11] (aa 16 3655) ?_;(refine jG (aa 16 3663) 3 F (aC F F F) ?_);(refine jG (aa 16 3679) 4 F (yB F) ?_);refine jW 5 [5,7] (aa 16 3839) ?_;(refine jG (aa 16 7935) 12 F (aC F F F) ?_);(refine jG (aa 16 16127) 13 F (ag F) ?_);refine jA 8 F ?_;(refine abD F F F oM (fun _ _ _=>?_));refine jS (aa 16 16383) ?_;(refine jG (aa 16 32767) 14 F (sF F F oM) ?_);refine jT 0 [15] (aa 16 65535) ?_;refine jQ ?_))
 exact oP (vs:=[]) F trivial F (List.Sublist.refl _) ⟨F,_,_,F⟩
theorem aac {b m : Nat} (hm : 0 < m ∧ m ≤ 1000000000) : cM adD 141 [Pt b 0,I (m : Nat)] G [.blk b (.cells (List.toArray [.pointer none,aN]) eH (0,0))] (fun r L'=>∃ b2 c2,L' = [.acc (.slice (some ⟨b2,0,none⟩) 0 (c2 + 1)) ia 1 0 [],.blk b (.cells (List.toArray [Pt b 0,.slice (some ⟨b2,0,none⟩) 0 (c2 + 1)]) eH (0,0))]):=by
 refine jH [(0,_),(1,_)] Tryz.func141 Tryz.ntmps141 fun B hB hW=>?_
 repeat' (first | refine jR ?_ | (refine jo ?_;first | (refine ai F F F yE F ?_;rintro _ _ rfl;dsimp only [zA,fA]) | (refine ai F F F (z9 oM) F ?_;rintro _ _ ⟨b2,c2,hb2,rfl⟩;dsimp only [zA,fA])) | refine ab F (aD oM) ?_ | refine ad F F ?_ | (refine ak (ar (id:=3) _ (fun _ h=>h) aj ?_);refine jT 6 [0,1,2,5,6,7,11] (aa 13 2279) ?_;(refine jG (aa 13 2287) 3 F (aC F F F) ?_);(refine jG (aa 13 2303) 4 F (yB F) ?_);(refine jG (aa 13 2559) 8 F (aC F F F) ?_);(refine jG (aa 13 3071) 9 F (ag F) ?_);refine jW 0 [10,12] (aa 13 8191) ?_;refine jQ ?_))
 exact oP (vs:=[]) F trivial F (List.Sublist.refl _) ⟨F,_,_,F⟩
theorem pX {b b1 c1 m : Nat} {xs : List Value} {l : adE} (hm : m + l.length ≤ 1000000000) : cM adD 142 [Pt b 0,S l] G [.blk b (.cells (List.toArray [Pt b 0,.slice (some ⟨b1,0,none⟩) m (c1 + 1)]) eH (0,0)),.acc (.slice (some ⟨b1,0,none⟩) m (c1 + 1)) ia 1 m xs]
  (fun r L'=>∃ b2 c2,r = Tu [I l.length,.nilIface] ∧ L' = [.acc (.slice (some ⟨b2,0,none⟩) (m + l.length) (c2 + 1)) ia 1 (m + l.length) (xs ++ bM l),.blk b (.cells (List.toArray [Pt b 0,.slice (some ⟨b2,0,none⟩) (m + l.length) (c2 + 1)]) eH (0,0))]):=by
 refine jH [(0,_),(1,_)] Tryz.func142 Tryz.ntmps142 fun B hB hW=>?_
 repeat' (first | refine jR ?_ | (refine jo ?_;first | refine al F ?_ | refine acW F F F oM fun _ _=>?_ | refine jD F F F ?_ | (refine ai F F F acQ F ?_;rintro _ _ rfl;dsimp only [zA,fA])))
 exact aR (vs:=[_,_]) F ⟨F,F,trivial⟩ F (List.Sublist.refl _) ⟨F,_,_,F,F⟩
theorem tl {b b1 c1 m : Nat} {l : adE} (hm : m ≤ 1000000000) : cM adD 143 [Pt b 0] G [.blk b (.cells (List.toArray [Pt b 0,.slice (some ⟨b1,0,none⟩) m (c1 + 1)]) eH (0,0)),.acc (.slice (some ⟨b1,0,none⟩) m (c1 + 1)) ia 1 m (bM l)]
  (fun r L'=>r = S l ∧ L' = []):=by
 refine jH [(0,_)] Tryz.func143 Tryz.ntmps143 fun B hB hW=>?_
 repeat' (refine jR ?_)
 (refine ak (ar (id:=1) [.blk b (.cells (List.toArray [Pt b 0,.slice (some ⟨b1,0,none⟩) m (c1 + 1)]) eH (0,0))] (by intro y hy;simp only [List.mem_cons,List.not_mem_nil,or_false] at hy ⊢;simp [hy]) aj ?_);refine jW 6 [0,1,2,5,6,7] (aa 12 231) ?_;(refine jG (aa 12 239) 3 F (aC F F F) ?_);(refine jG (aa 12 255) 4 F (aa0 F F) ?_);(refine jG (aa 12 511) 8 F (aC F F F) ?_);(refine jG (aa 12 1023) 9 F (ag F) ?_);refine jA 10 F ?_;(refine abv kR F F F oM ?_);refine jS (aa 12 2047) ?_;refine jT 0 [11] (aa 12 4095) ?_;refine jQ ?_)
 repeat' (refine jR ?_)
 refine jZ (vs:=[_]) F ⟨F,trivial⟩ F ⟨F,F,?_⟩
 rfl
def dt (xs : List adE) : Nat:=(xs.map List.length).sum
theorem vh (xs : List adE) (x : adE) : dt (xs ++ [x]) = dt xs + x.length:=by simp [dt]
theorem eT : ∀ (xs : List adE) (i : Nat),dt (xs.take i) ≤ dt xs
 | [],i=>by simp [dt]
 | x :: xs,0=>by simp [dt]
 | x :: xs,i + 1=>by
  have:=eT xs i
  simp only [dt,List.take_succ_cons,List.map_cons,List.sum_cons] at this ⊢;omega
theorem lV (c : UInt8) (y : adE) : ∀ (xs : List adE),xs ≠ [] → aO c (xs ++ [y]) = aO c xs ++ c :: y
 | [],h=>absurd rfl h
 | [x],_=>by simp [aO]
 | x :: z :: r,_=>by
  have:=lV c y (z :: r) (by simp)
  simp only [List.cons_append,aO] at this ⊢
  rw [this];simp
theorem f4 (c : UInt8) : ∀ (xs : List adE),(aO c xs).length ≤ dt xs + xs.length
 | []=>by simp [aO]
 | [x]=>by simp [aO,dt]
 | x :: z :: r=>by
  have:=f4 c (z :: r)
  simp only [aO,dt,List.map_cons,List.sum_cons,List.length_append,List.length_cons] at this ⊢;omega
theorem Nx.cast {n : Nat} {D : List Deferred} {E : bx} {B : Base} {L L' : List Own} {K : Act → World → Prop} (e : L = L') (h : Nx n D E B G L' K) : Nx n D E B G L K:=by subst e;exact h
theorem bq.cap {G : Gh} {p : Option Addr} {c sz m : Nat} {xs : List Value} (h : bq G (.slice p m c) sz m xs) : m ≤ c:=by
 obtain ⟨_,⟨h1,h2⟩ | ⟨b,o,cap,e,h1,_⟩⟩:=h
 ·omega
 ·simp only [Value.slice.injEq,true_and] at e;omega
theorem cH.tailS {G : Gh} {b o : Nat} {xs : List adE} (h : cH G b o (ax bY xs)) : cH G b (o + 1) (ax bY (xs.drop 1)):=by
 cases xs with
 | nil=>obtain ⟨cs,h1,_⟩:=h;exact ⟨cs,h1,fun i v hv=>by simp [ax] at hv⟩
 | cons x r =>
  obtain ⟨cs,h1,h2⟩:=h
  refine ⟨cs,h1,fun i v hv=>?_⟩
  have:=h2 (i + 1) v (by simpa [ax,bY] using hv)
  rw [show o + 1 + i = o + (i + 1) by omega];exact this
theorem rk (xs : List adE) (i : Nat) : ae (xs.drop 1) i = ae xs (i + 1):=by
 cases xs with
 | nil=>simp [ae]
 | cons x r=>simp [ae,List.getD]
theorem m7 {xs : List adE} {i : Nat} (h : i < xs.length) : dt (xs.take (i + 1)) = dt (xs.take i) + (ae xs i).length:=by
 rw [cr h,vh]
theorem abU {v : Value} {xs : List adE} {c : UInt8} (hs : bq G v 1 xs.length (ax bY xs)) (hl : dt xs + xs.length ≤ 100000000) : aG adD 94 [v,S [c]] G (· = S (aO c xs)):=by
 by_cases h0 : xs = []
 ·subst h0
  refine jE [(0,_),(1,_)] Tryz.func94 Tryz.ntmps94 fun B hB=>?_
  repeat' (first | refine jR ?_ | (refine jo ?_;refine jV (f6 F aS) ?_) | refine ab F F ?_)
  refine jY (vs:=[_]) ?_
  rfl
 have hpos:=List.length_pos_iff.2 h0
 obtain ⟨bv,ov,cv,rfl,hsv⟩:=hs.expl oM
 by_cases h1 : xs.length = 1
 ·obtain ⟨x,rfl⟩:=List.length_eq_one_iff.1 h1
  refine jE [(0,_),(1,_)] Tryz.func94 Tryz.ntmps94 fun B hB=>?_
  repeat' (first | refine jR ?_ | (refine jo ?_;first | refine jV (ag F) ?_ | refine jV (aq F F oM) ?_ | refine jV (an F F aS F F) ?_) | refine ab F F ?_ | refine ad F F ?_)
  refine jY (vs:=[_]) ?_
  rfl
 have hcap:=hs.cap
 have hq : ¬ (9223372036854775807 / ((xs.length : Int) - 1) ≤ ((([c] : adE).length : Nat) : Int)):=by
  have : (2 : Int) ≤ 9223372036854775807 / ((xs.length : Int) - 1):=Int.le_ediv_of_mul_le oM oM
  have e : ((([c] : adE).length : Nat) : Int) = 1:=rfl
  omega
 have e1 : ((([c] : adE).length : Nat) : Int) * ((xs.length : Int) - 1) = (xs.length : Int) - 1:=by
  have e : ((([c] : adE).length : Nat) : Int) = 1:=rfl
  rw [e];omega
 have p1 : ((([c] : adE).length : Nat) : Int) * ((xs.length : Int) - 1) ≤ 9223372036854775807:=by rw [e1];omega
 have p2 : -9223372036854775808 ≤ ((([c] : adE).length : Nat) : Int) * ((xs.length : Int) - 1):=by rw [e1];omega
 have p3 : 0 + ((([c] : adE).length : Nat) : Int) * ((xs.length : Int) - 1) ≤ 9223372036854775807:=by rw [e1];omega
 have p4 : -9223372036854775808 ≤ 0 + ((([c] : adE).length : Nat) : Int) * ((xs.length : Int) - 1):=by rw [e1];omega
 refine jE [(0,_),(1,_)] Tryz.func94 Tryz.ntmps94 fun B hB=>?_
 repeat' (first | refine jM ?_ | (refine jo ?_;refine jV (ag F) ?_) | refine ab F F ?_ | (refine ad F (by refine decide_eq_false ?_;first | assumption | omega) ?_))
 refine Nx.re (d:=5) (v':=I ((xs.length : Int) - 1 + (dt (xs.take 0) : Nat))) F (congrArg (Value.int .i64) (by rw [e1];simp [dt])) ?_
 refine aU (ι:=Nat) (fun i=>i ≤ xs.length) (fun i=>[(0,.slice (some ⟨bv,ov,none⟩) xs.length cv),(1,S [c]),(39,.slice (some ⟨bv,ov,none⟩) xs.length cv),(40,I xs.length),(41,I i),(5,I ((xs.length : Int) - 1 + (dt (xs.take i) : Nat)))]) (fun _=>G) (fun i=>[]) (fun i=>xs.length - i) 0 ?_ tU F aZ (fun i Hi=>?_)
 ·exact Nat.zero_le _
 have hb1:=eT xs i
 by_cases hi : i < xs.length
 ·have hb2:=m7 hi
  have hb3:=eT xs (i + 1)
  repeat' (first | refine jM ?_ | (refine jo ?_;first | refine jV (aq F F oM) ?_ | (refine jV (ew F F aS ?_) ?_;focus omega)) | refine ab F (aD oM) ?_ | refine ad F (aE oM) ?_)
  refine Nx.re (d:=5) (v':=I ((xs.length : Int) - 1 + (dt (xs.take (i + 1)) : Nat))) F (congrArg (Value.int .i64) (by rw [hb2];omega)) ?_
  exact a7 (i + 1) oM oM tU F aZ
 have hin : i = xs.length:=oM
 subst hin
 rw [List.take_length] at *
 refine Nx.re (d:=5) (v':=I ((xs.length - 1 + dt xs : Nat) : Int)) F (congrArg (Value.int .i64) oM) ?_
 have hb0 : (ae xs 0).length ≤ dt xs:=by have:=m7 (i:=0) hpos;have:=eT xs (0 + 1);omega
 have hw0 : 0 + (ae xs 0).length ≤ 1000000000:=oM
 have hsv1:=hsv.tailS
 have hdl : (xs.drop 1).length = xs.length - 1:=by rw [List.length_drop]
 have eJ0 : aO c (xs.take (0 + 1)) = ae xs 0:=by rw [cr hpos];rfl
 repeat' (first | refine jR ?_ | (refine jo ?_;first | refine jV (ag F) ?_ | refine jV (aq F F oM) ?_ | (refine jV (ew F F aS ?_) ?_;focus omega) | refine jL fun _=>?_ | refine jV (acl F F oM) ?_ | (refine ai F F F (aac oM) F ?_;rintro _ _ ⟨b2,c2,rfl⟩;dsimp only [zA,fA]) | (refine mj F F F (pX (by (repeat (assumption));done)) rfl ?_;rintro _ _ ⟨b3,c3,rfl,rfl⟩;dsimp only [zA,fA])) | refine ad F (aE oM) ?_)
 rename_i x _
 refine Nx.cast (L':=[.acc (.slice (some ⟨b3,0,none⟩) (aO c (xs.take (0 + 1))).length (c3 + 1)) ia 1 (aO c (xs.take (0 + 1))).length (bM (aO c (xs.take (0 + 1)))),.blk x (.cells (List.toArray [Pt x 0,.slice (some ⟨b3,0,none⟩) (aO c (xs.take (0 + 1))).length (c3 + 1)]) eH (0,0))]) (by rw [eJ0];simp only [Nat.zero_add]) ?_
 refine aU (ι:=Nat × Nat × Nat) (fun q=>q.1 ≤ xs.length - 1) (fun q=>[(1,S [c]),(63,.slice (some ⟨bv,ov + 1,none⟩) (xs.length - 1) (cv - 1)),(64,I (xs.length - 1 : Nat)),(65,I q.1),(8,Pt x 0)]) (fun _=>G) (fun q=>[.acc (.slice (some ⟨q.2.1,0,none⟩) (aO c (xs.take (q.1 + 1))).length (q.2.2 + 1)) ia 1 (aO c (xs.take (q.1 + 1))).length (bM (aO c (xs.take (q.1 + 1)))),.blk x (.cells (List.toArray [Pt x 0,.slice (some ⟨q.2.1,0,none⟩) (aO c (xs.take (q.1 + 1))).length (q.2.2 + 1)]) eH (0,0))]) (fun q=>xs.length - q.1) (0,b3,c3) ?_ tU F aZ (fun q Hq=>?_)
 ·exact Nat.zero_le _
 obtain ⟨i,b4,c4⟩:=q
 dsimp only at Hq ⊢
 have hj1:=f4 c (xs.take (i + 1))
 have hj2:=eT xs (i + 1)
 have hj3 : (xs.take (i + 1)).length ≤ xs.length:=by rw [List.length_take];omega
 by_cases hi2 : i < xs.length - 1
 ·have hwA : (aO c (xs.take (i + 1))).length + ([c] : adE).length ≤ 1000000000:=by rw [List.length_singleton];omega
  have hy1:=m7 (xs:=xs) (i:=i + 1) oM
  have hy2:=eT xs (i + 1 + 1)
  have hwB : (aO c (xs.take (i + 1))).length + ([c] : adE).length + (ae (xs.drop 1) i).length ≤ 1000000000:=by rw [rk,List.length_singleton];omega
  have ej : aO c (xs.take (i + 1 + 1)) = aO c (xs.take (i + 1)) ++ c :: ae (xs.drop 1) i:=by
   rw [cr oM,lV c _ _ (by rw [ne_eq,List.take_eq_nil_iff];simp [h0]),rk]
  repeat' (first | refine jM ?_ | (refine jo ?_;first | refine jV (aq F F oM) ?_ | (refine jV (ew F F aS ?_) ?_;focus omega) | (refine mj F F F (pX (by (repeat (assumption));done)) rfl ?_;rintro _ _ ⟨b3,c3,rfl,rfl⟩;dsimp only [zA,fA])) | refine ab F (aD oM) ?_)
  refine Nx.cast (L':=[.acc (.slice (some ⟨b3,0,none⟩) (aO c (xs.take (i + 1 + 1))).length (c3 + 1)) ia 1 (aO c (xs.take (i + 1 + 1))).length (bM (aO c (xs.take (i + 1 + 1)))),.blk x (.cells (List.toArray [Pt x 0,.slice (some ⟨b3,0,none⟩) (aO c (xs.take (i + 1 + 1))).length (c3 + 1)]) eH (0,0))]) (by
   have e2 : (aO c (xs.take (i + 1 + 1))).length = (aO c (xs.take (i + 1))).length + ([c] : adE).length + (ae (xs.drop 1) i).length:=by rw [ej];simp;omega
   have e3 : bM (aO c (xs.take (i + 1 + 1))) = bM (aO c (xs.take (i + 1))) ++ bM [c] ++ bM (ae (xs.drop 1) i):=by rw [ej];simp [bM]
   rw [e2,e3]) ?_
  exact a7 (i + 1,b3,c3) (by dsimp only;omega) (by dsimp only;omega) tU rfl aZ
 ·have ei : xs.take (i + 1) = xs:=List.take_of_length_le oM
  rw [ei] at hj1 ⊢
  repeat' (first | refine jR ?_ | (refine jo ?_;(refine mj F F F (tl oM) F ?_;rintro _ _ ⟨rfl,rfl⟩;dsimp only [zA,fA])) | refine ad F (aE oM) ?_)
  refine jY (vs:=[_]) ?_
  rfl
structure VC where
 what : Nat
 text : adE
 tag : Int
 a : Option Addr
 n : Nat
 c : Nat
instance : Inhabited VC:=⟨⟨0,[],0,none,0,0⟩⟩
abbrev VC.sl (v : VC) : Value:=.slice v.a v.n v.c
def bG (v : VC) : List Value:=[U8 (v.what : Nat),S v.text,I v.tag,v.sl]
instance : RowF bG 4:=⟨fun _=>rfl⟩
mutual
def V.rep (G : Gh) : V → VC → Prop
 | .nd w x t ks,c=>(c.what = w ∧ w ≤ 255) ∧ c.text = x ∧ (c.tag = t ∧ 0 ≤ t ∧ t ≤ 999999) ∧ (c.n = ks.length ∧ (w = 61 → ks.length = 1)) ∧ ∃ cs,bq G c.sl 4 cs.length (ax bG cs) ∧ V.reps G ks cs
def V.reps (G : Gh) : List V → List VC → Prop
 | [],cs=>cs = []
 | v :: r,cs=>∃ c cs',cs = c :: cs' ∧ V.rep G v c ∧ V.reps G r cs'
end
theorem ix {G : Gh} : ∀ {ks : List V} {cs : List VC},V.reps G ks cs → cs.length = ks.length
 | [],cs,h=>by rw [V.reps] at h;subst h;rfl
 | v :: r,cs,h=>by
  rw [V.reps] at h
  obtain ⟨c,cs',rfl,_,h2⟩:=h
  rw [List.length_cons,List.length_cons,ix h2]
theorem gJ {G : Gh} : ∀ {ks : List V} {cs : List VC},V.reps G ks cs → ∀ i,i < ks.length → V.rep G (ae ks i) (ae cs i)
 | [],_,_,i,hi=>by simp at hi
 | v :: r,cs,h,i,hi=>by
  rw [V.reps] at h
  obtain ⟨c,cs',rfl,h1,h2⟩:=h
  cases i with
  | zero=>exact h1
  | succ i=>exact gJ h2 i (by simpa using hi)
theorem iV {G : Gh} {v : V} {c : VC} (h2 : V.rep G v c) : ∀ {ks : List V} {cs : List VC},V.reps G ks cs → V.reps G (ks ++ [v]) (cs ++ [c])
 | [],cs,h=>by
  rw [V.reps] at h;subst h
  exact ⟨c,[],F,h2,F⟩
 | u :: r,cs,h=>by
  rw [V.reps] at h
  obtain ⟨d,cs',rfl,h1,h3⟩:=h
  exact ⟨d,cs' ++ [c],F,h1,iV h2 h3⟩
mutual
theorem fz {G G' : Gh} (hl : Gh.le G G') : ∀ {v : V} {c : VC},V.rep G v c → V.rep G' v c
 | .nd w x t ks,c,h=>by
  rw [V.rep] at h ⊢
  obtain ⟨h1,h2,h3,h4,cs,h5,h6⟩:=h
  exact ⟨h1,h2,h3,h4,cs,h5.mono hl,cd hl h6⟩
theorem cd {G G' : Gh} (hl : Gh.le G G') : ∀ {ks : List V} {cs : List VC},V.reps G ks cs → V.reps G' ks cs
 | [],cs,h=>h
 | v :: r,cs,h=>by
  rw [V.reps] at h ⊢
  obtain ⟨c,cs',e,h1,h2⟩:=h
  exact ⟨c,cs',e,fz hl h1,cd hl h2⟩
end
theorem fL {G : Gh} {w : Nat} {x : adE} {t : Int} {ks : List V} {c : VC} (h : V.rep G (.nd w x t ks) c) : ∃ (a : Option Addr) (k : Nat) (cs : List VC),c = ⟨w,x,t,a,ks.length,k⟩ ∧ w ≤ 255 ∧ (0 ≤ t ∧ t ≤ 999999) ∧ (w = 61 → ks.length = 1) ∧ cs.length = ks.length ∧ bq G (.slice a ks.length k) 4 cs.length (ax bG cs) ∧ V.reps G ks cs:=by
 rw [V.rep] at h
 obtain ⟨⟨h1,h1'⟩,h2,⟨h3,h3'⟩,⟨h4,h4'⟩,cs,h5,h6⟩:=h
 obtain ⟨w',x',t',a,n,k⟩:=c
 dsimp only at h1 h2 h3 h4 h5
 subst h1;subst h2;subst h3;subst h4
 exact ⟨a,k,cs,F,h1',h3',h4',ix h6,h5,h6⟩
theorem db {G : Gh} {w : Nat} {x : adE} {t : Int} {ks : List V} {a : Option Addr} {k m : Nat} {cs : List VC} (hw : w ≤ 255) (ht : 0 ≤ t ∧ t ≤ 999999) (h61 : w = 61 → ks.length = 1) (hm : m = ks.length) (hs : bq G (.slice a m k) 4 cs.length (ax bG cs)) (hk : V.reps G ks cs) : V.rep G (.nd w x t ks) ⟨w,x,t,a,m,k⟩:=by
 rw [V.rep];exact ⟨⟨F,hw⟩,F,⟨F,ht⟩,⟨hm,h61⟩,cs,hs,hk⟩
theorem yO {G : Gh} : bq G aN 4 ([] : List VC).length (ax bG []):=⟨rfl,.inl ⟨rfl,rfl⟩⟩
theorem bA {G : Gh} {w : Nat} {x : adE} {t : Int} (hw : w ≤ 255 ∧ w ≠ 61) (ht : 0 ≤ t ∧ t ≤ 999999) : V.rep G (.nd w x t []) ⟨w,x,t,none,0,0⟩:=db hw.1 ht (fun h=>absurd h hw.2) rfl yO rfl
theorem lP : ∀ {ks : List V} {i : Nat},i < ks.length → ae (V.outs ks) i = (ae ks i).out
 | [],i,h=>by simp at h
 | v :: r,0,_=>rfl
 | v :: r,i + 1,h=>by
  have:=lP (ks:=r) (i:=i) (by simpa using h)
  simpa [V.outs,ae] using this
theorem ka (ks : List V) : (V.outs ks).length = ks.length:=by rw [V.outs_map];simp
theorem eM {ks : List V} {i : Nat} (h : i < ks.length) : V.tot (ae ks i) ≤ V.tots ks:=by
 rw [aI h];exact oy (List.getElem_mem h)
theorem gq {t : Int} (h : t ≤ 999999) : (a8 t).length ≤ 19:=gR oM
theorem si {w : Nat} {x : adE} {t : Int} {e : Bool} {j : adE} (ht : t ≤ 999999) : (cO w x t e j).length ≤ 25 + x.length + j.length:=by
 have hd:=gq ht
 unfold cO
 split
 ·simp;omega
 split
 ·simp;omega
 split
 ·split
  ·simp;omega
  ·simp;omega
 split
 ·simp;omega
 split
 ·simp;omega
 split
 ·simp;omega
 split
 ·simp;omega
 ·omega
mutual
theorem qq {G : Gh} : ∀ {v : V} {c : VC},V.rep G v c → v.out.length + 1 ≤ 2 * v.tot
 | .nd w x t ks,c,h=>by
  rw [V.rep] at h
  obtain ⟨_,_,⟨_,h3⟩,_,cs,_,h6⟩:=h
  have h1:=oK h6
  have h2:=f4 44 (V.outs ks)
  rw [ka] at h2
  have h4:=si (w:=w) (x:=x) (e:=ks.isEmpty) (j:=aO 44 (V.outs ks)) h3.2
  have h5:=dq ks
  rw [V.out,V.tot]
  omega
theorem oK {G : Gh} : ∀ {ks : List V} {cs : List VC},V.reps G ks cs → dt (V.outs ks) + ks.length ≤ 2 * V.tots ks
 | [],cs,h=>by simp [V.outs,dt]
 | v :: r,cs,h=>by
  rw [V.reps] at h
  obtain ⟨c,cs',_,h1,h2⟩:=h
  have h3:=qq h1
  have h4:=oK h2
  simp only [V.outs,dt,List.map_cons,List.sum_cons,V.tots,List.length_cons] at *
  omega
end
def fq (cs : adE) (c : Nat) : Bool:=cs.any fun d=>d.toNat == c
def dA (p : Nat → Bool) : adE → adE
 | []=>[]
 | c :: r=>if p c.toNat = true then dA p r else c :: r
def fx (p : Nat → Bool) (s : adE) : adE:=(dA p s.reverse).reverse
abbrev pf : TypeId:=200
theorem io {b : Nat} {p : Nat → Bool} {c : Nat} (h : c < 256) : cM adD 198 [Pt b 0,U8 c] G [.blk b (.cells (cK p).toArray pf (0,0))] (fun v L'=>v = Bo (p c) ∧ L' = [.blk b (.cells (cK p).toArray pf (0,0))]):=by
 refine jH [(0,_),(1,_)] Tryz.func198 Tryz.ntmps198 fun B hB hW=>?_
 repeat' (first | refine jR ?_ | (refine jo ?_;first | refine jV (sG F F oM) ?_ | refine jV (aa7 F F F aS) ?_))
 refine aR (vs:=[_]) F ⟨F,trivial⟩ F (List.Sublist.refl _) ⟨F,F,F⟩
theorem kO {b : Nat} {p : Nat → Bool} {s : adE} : cM adD 168 [S s,Pt b 0] G [.blk b (.cells (cK p).toArray pf (0,0))] (fun v L'=>v = S (dA p s) ∧ L' = [.blk b (.cells (cK p).toArray pf (0,0))]):=by
 refine jH [(0,_),(1,_)] Tryz.func168 Tryz.ntmps168 fun B hB hW=>?_
 repeat' (refine jR ?_)
 refine aU (ι:=adE) (fun t=>dA p t = dA p s) (fun t=>[(0,S t),(1,Pt b 0)]) (fun _=>G) (fun t=>[.blk b (.cells (cK p).toArray pf (0,0))]) (fun t=>t.length) s ?_ tU F aZ (fun t Ht=>?_)
 ·rfl
 match t,Ht with
 | [],Ht =>
  repeat' (first | refine jR ?_ | refine ad F F ?_)
  refine aR (vs:=[_]) F ⟨F,trivial⟩ F (List.Sublist.refl _) ⟨F,by rw [← Ht];rfl,rfl⟩
 | c :: r,Ht =>
  have hlt : bt (c :: r) (Int.toNat 0) < 256:=mt _ _
  have e0 : bt (c :: r) (Int.toNat 0) = c.toNat:=a6 c r
  have hcons : (c :: r).length = r.length + 1:=rfl
  rw [dA] at Ht
  by_cases hp : p (bt (c :: r) (Int.toNat 0)) = true
  ·have hp2 : (!p (bt (c :: r) (Int.toNat 0))) = false:=by rw [hp];rfl
   repeat' (first | refine jM ?_ | (refine jo ?_;(refine ai F F F (io (by (repeat (assumption));done)) rfl ?_;rintro _ _ ⟨rfl,rfl⟩;dsimp only [zA,fA])) | refine ab F (aD oM) ?_ | refine ad F ‹_› ?_)
   refine a7 r (by rw [← Ht,← e0,if_pos hp]) oM tU F aZ
  ·have hp2 : (!p (bt (c :: r) (Int.toNat 0))) = true:=by simpa using hp
   repeat' (first | refine jM ?_ | (refine jo ?_;(refine ai F F F (io (by (repeat (assumption));done)) rfl ?_;rintro _ _ ⟨rfl,rfl⟩;dsimp only [zA,fA])) | (refine ab F (by first | assumption | (refine decide_eq_true ?_;(omega))) ?_))
   refine aR (vs:=[_]) F ⟨F,trivial⟩ F (List.Sublist.refl _) ⟨F,by rw [← Ht,← e0,if_neg hp];rfl,rfl⟩
theorem qP (p : Nat → Bool) : ∀ s : adE,(dA p s).length ≤ s.length
 | []=>Nat.le_refl _
 | c :: r=>by
  unfold dA
  split
  ·have:=qP p r;simp;omega
  ·exact Nat.le_refl _
theorem vQ (p : Nat → Bool) (s : adE) : (fx p s).length ≤ s.length:=by have:=qP p s.reverse;simpa [fx] using this
theorem uR (p : Nat → Bool) (s : adE) (c : UInt8) : fx p (s ++ [c]) = if p c.toNat = true then fx p s else s ++ [c]:=by
 unfold fx
 rw [List.reverse_append]
 simp only [List.reverse_cons,List.reverse_nil,List.nil_append,List.singleton_append,dA]
 split <;> simp
theorem o5 {b : Nat} {p : Nat → Bool} {s : adE} (hs : s.length ≤ 1000000000) : cM adD 186 [S s,Pt b 0] G [.blk b (.cells (cK p).toArray pf (0,0))] (fun v L'=>v = S (fx p s) ∧ L' = [.blk b (.cells (cK p).toArray pf (0,0))]):=by
 refine jH [(0,_),(1,_)] Tryz.func186 Tryz.ntmps186 fun B hB hW=>?_
 repeat' (refine jR ?_)
 refine aU (ι:=adE) (fun t=>t.length ≤ 1000000000 ∧ fx p t = fx p s) (fun t=>[(0,S t),(1,Pt b 0)]) (fun _=>G) (fun t=>[.blk b (.cells (cK p).toArray pf (0,0))]) (fun t=>t.length) s ?_ tU F aZ (fun t Ht=>?_)
 ·exact ⟨hs,F⟩
 have hcase : t = [] ∨ ∃ r c,t = r ++ [c]:=by
  rcases List.eq_nil_or_concat t with h | ⟨r,c,h⟩
  ·exact .inl h
  ·exact .inr ⟨r,c,by rw [h,List.concat_eq_append]⟩
 rcases hcase with rfl | ⟨r,c,rfl⟩
 ·repeat' (first | refine jR ?_ | refine ad F F ?_)
  refine aR (vs:=[_]) F ⟨F,trivial⟩ F (List.Sublist.refl _) ⟨F,by rw [← Ht.2];rfl,rfl⟩
 ·have hcons : (r ++ [c]).length = r.length + 1:=by simp
  have e1 : (((r ++ [c]).length : Nat) : Int) - 1 = (r.length : Nat):=oM
  have e2 : ((((r ++ [c]).length : Nat) : Int) - 1).toNat = r.length:=oM
  have e0 : bt (r ++ [c]) ((((r ++ [c]).length : Nat) : Int) - 1).toNat = c.toNat:=by rw [e2];simp [bt,List.getD]
  have hlt : bt (r ++ [c]) ((((r ++ [c]).length : Nat) : Int) - 1).toNat < 256:=mt _ _
  have e3 : (r ++ [c]).take ((((r ++ [c]).length : Nat) : Int) - 1).toNat = r:=by rw [e2];simp
  have Ht2:=Ht.2
  rw [uR] at Ht2
  have hne : r ++ [c] ≠ []:=by simp
  by_cases hp : p (bt (r ++ [c]) ((((r ++ [c]).length : Nat) : Int) - 1).toNat) = true
  ·have hp2 : (!p (bt (r ++ [c]) ((((r ++ [c]).length : Nat) : Int) - 1).toNat)) = false:=by rw [hp];rfl
   repeat' (first | refine jM ?_ | (refine jo ?_;(refine ai F F F (io (by (repeat (assumption));done)) rfl ?_;rintro _ _ ⟨rfl,rfl⟩;dsimp only [zA,fA])) | refine ab F (aD oM) ?_ | refine ad F ‹_› ?_)
   refine a7 r ⟨oM,by rw [← Ht2,← e0,if_pos hp]⟩ oM ?_ F aZ
   rw [e3];repeat (first | exact trivial | refine ⟨F,?_⟩)
  ·have hp2 : (!p (bt (r ++ [c]) ((((r ++ [c]).length : Nat) : Int) - 1).toNat)) = true:=by simpa using hp
   repeat' (first | refine jM ?_ | (refine jo ?_;(refine ai F F F (io (by (repeat (assumption));done)) rfl ?_;rintro _ _ ⟨rfl,rfl⟩;dsimp only [zA,fA])) | (refine ab F (by first | assumption | (refine decide_eq_true ?_;(omega))) ?_))
   refine aR (vs:=[_]) F ⟨F,trivial⟩ F (List.Sublist.refl _) ⟨F,by rw [← Ht2,← e0,if_neg hp];rfl,rfl⟩
theorem xG (cs : adE) (i : Nat) (h : i < cs.length) : (fun x=>fq (cs.take i) x || x == bt cs i) = fq (cs.take (i + 1)):=by
 funext x
 have e : bt cs i = (cs[i]).toNat:=by simp [bt,List.getD,List.getElem?_eq_getElem h]
 have e2 : (x == (cs[i]).toNat) = ((cs[i]).toNat == x):=by rw [Bool.eq_iff_iff,beq_iff_eq,beq_iff_eq];exact eq_comm
 rw [List.take_succ_eq_append_getElem h,e,e2]
 simp only [fq,List.any_append,List.any_cons,List.any_nil,Bool.or_false]
theorem w6 {cs : adE} (h : cs.all (fun c=>decide (c.toNat < 128)) = true) : ∀ i,i < cs.length → bt cs i < 128:=fun i hi=>by
 have e : bt cs i = (cs[i]).toNat:=by simp [bt,List.getD,List.getElem?_eq_getElem hi]
 rw [List.all_eq_true] at h
 rw [e]
 simpa using h cs[i] (List.getElem_mem hi)
theorem lu {cs : adE} (hc : ∀ i,i < cs.length → bt cs i < 128) (hl : cs.length ≤ 1000) : aG adD 167 [S cs] G (· = Tu [Ag (cK (fq cs)),Bo true]):=by
 refine jE [(0,_)] Tryz.func167 Tryz.ntmps167 fun B hB=>?_
 repeat' (first | refine jR ?_ | (refine jo ?_;refine tp F F fun _=>?_))
 rename_i x
 refine aU (ι:=Nat) (fun i=>i ≤ cs.length) (fun i=>[(0,S cs),(2,Pt x 0),(4,I i)]) (fun _=>G) (fun i=>[.blk x (.cells (cK (fq (cs.take i))).toArray pf (0,0))]) (fun i=>cs.length - i) 0 ?_ tU F aZ (fun i Hi=>?_)
 ·exact Nat.zero_le _
 by_cases hi : i < cs.length
 ·have h1 : bt cs ((i : Int).toNat) < 128:=hc i hi
  have h2 : bt cs ((i : Int).toNat) < 256:=oM
  repeat' (first | refine jM ?_ | (refine jo ?_;first | refine abw F F F F aS ?_ | refine jV (sG F F oM) ?_) | refine ab F (aD oM) ?_ | refine ad F (aE oM) ?_)
  refine a7 (i + 1) oM oM tU F (by rw [← xG cs i hi];repeat (exact List.Sublist.refl _))
 ·have ei : i = cs.length:=oM
  subst ei
  repeat' (first | refine jR ?_ | (refine jo ?_;first | refine jV (aa6 F F F F) ?_ | refine sY F F F F ?_) | refine ad F (aE oM) ?_)
  refine jZ (vs:=[_,_]) F ⟨aca F F F F,F,trivial⟩ F ⟨F,F,?_⟩
  rw [List.take_length];rfl
theorem wZ {s cs : adE} (h2 : Nat.ble 2 cs.length = true) (hc : cs.all (fun c=>decide (c.toNat < 128)) = true) (hl : Nat.ble cs.length 1000 = true) (hs : s.length ≤ 2000000) : aG adD 149 [S s,S cs] G (· = S (dA (fq cs) (fx (fq cs) s))):=by
 have h2:=Nat.le_of_ble_eq_true h2
 have hl:=Nat.le_of_ble_eq_true hl
 have cx_mkas:=lu (G:=G) (w6 hc) hl
 by_cases h0 : s = []
 ·subst h0
  refine jE [(0,_),(1,_)] Tryz.func149 Tryz.ntmps149 fun B hB=>?_
  repeat' (first | refine jR ?_ | (refine jo ?_;refine aK F ?_) | refine aA F F F ?_ | refine ab F F ?_)
  all_goals refine jY (vs:=[_]) ?_
  all_goals rfl
 have hn : ¬ cs = []:=by rintro rfl;simp at h2
 have hr:=vQ (fq cs) s
 refine jE [(0,_),(1,_)] Tryz.func149 Tryz.ntmps149 fun B hB=>?_
 repeat' (first | refine jR ?_ | (refine jo ?_;first | refine aw F ?_ | refine tp F F fun _=>?_ | refine sY F F F F ?_ | refine ac F F F cx_mkas F ?_ | (refine ai F F F (o5 oM) F ?_;rintro _ _ ⟨rfl,rfl⟩;dsimp only [zA,fA]) | (refine ai F F F kO F ?_;rintro _ _ ⟨rfl,rfl⟩;dsimp only [zA,fA])) | (refine am F F (by refine decide_eq_false ?_;first | assumption | omega) ?_) | refine ab F F ?_ | (refine ad F (by first | rfl | (refine decide_eq_false ?_;(assumption))) ?_))
 all_goals refine jY (vs:=[_]) ?_
 all_goals rfl
theorem mq {s cs : adE} (h2 : Nat.ble 2 cs.length = true) (hc : cs.all (fun c=>decide (c.toNat < 128)) = true) (hl : Nat.ble cs.length 1000 = true) : aG adD 129 [S s,S cs] G (· = S (dA (fq cs) s)):=by
 have h2:=Nat.le_of_ble_eq_true h2
 have hl:=Nat.le_of_ble_eq_true hl
 have cx_mkas:=lu (G:=G) (w6 hc) hl
 by_cases h0 : s = []
 ·subst h0
  refine jE [(0,_),(1,_)] Tryz.func129 Tryz.ntmps129 fun B hB=>?_
  repeat' (first | refine jR ?_ | (refine jo ?_;refine aK F ?_) | refine aA F F F ?_ | refine ab F F ?_)
  all_goals refine jY (vs:=[_]) ?_
  all_goals rfl
 have hn : ¬ cs = []:=by rintro rfl;simp at h2
 refine jE [(0,_),(1,_)] Tryz.func129 Tryz.ntmps129 fun B hB=>?_
 repeat' (first | refine jR ?_ | (refine jo ?_;first | refine aw F ?_ | refine tp F F fun _=>?_ | refine sY F F F F ?_ | refine ac F F F cx_mkas F ?_ | (refine ai F F F kO F ?_;rintro _ _ ⟨rfl,rfl⟩;dsimp only [zA,fA])) | (refine am F F (by refine decide_eq_false ?_;first | assumption | omega) ?_) | refine ab F F ?_ | (refine ad F (by first | rfl | (refine decide_eq_false ?_;(assumption))) ?_))
 all_goals refine jY (vs:=[_]) ?_
 all_goals rfl
theorem qO {p : Nat → Bool} : ∀ {s : adE},dA p s = [] ↔ ∀ c ∈ s,p c.toNat = true
 | []=>by simp [dA]
 | c :: r=>by
  unfold dA
  by_cases h : p c.toNat = true
  ·rw [if_pos h,qO];simp [h]
  ·rw [if_neg h];simp [h]
theorem vP {p : Nat → Bool} {s : adE} : (∀ c ∈ fx p s,p c.toNat = true) ↔ ∀ c ∈ s,p c.toNat = true:=by
 have key : ∀ l : adE,(∀ c ∈ dA p l,p c.toNat = true) ↔ ∀ c ∈ l,p c.toNat = true:=by
  intro l
  induction l with
  | nil=>simp [dA]
  | cons c r ih =>
   unfold dA
   by_cases h : p c.toNat = true
   ·rw [if_pos h,ih];simp [h]
   ·rw [if_neg h]
 unfold fx
 have:=key s.reverse
 simpa using this
theorem rT {p : Nat → Bool} {s : adE} : dA p (fx p s) = [] ↔ ∀ c ∈ s,p c.toNat = true:=by rw [qO,vP]
def uM : adE:=[97,98,99,100,101,102,103,104,105,106,107,108,109,110,111,112,113,114,115,116,117,118,119,120,121,122]
def rS : adE:=uM ++ [48,49,50,51,52,53,54,55,56,57,32]
theorem acX (c : UInt8) : fq uM c.toNat = kF c:=by
 have : ∀ n : Nat,n < 256 → fq uM n = decide (97 ≤ n ∧ n ≤ 122):=by decide +kernel
 rw [this _ c.toNat_lt];rfl
theorem ab1 (c : UInt8) : fq rS c.toNat = decide (jf c.toNat):=by
 have : ∀ n : Nat,n < 256 → fq rS n = decide (jf n):=by decide +kernel
 exact this _ c.toNat_lt
theorem aah (s : adE) : dA (fq uM) (fx (fq uM) s) = [] ↔ s.all kF = true:=by
 rw [rT,List.all_eq_true]
 exact forall_congr' fun c=>forall_congr' fun _=>by rw [acX]
theorem dF {s : adE} (h : s.length ≤ 2000000) : aG adD 105 [S s] G (· = Bo (cB s)):=by
 have cx_trim:=wZ (G:=G) (s:=s) (cs:=uM) rfl kR rfl h
 by_cases hl : 1 ≤ s.length ∧ s.length ≤ 3
 ·refine jE [(0,_)] Tryz.func105 Tryz.ntmps105 fun B hB=>?_
  repeat' (first | refine jR ?_ | (refine jo ?_;first | refine aw F ?_ | refine ac F F F cx_trim F ?_) | refine am F F (aE oM) ?_ | refine ad F (aE oM) ?_)
  all_goals refine jY (vs:=[_]) ?_
  have:=aah s
  unfold cB
  rw [decide_eq_true hl,Bool.and_true]
  refine congrArg Bo ?_
  rw [Bool.eq_iff_iff]
  simpa using this
 ·have e : cB s = false:=by unfold cB;rw [decide_eq_false hl,Bool.and_false]
  rw [e]
  refine jE [(0,_)] Tryz.func105 Tryz.ntmps105 fun B hB=>?_
  repeat' (first | refine jR ?_ | (refine jo ?_;first | refine aK F ?_ | refine aw F ?_) | refine eD F F (fun _=>?_) (fun _=>?_) | (refine ab F (by first | rfl | (refine decide_eq_true ?_;(omega))) ?_))
  all_goals refine jY (vs:=[_]) ?_
  all_goals rfl
theorem vz (s : adE) : bo s = dA (fq [91,63]) s:=by
 induction s with
 | nil=>rfl
 | cons c r ih =>
  have e : fq [91,63] c.toNat = decide (c.toNat = 91 ∨ c.toNat = 63):=by
   have : ∀ n : Nat,n < 256 → fq [91,63] n = decide (n = 91 ∨ n = 63):=by decide +kernel
   exact this _ c.toNat_lt
  unfold bo dA
  rw [e]
  by_cases h : c.toNat = 91 ∨ c.toNat = 63
  ·simp only [h,if_true,decide_true];exact ih
  ·simp [h]
theorem sA : ∀ {s : adE},d9 (bo s) = d9 s
 | []=>rfl
 | c :: r=>by
  unfold bo
  split
  ·rename_i h;rw [sA];conv=>{ rhs;unfold d9 };rw [if_pos h]
  ·rfl
def c7 (s : adE) : List Value:=[S (sg s),S (bs s),S (nm s)]
def w8 (s : adE) (v : Value) : Prop:=∃ a b c,v = Tu [Ag [S a,S b,S c],Bo (bC s)] ∧ (bC s = true → a = sg s ∧ b = bs s ∧ c = nm s)
theorem tw {s p : adE} (hp : p.length ≤ 1000000000) (hs : s.length ≤ 1000000000) : aG adD 171 [S s,S p] G (· = Bo (decide (p.length ≤ s.length ∧ s.drop (s.length - p.length) = p))):=by
 by_cases h : p.length ≤ s.length
 ·have e : (((s.length : Nat) : Int) - ((p.length : Nat) : Int)).toNat = s.length - p.length:=oM
  refine jE [(0,_),(1,_)] Tryz.func171 Tryz.ntmps171 fun B hB=>?_
  repeat' (first | refine jM ?_ | (refine jo ?_;refine aK F ?_) | refine aA F F (aD oM) ?_)
  all_goals refine jY (vs:=[_]) ?_
  all_goals (rw [e];simp [h];try rfl)
 ·refine jE [(0,_),(1,_)] Tryz.func171 Tryz.ntmps171 fun B hB=>?_
  repeat' (first | refine jR ?_ | (refine jo ?_;refine aw F ?_) | refine am F F (aE oM) ?_)
  all_goals refine jY (vs:=[_]) ?_
  all_goals (simp [h];try rfl)
theorem oh {s p : adE} (hp : p.length ≤ 1000000000) (hs : s.length ≤ 1000000000) : aG adD 131 [S s,S p] G (· = Bo (decide (p.length ≤ s.length ∧ s.drop (s.length - p.length) = p))):=by
 refine jE [(0,_),(1,_)] Tryz.func131 Tryz.ntmps131 fun B hB=>?_
 repeat' (first | refine jR ?_ | (refine jo ?_;refine ac F F F (tw oM oM) F ?_))
 all_goals refine jY (vs:=[_]) ?_
 all_goals rfl
theorem aau {c : UInt8} {r : adE} : (1 ≤ (c :: r).length ∧ (c :: r).drop ((c :: r).length - 1) = [59]) ↔ bt (c :: r) r.length = 59:=by
 have hl : (c :: r).length - 1 = r.length:=by simp
 rw [hl]
 have hlt : r.length < (c :: r).length:=by simp
 obtain ⟨d,h1,h2⟩:=iF hlt
 rw [h1,h2]
 have h3 : (c :: r).drop (r.length + 1) = []:=by simp
 rw [h3]
 constructor
 ·rintro ⟨_,h⟩;simp only [List.cons.injEq,and_true] at h;rw [h];rfl
 ·intro h;exact ⟨by simp,by rw [show d = 59 from UInt8.toNat_inj.1 h]⟩
theorem nu : ∀ {s : adE} {c : UInt8} {r : adE},bo s = c :: r → ¬ (c.toNat = 91 ∨ c.toNat = 63)
 | [],c,r,h=>by simp [bo] at h
 | d :: s,c,r,h=>by
  unfold bo at h
  split at h
  ·exact nu h
  ·rename_i hd
   simp only [List.cons.injEq] at h
   rw [← h.1];exact hd
theorem tP {s t : adE} (h : s.length ≤ 12) (ht : bo s = t) : aG adD 90 [S s] G (w8 s):=by
 have cx_triml : aG adD 129 [S s,S [91,63]] G (· = S t):=by
  rw [← ht,vz]
  exact mq F kR F
 have hcl:=ma s
 rw [ht] at hcl
 have ek : bC s = d9 t:=by unfold bC;rw [decide_eq_true h,Bool.true_and,← ht,sA]
 have esg : s.take (((s.length : Nat) : Int) - ((t.length : Nat) : Int)).toNat = sg s:=by
  unfold sg;rw [ht];congr 1;omega
 have ebs : bs s = oo t:=by unfold bs;rw [ht]
 have enm : nm s = (bH t).getD []:=by unfold nm;rw [ht]
 have hns : ∀ c r,t = c :: r → ¬ (c.toNat = 91 ∨ c.toNat = 63):=fun c r e=>nu (ht.trans e)
 clear ht
 match t,hcl,ek,ebs,enm,cx_triml,esg,hns with
 | [],hcl,ek,ebs,enm,cx_triml,esg,hns =>
  have hno : bC s = false:=by rw [ek];rfl
  have cx_suf:=oh (G:=G) (s:=[]) (p:=[59]) (by simp) (by simp)
  refine jE [(0,_)] Tryz.func90 Tryz.ntmps90 fun B hB=>?_
  repeat' (first | refine jM ?_ | (refine jo ?_;first | refine jL fun _=>?_ | refine jV (ao F F) ?_ | refine jC F F F ?_ | refine aw F ?_ | refine ac F F F cx_triml F ?_ | refine ac F F F iR F ?_) | refine am F F F ?_ | (refine ad F (by first | rfl | (refine decide_eq_false ?_;(omega))) ?_))
  all_goals refine jZ (vs:=[_,_]) F ⟨ay F F F F,F,trivial⟩ F ⟨F,F,?_⟩
  all_goals exact ⟨[],[],[],by rw [hno];rfl,fun h=>by rw [hno] at h;cases h⟩
 | c :: r,hcl,ek,ebs,enm,cx_triml,esg,hns =>
  by_cases hA : c :: r = [110] ∨ c :: r = [116] ∨ c :: r = [102]
  ·rcases hA with hA | hA | hA
   all_goals (simp only [List.cons.injEq] at hA;obtain ⟨rfl,rfl⟩:=hA)
   all_goals have hyes : bC s = true:=by rw [ek];rfl
   all_goals refine jE [(0,_)] Tryz.func90 Tryz.ntmps90 fun B hB=>?_
   all_goals repeat' (first | refine jM ?_ | (refine jo ?_;first | refine jL fun _=>?_ | refine jV (ao F F) ?_ | refine jD F F F ?_ | refine jC F F F ?_ | refine aK F ?_ | refine aw F ?_ | refine aQ F ?_ | refine ac F F F cx_triml F ?_) | refine aA F F F ?_ | refine am F F F ?_ | refine ab F F ?_ | refine ad F (aE oM) ?_)
   all_goals refine jZ (vs:=[_,_]) F ⟨ay F F F F,F,trivial⟩ F ⟨F,F,?_⟩
   all_goals exact ⟨_,_,_,by rw [hyes];rfl,fun _=>⟨esg,by rw [ebs];rfl,by rw [enm];rfl⟩⟩
  simp only [not_or] at hA
  obtain ⟨hA1,hA2,hA3⟩:=hA
  by_cases hc : c = 64
  case neg =>
   have hc' : ¬ c.toNat = 64:=fun h=>hc (UInt8.toNat_inj.1 h)
   have hno : bC s = false:=by
    rw [ek,d9,if_neg (hns c r rfl),if_neg hc']
    by_cases hr : r = []
    ·subst hr
     have n1 : ¬ c.toNat = 110:=fun h=>hA1 (by rw [show c = 110 from UInt8.toNat_inj.1 h])
     have n2 : ¬ c.toNat = 116:=fun h=>hA2 (by rw [show c = 116 from UInt8.toNat_inj.1 h])
     have n3 : ¬ c.toNat = 102:=fun h=>hA3 (by rw [show c = 102 from UInt8.toNat_inj.1 h])
     simp [n1,n2,n3]
    ·simp [hr]
   have hp : ([64] : adE).isPrefixOf (c :: r) = false:=by simp [List.isPrefixOf];exact fun h=>hc h.symm
   refine jE [(0,_)] Tryz.func90 Tryz.ntmps90 fun B hB=>?_
   repeat' (first | refine jM ?_ | (refine jo ?_;first | refine jL fun _=>?_ | refine jV (ao F F) ?_ | refine jC F F F ?_ | refine aw F ?_ | refine ac F F F cx_triml F ?_ | refine ac F F F iR F ?_) | (refine am F F (by first | assumption | (refine decide_eq_false ?_;(assumption))) ?_) | (refine ad F (by first | rfl | (refine decide_eq_false ?_;first | assumption | omega)) ?_))
   all_goals refine jZ (vs:=[_,_]) F ⟨ay F F F F,F,trivial⟩ F ⟨F,F,?_⟩
   all_goals exact ⟨[],[],[],by rw [hno];rfl,fun h=>by rw [hno] at h;cases h⟩
  subst hc
  have hp : ([64] : adE).isPrefixOf (64 :: r) = true:=by simp [List.isPrefixOf]
  have hsuf:=oh (G:=G) (s:=64 :: r) (p:=[59]) (by simp) (by simp at hcl ⊢;omega)
  have ek2 : bC s = (decide (bt (64 :: r) r.length = 59) && cB (r.take (r.length - 1))):=by
   rw [ek,d9,if_neg dC,if_pos dC]
   congr 1
   refine decide_eq_decide.2 ?_
   omega
  have hsb:=aau (c:=64) (r:=r)
  by_cases hb : bt (64 :: r) r.length = 59
  case neg =>
   have cx_suf : aG adD 131 [S (64 :: r),S [59]] G (· = Bo false):=by
    have e : decide (([59] : adE).length ≤ (64 :: r : adE).length ∧ (64 :: r : adE).drop ((64 :: r : adE).length - ([59] : adE).length) = [59]) = false:=decide_eq_false fun h=>hb (hsb.1 h)
    rwa [e] at hsuf
   have hno : bC s = false:=by rw [ek2,decide_eq_false hb,Bool.false_and]
   refine jE [(0,_)] Tryz.func90 Tryz.ntmps90 fun B hB=>?_
   repeat' (first | refine jM ?_ | (refine jo ?_;first | refine jL fun _=>?_ | refine jV (ao F F) ?_ | refine jC F F F ?_ | refine aK F ?_ | refine aw F ?_ | refine ac F F F cx_triml F ?_ | refine ac F F F iR F ?_ | refine ac F F F cx_suf F ?_) | refine aA F F F ?_ | refine am F F F ?_ | (refine ad F (by first | rfl | (refine decide_eq_false ?_;(omega))) ?_))
   all_goals refine jZ (vs:=[_,_]) F ⟨ay F F F F,F,trivial⟩ F ⟨F,F,?_⟩
   all_goals exact ⟨[],[],[],by rw [hno];rfl,fun h=>by rw [hno] at h;cases h⟩
  have cx_suf : aG adD 131 [S (64 :: r),S [59]] G (· = Bo true):=by
   have e : decide (([59] : adE).length ≤ (64 :: r : adE).length ∧ (64 :: r : adE).drop ((64 :: r : adE).length - ([59] : adE).length) = [59]) = true:=decide_eq_true (hsb.2 hb)
   rwa [e] at hsuf
  have hr : 1 ≤ r.length:=by
   cases r with
   | nil=>exact absurd hb dC
   | cons=>simp
  have hl2 : (64 :: r : adE).length = r.length + 1:=rfl
  have e1 : ((64 :: r : adE).take ((((64 :: r : adE).length : Nat) : Int) - 1).toNat).drop (Int.toNat 1) = r.take (r.length - 1):=by
   have e2 : ((((64 :: r : adE).length : Nat) : Int) - 1).toNat = (r.length - 1) + 1:=oM
   rw [e2,List.take_succ_cons];rfl
  have hyes : bC s = cB (r.take (r.length - 1)):=by rw [ek2,decide_eq_true hb,Bool.true_and]
  have cx_isnm : aG adD 105 [S (((64 :: r : adE).take ((((64 :: r : adE).length : Nat) : Int) - 1).toNat).drop (Int.toNat 1))] G (· = Bo (cB (r.take (r.length - 1)))):=by
   rw [e1];exact dF (by simp at hcl ⊢;omega)
  refine jE [(0,_)] Tryz.func90 Tryz.ntmps90 fun B hB=>?_
  repeat' (first | refine jM ?_ | (refine jo ?_;first | refine jL fun _=>?_ | refine jV (ao F F) ?_ | refine jD F F F ?_ | refine jC F F F ?_ | refine aK F ?_ | refine aw F ?_ | refine ac F F F cx_triml F ?_ | refine ac F F F iR F ?_ | refine ac F F F cx_suf F ?_) | refine aA F F F ?_ | refine am F F F ?_ | refine ab F F ?_ | (refine ad F (by first | rfl | (refine decide_eq_false ?_;(omega))) ?_) | (refine ak (dL (id:=11) (tt:=2) F aj ?_);refine jW 5 [1] (aa 6 2) ?_;(refine jG (aa 6 3) 0 F (bz F F F F) ?_);(refine jG (aa 6 7) 2 F (aC F F F) ?_);refine jA 3 F ?_;(refine ac F F F cx_isnm F ?_);refine jK (aa 6 15) ?_;refine jA 4 F ?_;(refine jC F F F ?_);refine jK (aa 6 31) ?_;refine jW 0 [5] (aa 6 63) ?_;refine jQ ?_))
  all_goals refine jZ (vs:=[_,_]) F ⟨ay F F F F,F,trivial⟩ F ⟨F,F,?_⟩
  all_goals exact ⟨_,_,_,by rw [hyes];rfl,fun _=>⟨esg,by rw [ebs];rfl,by rw [enm,e1];rfl⟩⟩
theorem mg {s : adE} (h : s.length ≤ 2000000) : aG adD 90 [S s] G (w8 s):=by
 by_cases hl : s.length ≤ 12
 ·exact tP hl F
 have e : bC s = false:=by unfold bC;rw [decide_eq_false hl,Bool.false_and]
 refine jE [(0,_)] Tryz.func90 Tryz.ntmps90 fun B hB=>?_
 repeat' (first | refine jR ?_ | (refine jo ?_;first | refine jL fun _=>?_ | refine jV (ao F F) ?_ | refine jC F F F ?_) | refine ab F (aD oM) ?_)
 all_goals refine jZ (vs:=[_,_]) F ⟨ay F F F F,F,trivial⟩ F ⟨F,F,?_⟩
 all_goals exact ⟨[],[],[],by rw [e];rfl,fun h=>by rw [e] at h;cases h⟩
theorem vM {c : UInt8} (h : 48 ≤ c.toNat) : u8 (48 + ((c.toNat : Int) - 48)) = c:=by
 apply UInt8.toNat_inj.1
 have h2:=c.toNat_lt
 have:=fh (a:=48 + ((c.toNat : Int) - 48)) oM
 omega
theorem sR : ∀ {s : adE} {n m : Int},1 ≤ n → df n s = some m → a8 m = a8 n ++ s ∧ n ≤ m
 | [],n,m,h0,h=>by simp only [df,Option.some.injEq] at h;subst h;simp
 | c :: r,n,m,h0,h=>by
  unfold df at h
  split at h
  ·rename_i hc
   have ih:=sR (s:=r) oM h
   refine ⟨?_,oM⟩
   have e1 : (10 * n + ((c.toNat : Int) - 48)) / 10 = n:=oM
   have e2 : (10 * n + ((c.toNat : Int) - 48)) % 10 = (c.toNat : Int) - 48:=oM
   rw [ih.1,g7 (n:=10 * n + ((c.toNat : Int) - 48)) oM,e1,e2,vM hc.1];simp
  ·cases h
theorem nr : ∀ (k : Nat) {m : Int},m.toNat ≤ k → 1 ≤ m → ∃ c r,a8 m = c :: r ∧ c.toNat ≠ 48
 | 0,m,h,h1=>by omega
 | k + 1,m,h,h1=>by
  by_cases hm : m < 10
  ·refine ⟨_,[],dP hm oM,?_⟩
   have:=fh (a:=48 + m) oM
   omega
  ·obtain ⟨c,r,e,hc⟩:=nr k (m:=m / 10) oM oM
   exact ⟨c,r ++ [u8 (48 + m % 10)],by rw [g7 hm,e];rfl,hc⟩
theorem qF : ∀ {s : adE} {n m : Int},0 ≤ n → df n s = some m → 0 ≤ m
 | [],n,m,h0,h=>by simp only [df,Option.some.injEq] at h;omega
 | c :: r,n,m,h0,h=>by
  unfold df at h
  split at h
  ·exact qF (s:=r) oM h
  ·cases h
theorem ur {c : UInt8} {r : adE} {m : Int} (h : df 0 (c :: r) = some m) : c :: r = a8 m ↔ ¬ (c.toNat = 48 ∧ r ≠ []):=by
 have h':=h
 unfold df at h
 split at h
 ·rename_i hc
  by_cases h0 : c.toNat = 48
  ·have e0 : (10 * 0 + ((c.toNat : Int) - 48)) = 0:=oM
   rw [e0] at h
   constructor
   ·rintro e ⟨_,hr⟩
    have hm:=qF (Int.le_refl 0) h
    rcases Int.lt_or_le m 1 with h1 | h1
    ·have : m = 0:=oM
     subst this
     rw [dP oM oM] at e
     simp only [List.cons.injEq] at e
     exact hr e.2
    ·obtain ⟨d,t,e2,hd⟩:=nr m.toNat (Nat.le_refl _) h1
     rw [e2] at e
     simp only [List.cons.injEq] at e
     exact hd (by rw [← e.1];exact h0)
   ·intro hn
    have hr : r = []:=by
     by_cases hr : r = []
     ·exact hr
     ·exact absurd ⟨h0,hr⟩ hn
    subst hr
    simp only [df,Option.some.injEq] at h
    subst h
    rw [dP oM oM]
    congr 1
    apply UInt8.toNat_inj.1
    have:=fh (a:=48 + 0) oM
    omega
  ·have:=sR oM h
   rw [this.1,dP oM oM]
   have e : (10 * 0 + ((c.toNat : Int) - 48)) = (c.toNat : Int) - 48:=oM
   rw [e,vM hc.1]
   simp [h0]
 ·cases h
theorem iG {s : adE} {top : Int} (h : s.length ≤ 100000000) : aG adD 98 [S s,I top] G (fun v=>∃ n,v = Tu [I n,Bo (aM s top).isSome] ∧ (∀ m,aM s top = some m → n = m) ∧ 0 ≤ n ∧ n ≤ 999999):=by
  by_cases hl : 1 ≤ s.length ∧ s.length ≤ 6
  case neg =>
    have hno : aM s top = none:=by
      unfold aM
      by_cases h6 : s.length ≤ 6
      · have : s = []:=List.length_eq_zero_iff.1 oM
        subst this
        rw [if_pos (by simp)]
        simp [df,dP]
      · rw [if_neg h6]
    refine jE [(0,_),(1,_)] Tryz.func98 Tryz.ntmps98 fun B hB=>?_
    repeat' (first | refine jR ?_ | (refine jo ?_;first | refine aK F ?_ | refine aw F ?_) | (refine aA F F (by first | rfl | (refine decide_eq_true ?_;(omega))) ?_) | refine eD F F (fun _=>?_) (fun _=>?_) | refine ab F F ?_)
    all_goals refine jY (vs:=[_,_]) ?_
    all_goals exact ⟨_,by rw [hno];rfl,fun m hm=>(by rw [hno] at hm;cases hm),by decide,by decide⟩
  by_cases hz : bt s 0 = 48 ∧ 1 < s.length
  · have hz0 : bt s (Int.toNat 0) = 48:=hz.1
    have hno : aM s top = none:=by
      match s,hz,hl with
      | c :: r,hz,hl =>
        unfold aM
        rw [if_pos hl.2]
        split
        · rename_i n hn
          rw [if_neg]
          rintro ⟨e,_⟩
          rw [a6] at hz
          exact (ur hn).1 e ⟨hz.1,by rintro rfl;simp at hz⟩
        · rfl
    refine jE [(0,_),(1,_)] Tryz.func98 Tryz.ntmps98 fun B hB=>?_
    repeat' (first | refine jM ?_ | (refine jo ?_;first | refine aK F ?_ | refine aw F ?_) | refine aA F F (aD oM) ?_ | refine am F F (aE oM) ?_ | refine ab F (aD oM) ?_)
    all_goals refine jY (vs:=[_,_]) ?_
    all_goals exact ⟨_,by rw [hno];rfl,fun m hm=>(by rw [hno] at hm;cases hm),by decide,by decide⟩
  have hz0 : ¬ (bt s (Int.toNat 0) = 48 ∧ 1 < s.length):=hz
  have key : aM s top = match df 0 s with
      | some n=>if n ≤ top then some n else none
      | none=>none:=by
    match s,hz,hl with
    | c :: r,hz,hl =>
      unfold aM
      rw [if_pos hl.2]
      cases hd : df 0 (c :: r) with
      | some n =>
        have hn:=hd
        have : c :: r = a8 n:=(ur hn).2 (by rw [a6] at hz;rintro ⟨h1,h2⟩;exact hz ⟨h1,by have:=List.length_pos_iff.2 h2;simp;omega⟩)
        dsimp only
        rw [← this]
        simp
      | none=>rfl
  refine jE [(0,_),(1,_)] Tryz.func98 Tryz.ntmps98 fun B hB=>?_
  repeat' (first | refine jM ?_ | (refine jo ?_;first | refine aK F ?_ | refine aw F ?_) | refine am F F (aE oM) ?_ | refine eD F F (fun _=>?_) (fun _=>?_) | (refine ad F (by first | rfl | (refine decide_eq_false ?_;(omega))) ?_))
  all_goals (refine aU (ι:=Nat × Int) (fun i=>(i.1 ≤ s.length ∧ i.1 ≤ 6) ∧ (0 ≤ i.2 ∧ i.2 + 1 ≤ 10 ^ i.1) ∧ df i.2 (s.drop i.1) = df 0 s) (fun i=>[(0,S s),(1,I top),(6,I i.2),(27,I s.length),(28,I i.1)]) (fun _=>G) (fun i=>[]) (fun i=>s.length - i.1) (0,0) ?_ tU F aZ (fun i Hi=>?_))
  all_goals (first | exact ⟨⟨by dsimp only;omega,by dsimp only;omega⟩,⟨by dsimp only;omega,by dsimp only;decide⟩,rfl⟩ | skip)
  all_goals obtain ⟨i,n⟩:=i
  all_goals dsimp only at Hi ⊢
  all_goals by_cases hi : i < s.length
  all_goals first
    | (obtain ⟨c,hc1,hc2⟩:=iF hi
       have hc3 : bt s ((i : Int).toNat) = c.toNat:=hc2
       have hd:=Hi.2.2
       rw [hc1,df] at hd
       have h5 : i ≤ 5:=oM
       have hp:=xu i h5
       by_cases hdig : 48 ≤ c.toNat ∧ c.toNat ≤ 57
       · rw [if_pos hdig] at hd
         repeat' (first | refine jM ?_ | (refine jo ?_;refine aw F ?_) | refine am F F (aE oM) ?_ | refine ab F (aD oM) ?_ | refine ad F (aE oM) ?_)
         refine a7 (i + 1,10 * n + ((c.toNat : Int) - 48)) ⟨⟨by dsimp only;omega,by dsimp only;omega⟩,⟨by dsimp only;omega,by dsimp only;rw [hp.1];omega⟩,hd⟩ (by dsimp only;omega) ?_ rfl aZ
         rw [← hc2];repeat (first | exact trivial | refine ⟨F,?_⟩)
       · rw [if_neg hdig] at hd
         have hno : aM s top = none:=by rw [key,← hd]
         repeat' (first | refine jM ?_ | (refine jo ?_;first | refine aK F ?_ | refine aw F ?_) | refine eD F F (fun _=>?_) (fun _=>?_) | (refine ab F (by first | rfl | (refine decide_eq_true ?_;(omega))) ?_))
         all_goals refine jY (vs:=[_,_]) ?_
         all_goals exact ⟨_,by rw [hno];rfl,fun m hm=>(by rw [hno] at hm;cases hm),by decide,by decide⟩)
    | (have ei : i = s.length:=oM
       have hd:=Hi.2.2
       rw [ei,List.drop_length,df] at hd
       have hno : aM s top = if n ≤ top then some n else none:=by rw [key,← hd]
       repeat' (first | refine jR ?_ | refine ad F (aE oM) ?_)
       refine jY (vs:=[_,_]) ?_
       have hp6 : ∀ i : Nat,i ≤ 6 → (10 : Int) ^ i ≤ 1000000:=by decide
       have hp7:=hp6 i oM
       have hlo:=Hi.2.1.1
       have hhi:=Hi.2.1.2
       refine ⟨n,?_,fun m hm=>?_,oM,oM⟩
       · rw [hno,eC]
         by_cases ht : n ≤ top
         · rw [if_pos ht,decide_eq_true ht];rfl
         · rw [if_neg ht,decide_eq_false ht];rfl
       · rw [hno] at hm
         split at hm
         · exact Option.some.inj hm
         · cases hm)
theorem dS {s : adE} {top : Int} (h : s.length ≤ 100000000) : aG adD 98 [S s,I top] G (fun v=>∃ n,v = Tu [I n,Bo (aM s top).isSome] ∧ (∀ m,aM s top = some m → n = m)):=by
 refine (iG (G:=G) h).mono ?_
 rintro v G' L' ⟨h1,h2,n,h3,h4,_⟩
 exact ⟨h1,h2,n,h3,h4⟩
theorem wT : ∀ (k : Nat) {n : Int},n.toNat ≤ k → 0 ≤ n ∧ n ≤ 9223372036854775807 → aG adD 95 [I n] G (· = S (a8 n)):=by
 intro k
 induction k with
 | zero =>
  intro n hk hn
  have h1 : n < 10:=oM
  refine jE [(0,_)] Tryz.func95 Tryz.ntmps95 fun B hB=>?_
  repeat' (first | refine jM ?_ | (refine jo ?_;first | refine jF fun _=>?_ | refine jV (dU F F (by (repeat (first | exact BL.nil | apply BL.cons));done)) ?_) | refine ab F (aD ‹_›) ?_)
  refine jY (vs:=[_]) ?_
  rw [aH,dP h1 hn.1]
 | succ k ih =>
  intro n hk hn
  have hl:=gR (n:=n / 10) oM
  have hl2:=gR (n:=n % 10) oM
  by_cases h1 : n < 10
  ·refine jE [(0,_)] Tryz.func95 Tryz.ntmps95 fun B hB=>?_
   repeat' (first | refine jM ?_ | (refine jo ?_;first | refine jF fun _=>?_ | refine jV (dU F F (by (repeat (first | exact BL.nil | apply BL.cons));done)) ?_) | refine ab F (aD ‹_›) ?_)
   refine jY (vs:=[_]) ?_
   rw [aH,dP h1 hn.1]
  ·refine jE [(0,_)] Tryz.func95 Tryz.ntmps95 fun B hB=>?_
   repeat' (first | refine jM ?_ | (refine jo ?_;(refine ac F F F (ih oM ?_) F ?_;focus omega)) | refine ad F (aE ‹_›) ?_)
   all_goals refine jY (vs:=[_]) ?_
   all_goals rw [aH,g7 (n:=n) h1,dP (n:=n % 10) oM oM]
theorem gu {n : Int} (hn : 0 ≤ n ∧ n ≤ 9223372036854775807) : aG adD 95 [I n] G (· = S (a8 n)):=wT n.toNat (Nat.le_refl _) hn
theorem l9 (c : UInt8) : ∀ s acc : adE,(d4 c.toNat acc s).length = s.count c + 1
 | [],acc=>by simp [d4]
 | d :: r,acc=>by
  unfold d4
  by_cases h : d = c
  ·subst h
   rw [if_pos rfl,List.length_cons,l9 d r []];simp
  ·have h2 : ¬ d.toNat = c.toNat:=fun e=>h (UInt8.toNat_inj.1 e)
   rw [if_neg h2,l9 c r _,List.count_cons];simp [h]
theorem aad {s : adE} {c : UInt8} : aG adD 182 [S s,S [c]] G (· = I (((aY c.toNat s).length : Int) - 1)):=by
 have hx : ∀ w,(callFunc 207 [S s,U8 (bt [c] (Int.toNat 0))].toArray).run adD w = .ok (.value (I (((aY c.toNat s).length : Int) - 1))) w:=fun w=>by
  rw [show bt [c] (Int.toNat 0) = c.toNat from a6 c []]
  rw [run_callFunc_extern Tryz.func207 kR kR kR (e:=Extern.BytealgCount.count) kR]
  have:=Lib.run_countString (P:=adD) ⟨s.toArray⟩ (c.toNat : Int) w
  rw [this]
  simp only [Result.andThen]
  have e : (aY c.toNat s).length = s.count c + 1:=l9 c s []
  rw [e]
  simp [Lib.countByte]
 refine jE [(0,_),(1,_)] Tryz.func182 Tryz.ntmps182 fun B hB=>?_
 repeat' (first | refine jX ?_ | refine ab F F ?_ | refine ad F F ?_)
 refine vj F (kS (oS F F F hx) F F ?_)
 repeat' (refine jR ?_)
 refine jY (vs:=[_]) ?_
 rfl
theorem vF {s : adE} {c : UInt8} (hs : s.length ≤ 100000000) : bd adD 145 [S s,S [c],I 0,I (-1)] G (fun v G'=>bq G' v 1 (aY c.toNat s).length (ax bY (aY c.toNat s))):=by
 have hlen:=g8 (k:=c.toNat) (s:=s)
 have hpos:=dZ (k:=c.toNat) (s:=s)
 have emin : min (((aY c.toNat s).length : Int) - 1 + 1) ((s.length : Int) + 1) = ((aY c.toNat s).length : Nat):=oM
 refine jB [(0,_),(1,_),(2,_),(3,_)] Tryz.func145 Tryz.ntmps145 fun B hok hB hW=>?_
 repeat' (first | refine jM ?_ | (refine jo ?_;first | refine jV (vn F F) ?_ | refine ac F F F aad F ?_) | refine ab F F ?_ | refine ad F F ?_)
 rw [emin]
 repeat' (first | refine jM ?_ | (refine jo ?_;refine adr F F F F oM (fun _=>?_)))
 rename_i x
 refine aU (ι:=List adE × adE) (fun i=>i.1.length + i.2.length ≤ s.length ∧ i.1.length < (aY c.toNat s).length ∧ i.1 ++ aY c.toNat i.2 = aY c.toNat s) (fun i=>[(0,S i.2),(1,S [c]),(2,I 0),(3,I (((aY c.toNat s).length : Int) - 1)),(9,.slice (some ⟨x,0,none⟩) (aY c.toNat s).length (aY c.toNat s).length),(10,I (i.1.length : Nat))]) (fun _=>G) (fun i=>[.blk x (.cells (ax bY i.1 ++ bW [S []] ((aY c.toNat s).length - i.1.length)).toArray uT (0,0))]) (fun i=>(aY c.toNat s).length - i.1.length) ([],s) ?_ tU F aZ (fun i Hi=>?_)
 ·exact ⟨by simp,hpos,F⟩
 obtain ⟨xs,t⟩:=i
 dsimp only at Hi ⊢
 obtain ⟨hl,hlt,he⟩:=Hi
 have hel:=congrArg List.length he
 rw [List.length_append] at hel
 rcases pN c.toNat t with ⟨h1,h2⟩ | ⟨m,h1,h3,h2⟩
 ·have hc1 : aY c.toNat t = [t]:=by rw [kg,h2];rfl
  rw [hc1] at he hel
  simp only [List.length_cons,List.length_nil] at hel
  have hm : (aY c.toNat s).length - xs.length = 1:=oM
  rw [hm]
  repeat' (first | refine jM ?_ | (refine jo ?_;first | refine jV (aq F F oM) ?_ | (refine wH F F F oM ?_ ?_;focus omega) | refine jV (sF F F oM) ?_) | refine ad F (aE oM) ?_)
  refine Nx.sealC (b:=x) fun G' hle hseg=>?_
  refine jZ (vs:=[_]) F ⟨F,trivial⟩ F ⟨hle,F,?_⟩
  have e1 : (((xs.length : Nat) : Int) + 1).toNat = (aY c.toNat s).length:=oM
  have e2 : ax bY (xs ++ [t]) ++ bW [S []] (1 - 1) = ax bY (aY c.toNat s):=by rw [he];simp [bW]
  rw [aH,e1]
  rw [e2] at hseg
  exact ⟨by rw [rZ],.inr ⟨_,_,_,F,Nat.le_refl _,hseg⟩⟩
 ·have hc1 : aY c.toNat t = t.take m :: aY c.toNat (t.drop (m + 1)):=by rw [kg,h2];rfl
  rw [hc1] at he hel
  have hp2:=dZ (k:=c.toNat) (s:=t.drop (m + 1))
  simp only [List.length_cons] at hel
  have cx_ix : aG adD 183 [S t,S [c]] G (· = I (m : Int)):=by have:=uJ (G:=G) (s:=t) (c:=c);rwa [h1] at this
  obtain ⟨k,hk⟩ : ∃ k,(aY c.toNat s).length - xs.length = k + 1:=⟨(aY c.toNat s).length - xs.length - 1,oM⟩
  have hk2 : (aY c.toNat s).length = xs.length + k + 1:=oM
  rw [hk]
  generalize (aY c.toNat s).length = N at *
  repeat' (first | refine jX ?_ | (refine jo ?_;first | refine jV (aq F F oM) ?_ | (refine wH F F F oM ?_ ?_;focus omega) | refine ac F F F cx_ix F ?_) | refine ab F (aD oM) ?_ | refine ad F F ?_)
  have e1 : ax bY (xs ++ [t.take ((m : Int) + 0).toNat]) ++ bW [S []] (k + 1 - 1) = ax bY (xs ++ [t.take m]) ++ bW [S []] (N - (xs ++ [t.take m]).length):=by
   have e2 : N - (xs ++ [t.take m]).length = k + 1 - 1:=by simp;omega
   rw [e2]
   have e3 : ((m : Int) + 0).toNat = m:=oM
   rw [e3]
  have e4 : ((m : Int) + (([c] : adE).length : Nat)).toNat = m + 1:=by simp only [List.length_cons,List.length_nil];omega
  have e5 : ((xs.length : Nat) : Int) + 1 = ((xs ++ [t.take m]).length : Nat):=by simp
  rw [e1,e4,e5]
  refine a7 (xs ++ [t.take m],t.drop (m + 1)) ⟨by simp;omega,by simp;omega,by simpa using he⟩ (by simp;omega) tU rfl aZ
theorem uI {s : adE} {c : UInt8} (hs : s.length ≤ 100000000) : bd adD 97 [S s,S [c]] G (fun v G'=>bq G' v 1 (aY c.toNat s).length (ax bY (aY c.toNat s))):=by
 have cx_gs:=vF (G:=G) (c:=c) hs
 refine jB [(0,_),(1,_)] Tryz.func97 Tryz.ntmps97 fun B hok hB hW=>?_
 repeat' (first | refine jR ?_ | (refine jo ?_;(refine aF F F F cx_gs F ?_;rintro _ G hle hspl;skip)))
 all_goals refine jZ (vs:=[_]) F ⟨F,trivial⟩ F ⟨hle,F,?_⟩
 all_goals exact hspl
def jh (f : Fld) : List Value:=[I f.tag,S f.name,S (sg f.kind),S (bs f.kind),S (nm f.kind),S f.stand]
instance : RowF jh 6:=⟨fun _=>rfl⟩
theorem yL (s : adE) : dA (fq rS) (fx (fq rS) s) = [] ↔ ∀ c ∈ s,jf c.toNat:=by
 rw [rT]
 exact forall_congr' fun c=>forall_congr' fun _=>by rw [ab1];simp
def na (s : adE) : Bool:=decide (s.length ≤ 12) && s.all fun c=>decide (jf c.toNat)
theorem kr {s : adE} (h : s.length ≤ 2000000) : aG adD 136 [S s] G (· = Bo (na s)):=by
 have cx_trim:=wZ (G:=G) (s:=s) (cs:=rS) rfl kR rfl h
 have key:=yL s
 have e : na s = (decide (s.length ≤ 12) && decide (dA (fq rS) (fx (fq rS) s) = [])):=by
  unfold na
  congr 1
  rw [Bool.eq_iff_iff,List.all_eq_true,decide_eq_true_eq,key]
  simp
 rw [e]
 by_cases hl : s.length ≤ 12
 ·rw [decide_eq_true hl,Bool.true_and]
  refine jE [(0,_)] Tryz.func136 Tryz.ntmps136 fun B hB=>?_
  repeat' (first | refine jR ?_ | (refine jo ?_;first | refine aK F ?_ | refine ac F F F cx_trim F ?_) | refine aA F F (aD oM) ?_)
  all_goals refine jY (vs:=[_]) ?_
  all_goals rfl
 ·rw [decide_eq_false hl,Bool.false_and]
  refine jE [(0,_)] Tryz.func136 Tryz.ntmps136 fun B hB=>?_
  repeat' (first | refine jR ?_ | (refine jo ?_;refine aw F ?_) | refine am F F (aE oM) ?_)
  all_goals refine jY (vs:=[_]) ?_
  all_goals rfl
theorem uh {s : adE} : (dc s && decide (s ≠ [39,39])) = (decide (2 < s.length) && (decide (bt s 0 = 39) && (decide (bt s (s.length - 1) = 39) && na ((s.take (s.length - 1)).drop 1)))):=by
 rw [Bool.eq_iff_iff]
 simp only [Bool.and_eq_true,decide_eq_true_eq,dc,na,List.all_eq_true]
 constructor
 ·rintro ⟨⟨h1,h2,h3,h4⟩,h5⟩
  have hl : 2 < s.length:=by
   rcases Nat.lt_or_ge 2 s.length with h6 | h6
   ·exact h6
   ·exfalso
    match s,h1,h6,h2,h3 with
    | [a,b],_,_,h2,h3 =>
     rw [a6] at h2
     simp only [List.length_cons,List.length_nil] at h3
     rw [show (0 + 1 + 1 - 1) = 0 + 1 from rfl,dQ,a6] at h3
     have e1 : a = 39:=UInt8.toNat_inj.1 h2
     have e2 : b = 39:=UInt8.toNat_inj.1 h3
     subst e1;subst e2;exact h5 F
  refine ⟨hl,h2,h3,by simp;omega,fun c hc=>?_⟩
  obtain ⟨i,hi,rfl⟩:=List.mem_iff_getElem.1 hc
  simp only [List.length_drop,List.length_take] at hi
  have e : bt s (i + 1) = (((s.take (s.length - 1)).drop 1)[i]'(by simp;omega)).toNat:=by
   simp [bt,List.getD,List.getElem?_eq_getElem (show i + 1 < s.length by omega)]
  rw [← e]
  rcases h4 (i + 1) oM with h6 | h6
  ·omega
  ·exact h6
 ·rintro ⟨hl,h2,h3,h4,h5⟩
  simp only [List.length_drop,List.length_take] at h4
  refine ⟨⟨oM,h2,h3,fun i hi=>?_⟩,fun e=>by subst e;simp at hl⟩
  rcases Nat.eq_zero_or_pos i with h6 | h6
  ·exact .inl h6
  ·refine .inr ?_
   have e : bt s i = (((s.take (s.length - 1)).drop 1)[i - 1]'(by simp;omega)).toNat:=by
    have e1 : i - 1 + 1 = i:=oM
    simp [bt,List.getD,List.getElem?_eq_getElem (show i < s.length by omega),e1]
   rw [e]
   exact h5 _ (List.getElem_mem _)
theorem pY {b v : adE} (h : v.length ≤ 2000000) : aG adD 197 [S b,S v] G (· = Bo (bN b v)):=by
 by_cases h1 : b = [110]
 ·have e : bN b v = ((aM v 999999).isSome && decide (v ≠ [48])):=by rw [bN,if_pos h1]
  rw [e]
  rcases hn : aM v 999999 with _ | m
  ·refine jE [(0,_),(1,_)] Tryz.func197 Tryz.ntmps197 fun B hB=>?_
   repeat' (first | refine jR ?_ | (refine jo ?_;first | refine aw F ?_ | (refine dn F F F (dS oM) F ?_;rintro _ ⟨n,rfl,hnum⟩)) | (refine am F F ?_ ?_;(focus ((simp [*];done);done))) | refine ab F (aD ‹_›) ?_)
   all_goals refine jY (vs:=[_]) ?_
   all_goals (simp [*])
  ·have hm:=dE hn
   have h0 : 0 ≤ m:=by
    unfold aM at hn
    split at hn
    ·split at hn
     ·rename_i hd
      split at hn
      ·simp only [Option.some.injEq] at hn;subst hn;exact qF (Int.le_refl 0) hd
      ·cases hn
     ·cases hn
    ·cases hn
   have ev : decide (v ≠ [48]) = decide (0 < m):=by
    refine decide_eq_decide.2 ?_
    rw [hm.2.1]
    constructor
    ·intro h2
     rcases Int.lt_or_le 0 m with h3 | h3
     ·exact h3
     ·have : m = 0:=oM
      subst this
      exact absurd (by rw [dP oM oM];rfl) h2
    ·intro h2 h3
     obtain ⟨c,r,e2,hc⟩:=nr m.toNat (Nat.le_refl _) oM
     rw [e2] at h3
     simp only [List.cons.injEq] at h3
     exact hc (by rw [h3.1];rfl)
   have cx_pnum : aG adD 98 [S v,I 999999] G (· = Tu [I m,Bo true]):=by
    refine (dS (G:=G) (top:=999999) (s:=v) oM).mono ?_
    rintro w G' L' ⟨h2,h3,n,rfl,h4⟩
    exact ⟨h2,h3,by rw [hn,h4 m hn];rfl⟩
   rw [ev]
   refine jE [(0,_),(1,_)] Tryz.func197 Tryz.ntmps197 fun B hB=>?_
   repeat' (first | refine jR ?_ | (refine jo ?_;first | refine aK F ?_ | refine ac F F F cx_pnum F ?_) | refine aA F F F ?_ | refine ab F (aD ‹_›) ?_)
   all_goals refine jY (vs:=[_]) ?_
   all_goals (simp [*])
 by_cases h2 : b = [116]
 ·have e : bN b v = (dc v && decide (v ≠ [39,39])):=by rw [bN,if_neg h1,if_pos h2]
  rw [e,uh]
  have e4 : (((v.length : Nat) : Int) - 1).toNat = v.length - 1:=oM
  by_cases hl : 2 < v.length
  case neg =>
   rw [decide_eq_false hl,Bool.false_and]
   refine jE [(0,_),(1,_)] Tryz.func197 Tryz.ntmps197 fun B hB=>?_
   repeat' (first | refine jR ?_ | (refine jo ?_;refine aw F ?_) | (refine am F F (by first | rfl | (refine decide_eq_false ?_;(omega))) ?_) | refine ab F (aD ‹_›) ?_ | refine ad F (aE ‹_›) ?_)
   all_goals refine jY (vs:=[_]) ?_
   all_goals rfl
  rw [decide_eq_true hl,Bool.true_and]
  by_cases hq : bt v 0 = 39
  case neg =>
   have hq2 : ¬ bt v (Int.toNat 0) = 39:=hq
   rw [decide_eq_false hq,Bool.false_and]
   refine jE [(0,_),(1,_)] Tryz.func197 Tryz.ntmps197 fun B hB=>?_
   repeat' (first | refine jM ?_ | (refine jo ?_;first | refine aK F ?_ | refine aw F ?_) | refine aA F F (aD oM) ?_ | (refine am F F (by first | rfl | (refine decide_eq_false ?_;(omega))) ?_) | refine ab F (aD ‹_›) ?_ | refine ad F (aE ‹_›) ?_)
   all_goals refine jY (vs:=[_]) ?_
   all_goals rfl
  have hq2 : bt v (Int.toNat 0) = 39:=hq
  rw [decide_eq_true hq,Bool.true_and]
  by_cases hr : bt v (v.length - 1) = 39
  case neg =>
   have hr2 : ¬ bt v (((v.length : Nat) : Int) - 1).toNat = 39:=by rw [e4];exact hr
   rw [decide_eq_false hr,Bool.false_and]
   refine jE [(0,_),(1,_)] Tryz.func197 Tryz.ntmps197 fun B hB=>?_
   repeat' (first | refine jM ?_ | (refine jo ?_;first | refine aK F ?_ | refine aw F ?_) | refine aA F F (aD oM) ?_ | refine am F F (aE oM) ?_ | refine ab F (aD ‹_›) ?_ | refine ad F (aE ‹_›) ?_)
   all_goals refine jY (vs:=[_]) ?_
   all_goals rfl
  have hr2 : bt v (((v.length : Nat) : Int) - 1).toNat = 39:=by rw [e4];exact hr
  rw [decide_eq_true hr,Bool.true_and]
  refine jE [(0,_),(1,_)] Tryz.func197 Tryz.ntmps197 fun B hB=>?_
  repeat' (first | refine jM ?_ | (refine jo ?_;first | refine aK F ?_ | (refine ac F F F (kr ?_) F ?_;(focus ((simp;omega);done)))) | refine aA F F (aD oM) ?_ | refine ab F (aD ‹_›) ?_ | refine ad F (aE ‹_›) ?_)
  all_goals refine jY (vs:=[_]) ?_
  all_goals rw [e4];rfl
 ·have e : bN b v = (decide (b = [102]) && decide (v = [121,101,115])):=by
   rw [bN,if_neg h1,if_neg h2]
   by_cases h3 : b = [102]
   ·rw [if_pos h3,decide_eq_true h3,Bool.true_and]
   ·rw [if_neg h3,decide_eq_false h3,Bool.false_and]
  rw [e]
  refine jE [(0,_),(1,_)] Tryz.func197 Tryz.ntmps197 fun B hB=>?_
  repeat' (first | refine jR ?_ | (refine jo ?_;first | refine aK F ?_ | refine aw F ?_) | refine eD F F (fun _=>?_) (fun _=>?_) | refine ad F (aE ‹_›) ?_)
  all_goals refine jY (vs:=[_]) ?_
  all_goals (simp [*])
theorem xf {c v : adE} (h : bC c = true) : (decide (sg c = []) && bN (bs c) v) = bN c v:=by
 match c,h with
 | x :: r,h =>
  by_cases h1 : x.toNat = 91 ∨ x.toNat = 63
  ·have hs : sg (x :: r) ≠ []:=by
    unfold sg
    rw [bo,if_pos h1]
    have:=ma r
    intro e
    have e2:=congrArg List.length e
    simp only [List.length_take,List.length_cons,List.length_nil] at e2
    omega
   rw [decide_eq_false hs,Bool.false_and]
   unfold bN
   rw [if_neg,if_neg,if_neg]
   all_goals (intro e;simp only [List.cons.injEq] at e;have:=congrArg UInt8.toNat e.1;revert this;rcases h1 with h1 | h1 <;> rw [h1] <;> decide)
  ·have hc : bo (x :: r) = x :: r:=by rw [bo,if_neg h1]
   have hs : sg (x :: r) = []:=by unfold sg;rw [hc];simp
   rw [decide_eq_true hs,Bool.true_and]
   by_cases h2 : x.toNat = 64
   ·have hb : bs (x :: r) = [64]:=by unfold bs;rw [hc];simp [oo,h2]
    rw [hb]
    have e1 : bN [64] v = false:=by unfold bN;simp
    rw [e1]
    unfold bN
    rw [if_neg,if_neg,if_neg]
    all_goals (intro e;simp only [List.cons.injEq] at e;have:=congrArg UInt8.toNat e.1;revert this;rw [h2];decide)
   ·have hb : bs (x :: r) = x :: r:=by unfold bs;rw [hc];simp [oo,h2]
    rw [hb]
def qe (s : adE) (k : Nat) (v : Value) (_ : Gh) : Prop:=∃ f ok,v = Tu [Ag (jh f),Bo ok] ∧ bX s k = if ok = true then some f else none
theorem mf {s : adE} {xs : List adE} {k : Nat} {c : UInt8} (n : Nat) (h : s.length ≤ 100000000) (hc : c.toNat = k) (e : aY k s = xs) (hn : xs.length = n) (h0 : 0 < n) :
  bd adD 97 [S s,S [c]] G (fun v G'=>∃ b o cap,v = .slice (some ⟨b,o,none⟩) n cap ∧ cH G' b o (ax bY xs)):=by
 subst hn;subst e;subst hc
 refine (uI (G:=G) (s:=s) (c:=c) h).mono ?_
 rintro v G' L' ⟨h1,h2,h3⟩
 obtain ⟨b,o,cap,rfl,hs⟩:=h3.expl h0
 exact ⟨h1,h2,b,o,cap,F,hs⟩
theorem uF {s : adE} (h : s.length ≤ 2000000) (e : bC s = true) : aG adD 90 [S s] G (· = Tu [Ag (c7 s),Bo true]):=by
 refine (mg (G:=G) h).mono ?_
 rintro v G' L' ⟨h1,h2,a,b,c,rfl,h3⟩
 obtain ⟨rfl,rfl,rfl⟩:=h3 e
 exact ⟨h1,h2,by rw [e];rfl⟩
theorem uz {s : adE} {top m : Int} (h : s.length ≤ 100000000) (e : aM s top = some m) : aG adD 98 [S s,I top] G (· = Tu [I m,Bo true]):=by
 refine (dS (G:=G) (top:=top) h).mono ?_
 rintro v G' L' ⟨h1,h2,n,rfl,h3⟩
 exact ⟨h1,h2,by rw [e,h3 m e];rfl⟩
theorem uA {s : adE} {top : Int} (h : s.length ≤ 100000000) (e : aM s top = none) : aG adD 98 [S s,I top] G (fun v=>∃ n,v = Tu [I n,Bo false]):=by
 refine (dS (G:=G) (top:=top) h).mono ?_
 rintro v G' L' ⟨h1,h2,n,rfl,h3⟩
 exact ⟨h1,h2,n,by rw [e];rfl⟩
theorem nw {s : adE} {k : Nat} (h : s.length ≤ 1000) (e : (aY 58 (aJ 61 s).1).length ≠ if k = 69 then 2 else 3) : bd adD 165 [S s,U8 k] G (qe s k):=by
 have hcl:=kh (k:=61) (s:=s)
 have cx_cut : aG adD 126 [S s,S [61]] G (· = Tu [S (aJ 61 s).1,S (aJ 61 s).2.1,Bo (aJ 61 s).2.2]):=qc (c:=61) oM
 have cx_split:=mf (G:=G) (c:=58) (k:=58) _ (s:=(aJ 61 s).1) oM rfl rfl rfl dZ
 have hno : bX s k = none:=by
  rw [← qA]
  unfold nj
  split
  ·rename_i e2
   rw [e2] at e
   split
   ·rename_i hk;simp [hk.1] at e
   ·rfl
  ·rename_i e2
   rw [e2] at e
   split
   ·rfl
   ·rename_i hk;simp [hk] at e
  ·rfl
 have hpos:=dZ (k:=58) (s:=(aJ 61 s).1)
 generalize hn : (aY 58 (aJ 61 s).1).length = n at *
 by_cases hk : k = 69
 ·rw [if_pos hk] at e
  refine jB [(0,_),(1,_)] Tryz.func165 Tryz.ntmps165 fun B hok hB hW=>?_
  repeat' (first | refine jR ?_ | (refine jo ?_;first | refine jL fun _=>?_ | refine jV (ag F) ?_ | refine jV (ao F F) ?_ | refine jC F F F ?_ | refine ac F F F cx_cut F ?_ | (refine aF F F F cx_split F ?_;rintro _ G hle ⟨b1,o1,cap1,rfl,hseg⟩;skip)) | refine ab F (aD oM) ?_)
  all_goals refine jZ (vs:=[_,_]) F ⟨ay F F F F,F,trivial⟩ F ⟨hle,F,?_⟩
  all_goals exact ⟨default,false,F,by rw [hno];rfl⟩
 ·rw [if_neg hk] at e
  refine jB [(0,_),(1,_)] Tryz.func165 Tryz.ntmps165 fun B hok hB hW=>?_
  repeat' (first | refine jR ?_ | (refine jo ?_;first | refine jL fun _=>?_ | refine jV (ag F) ?_ | refine jV (ao F F) ?_ | refine jC F F F ?_ | refine ac F F F cx_cut F ?_ | (refine aF F F F cx_split F ?_;rintro _ G hle ⟨b1,o1,cap1,rfl,hseg⟩;skip)) | refine ab F (aD oM) ?_ | refine ad F (aE oM) ?_)
  all_goals refine jZ (vs:=[_,_]) F ⟨ay F F F F,F,trivial⟩ F ⟨hle,F,?_⟩
  all_goals exact ⟨default,false,F,by rw [hno];rfl⟩
theorem s0 {s a b : adE} (h : s.length ≤ 1000) (e : aY 58 (aJ 61 s).1 = [a,b]) : bd adD 165 [S s,U8 (69 : Nat)] G (qe s 69):=by
  have hcl:=kh (k:=61) (s:=s)
  have cx_cut : aG adD 126 [S s,S [61]] G (· = Tu [S (aJ 61 s).1,S (aJ 61 s).2.1,Bo (aJ 61 s).2.2]):=qc (c:=61) oM
  have cx_split:=mf (G:=G) (c:=58) (k:=58) 2 (s:=(aJ 61 s).1) oM rfl e rfl oM
  have ha : a.length ≤ 1000:=by have:=c6 (k:=58) (s:=(aJ 61 s).1) (x:=a) (by rw [e];simp);omega
  have hb : b.length ≤ 1000:=by have:=c6 (k:=58) (s:=(aJ 61 s).1) (x:=b) (by rw [e];simp);omega
  have hall : bX s 69 = if (aJ 61 s).2.2 = false then match aM a 200 with
      | some n=>if 1 ≤ n ∧ cB b = true then some ⟨n,b,[],[]⟩ else none
      | none=>none else none:=by
    rw [← qA];unfold nj;rw [e];simp <;> rfl
  generalize hto : (aJ 61 s).2.2 = told at *
  generalize hva : (aJ 61 s).2.1 = val at *
  rcases hm : aM a 200 with _ | m
  · have hno : bX s 69 = none:=by rw [hall,hm];simp
    have cx_pn : ∀ G,aG adD 98 [S a,I 200] G (fun v=>∃ n,v = Tu [I n,Bo false]):=fun G=>uA oM hm
    refine jB [(0,_),(1,_)] Tryz.func165 Tryz.ntmps165 fun B hok hB hW=>?_
    repeat' (first | refine jR ?_ | (refine jo ?_;first | refine jL fun _=>?_ | refine jV (ag F) ?_ | refine jV (ao F F) ?_ | refine jC F F F ?_ | refine jV (aT F F oM) ?_ | refine jV (an F F aS F F) ?_ | refine aK F ?_ | refine ac F F F cx_cut F ?_ | (refine aF F F F cx_split F ?_;rintro _ G hle ⟨b1,o1,cap1,rfl,hseg⟩;skip) | (refine dn F F F (cx_pn _) F ?_;rintro _ ⟨n,rfl⟩)) | refine aA F F F ?_ | refine ab F F ?_ | refine ad F F ?_)
    all_goals refine jZ (vs:=[_,_]) F ⟨ay F F F F,F,trivial⟩ F ⟨hle,F,?_⟩
    all_goals exact ⟨default,false,F,by rw [hno];rfl⟩
  have cx_pq : ∀ G,aG adD 98 [S a,I 200] G (· = Tu [I m,Bo true]):=fun G=>uz oM hm
  rw [hm] at hall
  dsimp only at hall
  by_cases hg : 1 ≤ m ∧ cB b = true
  · rw [if_pos hg] at hall
    have hg1:=hg.1
    have hg2 : (!cB b) = false:=by rw [hg.2];rfl
    cases told with
    | true =>
      refine jB [(0,_),(1,_)] Tryz.func165 Tryz.ntmps165 fun B hok hB hW=>?_
      repeat' (first | refine jR ?_ | (refine jo ?_;first | refine jL fun _=>?_ | refine jV (ag F) ?_ | refine jV (ao F F) ?_ | refine jC F F F ?_ | refine jV (aT F F oM) ?_ | refine al F ?_ | refine jV (an F F aS F F) ?_ | refine aK F ?_ | refine aw F ?_ | refine ac F F F cx_cut F ?_ | (refine aF F F F cx_split F ?_;rintro _ G hle ⟨b1,o1,cap1,rfl,hseg⟩;skip) | refine ac F F F (cx_pq _) F ?_ | refine ac F F F (dF oM) F ?_) | refine aA F F F ?_ | (refine am F F (by first | rfl | (refine decide_eq_false ?_;(omega))) ?_) | refine ab F F ?_ | (refine ad F (by first | rfl | assumption) ?_))
      all_goals refine jZ (vs:=[_,_]) F ⟨ay F F F F,F,trivial⟩ F ⟨hle,F,?_⟩
      all_goals exact ⟨default,false,F,by rw [hall];rfl⟩
    | false =>
      have hv : val = []:=by have:=fu hto;rw [this] at hva;exact hva.symm
      refine jB [(0,_),(1,_)] Tryz.func165 Tryz.ntmps165 fun B hok hB hW=>?_
      repeat' (first | refine jR ?_ | (refine jo ?_;first | refine jL fun _=>?_ | refine jV (ag F) ?_ | refine jV (ao F F) ?_ | refine jC F F F ?_ | refine jV (aT F F oM) ?_ | refine al F ?_ | refine aQ F ?_ | refine jV (an F F aS F F) ?_ | refine aw F ?_ | refine ac F F F cx_cut F ?_ | (refine aF F F F cx_split F ?_;rintro _ G hle ⟨b1,o1,cap1,rfl,hseg⟩;skip) | refine ac F F F (cx_pq _) F ?_ | refine ac F F F (dF oM) F ?_) | (refine am F F (by first | rfl | (refine decide_eq_false ?_;(omega))) ?_) | refine ab F F ?_ | (refine ad F (by first | rfl | assumption) ?_))
      all_goals refine jZ (vs:=[_,_]) F ⟨ay F F F F,F,trivial⟩ F ⟨hle,F,?_⟩
      all_goals exact ⟨⟨m,b,[],[]⟩,true,by rw [hv];rfl,by rw [hall];rfl⟩
  · rw [if_neg hg] at hall
    have hno : bX s 69 = none:=by rw [hall];simp
    by_cases h1 : m < 1
    case' neg => have hg2 : (!cB b) = true := by
                  cases hb2 : cB b with
                  | false=>rfl
                  | true=>exact absurd ⟨oM,hb2⟩ hg
    all_goals refine jB [(0,_),(1,_)] Tryz.func165 Tryz.ntmps165 fun B hok hB hW=>?_
    all_goals repeat' (first | refine jR ?_ | (refine jo ?_;first | refine jL fun _=>?_ | refine jV (ag F) ?_ | refine jV (ao F F) ?_ | refine jC F F F ?_ | refine jV (aT F F oM) ?_ | refine al F ?_ | refine jV (an F F aS F F) ?_ | refine aK F ?_ | refine aw F ?_ | refine ac F F F cx_cut F ?_ | (refine aF F F F cx_split F ?_;rintro _ G hle ⟨b1,o1,cap1,rfl,hseg⟩;skip) | refine ac F F F (cx_pq _) F ?_ | refine ac F F F (dF oM) F ?_) | refine aA F F (aD ‹_›) ?_ | (refine am F F (by first | rfl | (refine decide_eq_false ?_;(assumption))) ?_) | (refine ab F (by first | rfl | assumption) ?_) | refine ad F F ?_)
    all_goals refine jZ (vs:=[_,_]) F ⟨ay F F F F,F,trivial⟩ F ⟨hle,F,?_⟩
    all_goals exact ⟨default,false,F,by rw [hno];rfl⟩
theorem sZ {s a b c : adE} {k : Nat} (h : s.length ≤ 1000) (hk : ¬ k = 69) (e : aY 58 (aJ 61 s).1 = [a,b,c]) : bd adD 165 [S s,U8 k] G (qe s k):=by
  have hcl:=kh (k:=61) (s:=s)
  have cx_cut : aG adD 126 [S s,S [61]] G (· = Tu [S (aJ 61 s).1,S (aJ 61 s).2.1,Bo (aJ 61 s).2.2]):=qc (c:=61) oM
  have cx_split:=mf (G:=G) (c:=58) (k:=58) 3 (s:=(aJ 61 s).1) oM rfl e rfl oM
  have ha : a.length ≤ 1000:=by have:=c6 (k:=58) (s:=(aJ 61 s).1) (x:=a) (by rw [e];simp);omega
  have hb : b.length ≤ 1000:=by have:=c6 (k:=58) (s:=(aJ 61 s).1) (x:=b) (by rw [e];simp);omega
  have hc : c.length ≤ 1000:=by have:=c6 (k:=58) (s:=(aJ 61 s).1) (x:=c) (by rw [e];simp);omega
  have hall : bX s k = match aM a 200 with
      | some n=>if (1 ≤ n ∧ cB b = true) ∧ bC c = true ∧ ((aJ 61 s).2.2 = true → k = 82 ∧ bN c (aJ 61 s).2.1 = true) then some ⟨n,b,c,(aJ 61 s).2.1⟩ else none
      | none=>none:=by
    rw [← qA];unfold nj;rw [e];simp [hk] <;> rfl
  generalize hto : (aJ 61 s).2.2 = told at *
  generalize hva : (aJ 61 s).2.1 = val at *
  rcases hm : aM a 200 with _ | m
  · have hno : bX s k = none:=by rw [hall,hm]
    have cx_pn : ∀ G,aG adD 98 [S a,I 200] G (fun v=>∃ n,v = Tu [I n,Bo false]):=fun G=>uA oM hm
    refine jB [(0,_),(1,_)] Tryz.func165 Tryz.ntmps165 fun B hok hB hW=>?_
    repeat' (first | refine jR ?_ | (refine jo ?_;first | refine jL fun _=>?_ | refine jV (ag F) ?_ | refine jV (ao F F) ?_ | refine jC F F F ?_ | refine jV (aT F F oM) ?_ | refine jV (an F F aS F F) ?_ | refine aK F ?_ | refine ac F F F cx_cut F ?_ | (refine aF F F F cx_split F ?_;rintro _ G hle ⟨b1,o1,cap1,rfl,hseg⟩;skip) | (refine dn F F F (cx_pn _) F ?_;rintro _ ⟨n,rfl⟩)) | refine aA F F F ?_ | refine ab F F ?_ | (refine ad F (by first | rfl | (refine decide_eq_false ?_;(omega))) ?_))
    all_goals refine jZ (vs:=[_,_]) F ⟨ay F F F F,F,trivial⟩ F ⟨hle,F,?_⟩
    all_goals exact ⟨default,false,F,by rw [hno];rfl⟩
  have cx_pq : ∀ G,aG adD 98 [S a,I 200] G (· = Tu [I m,Bo true]):=fun G=>uz oM hm
  rw [hm] at hall
  dsimp only at hall
  by_cases hg : 1 ≤ m ∧ cB b = true
  case neg =>
    have hno : bX s k = none:=by rw [hall,if_neg fun h=>hg h.1]
    by_cases h1 : m < 1
    case' neg => have hg2 : (!cB b) = true := by
                  cases hb2 : cB b with
                  | false=>rfl
                  | true=>exact absurd ⟨oM,hb2⟩ hg
    all_goals refine jB [(0,_),(1,_)] Tryz.func165 Tryz.ntmps165 fun B hok hB hW=>?_
    all_goals repeat' (first | refine jR ?_ | (refine jo ?_;first | refine jL fun _=>?_ | refine jV (ag F) ?_ | refine jV (ao F F) ?_ | refine jC F F F ?_ | refine jV (aT F F oM) ?_ | refine al F ?_ | refine jV (an F F aS F F) ?_ | refine aK F ?_ | refine aw F ?_ | refine ac F F F cx_cut F ?_ | (refine aF F F F cx_split F ?_;rintro _ G hle ⟨b1,o1,cap1,rfl,hseg⟩;skip) | refine ac F F F (cx_pq _) F ?_ | refine ac F F F (dF oM) F ?_) | refine aA F F (aD ‹_›) ?_ | (refine am F F (by first | rfl | (refine decide_eq_false ?_;(assumption))) ?_) | (refine ab F (by first | rfl | assumption) ?_) | (refine ad F (by first | rfl | (refine decide_eq_false ?_;(omega))) ?_))
    all_goals refine jZ (vs:=[_,_]) F ⟨ay F F F F,F,trivial⟩ F ⟨hle,F,?_⟩
    all_goals exact ⟨default,false,F,by rw [hno];rfl⟩
  have hg1:=hg.1
  have hg2 : (!cB b) = false:=by rw [hg.2];rfl
  by_cases hkc : bC c = true
  case neg =>
    have hkc2 : bC c = false:=by simpa using hkc
    have hno : bX s k = none:=by rw [hall,if_neg fun h=>hkc h.2.1]
    have cx_kn : ∀ G,aG adD 90 [S c] G (fun v=>∃ x y z,v = Tu [Ag [S x,S y,S z],Bo false]):=fun G=>by
      refine (mg (G:=G) (s:=c) oM).mono ?_
      rintro v G' L' ⟨h1,h2,x,y,z,rfl,_⟩
      exact ⟨h1,h2,x,y,z,by rw [hkc2]⟩
    refine jB [(0,_),(1,_)] Tryz.func165 Tryz.ntmps165 fun B hok hB hW=>?_
    repeat' (first | refine jR ?_ | (refine jo ?_;first | refine jL fun _=>?_ | refine jV (ag F) ?_ | refine jV (ao F F) ?_ | refine jC F F F ?_ | refine jV (aT F F oM) ?_ | refine al F ?_ | refine jV (an F F aS F F) ?_ | refine aw F ?_ | refine ac F F F cx_cut F ?_ | (refine aF F F F cx_split F ?_;rintro _ G hle ⟨b1,o1,cap1,rfl,hseg⟩;skip) | refine ac F F F (cx_pq _) F ?_ | refine ac F F F (dF oM) F ?_ | (refine dn F F F (cx_kn _) F ?_;rintro _ ⟨x,y,z,rfl⟩)) | (refine am F F (by first | rfl | (refine decide_eq_false ?_;(omega))) ?_) | (refine ab F (by first | rfl | (refine decide_eq_true ?_;(omega))) ?_) | (refine ad F (by first | rfl | assumption | (refine decide_eq_false ?_;(omega))) ?_))
    all_goals refine jZ (vs:=[_,_]) F ⟨ay F F F F,F,trivial⟩ F ⟨hle,F,?_⟩
    all_goals exact ⟨default,false,F,by rw [hno];rfl⟩
  have cx_kq : ∀ G,aG adD 90 [S c] G (· = Tu [Ag [S (sg c),S (bs c),S (nm c)],Bo true]):=fun G=>uF oM hkc
  cases told with
  | false =>
    have hv : val = []:=by have:=fu hto;rw [this] at hva;exact hva.symm
    have hyes : bX s k = some ⟨m,b,c,val⟩:=by rw [hall,if_pos ⟨hg,hkc,fun h=>by cases h⟩]
    refine jB [(0,_),(1,_)] Tryz.func165 Tryz.ntmps165 fun B hok hB hW=>?_
    repeat' (first | refine jR ?_ | (refine jo ?_;first | refine jL fun _=>?_ | refine jV (ag F) ?_ | refine jV (ao F F) ?_ | refine jC F F F ?_ | refine jV (aT F F oM) ?_ | refine al F ?_ | refine aQ F ?_ | refine jV (an F F aS F F) ?_ | refine aw F ?_ | refine ac F F F cx_cut F ?_ | (refine aF F F F cx_split F ?_;rintro _ G hle ⟨b1,o1,cap1,rfl,hseg⟩;skip) | refine ac F F F (cx_pq _) F ?_ | refine ac F F F (dF oM) F ?_ | refine ac F F F (cx_kq _) F ?_) | (refine am F F (by first | rfl | (refine decide_eq_false ?_;(omega))) ?_) | refine ab F (aD oM) ?_ | (refine ad F (by first | rfl | assumption | (refine decide_eq_false ?_;(omega))) ?_))
    all_goals refine jZ (vs:=[_,_]) F ⟨ay F F F F,F,trivial⟩ F ⟨hle,F,?_⟩
    all_goals exact ⟨⟨m,b,c,val⟩,true,F,by rw [hyes];rfl⟩
  | true =>
    have hst:=xf (v:=val) hkc
    by_cases h82 : k = 82
    case neg =>
      have hno : bX s k = none:=by rw [hall,if_neg fun h=>h82 (h.2.2 rfl).1]
      have h83 : ¬ (k : Int) = 82:=oM
      refine jB [(0,_),(1,_)] Tryz.func165 Tryz.ntmps165 fun B hok hB hW=>?_
      repeat' (first | refine jR ?_ | (refine jo ?_;first | refine jL fun _=>?_ | refine jV (ag F) ?_ | refine jV (ao F F) ?_ | refine jC F F F ?_ | refine jV (aT F F oM) ?_ | refine al F ?_ | refine jV (an F F aS F F) ?_ | refine aK F ?_ | refine aw F ?_ | refine ac F F F cx_cut F ?_ | (refine aF F F F cx_split F ?_;rintro _ G hle ⟨b1,o1,cap1,rfl,hseg⟩;skip) | refine ac F F F (cx_pq _) F ?_ | refine ac F F F (dF oM) F ?_ | refine ac F F F (cx_kq _) F ?_) | (refine aA F F (by first | rfl | (refine decide_eq_true ?_;(assumption))) ?_) | (refine am F F (by first | rfl | (refine decide_eq_false ?_;(omega))) ?_) | (refine ab F (by first | rfl | (refine decide_eq_true ?_;(omega))) ?_) | (refine ad F (by first | rfl | assumption | (refine decide_eq_false ?_;(omega))) ?_))
      all_goals refine jZ (vs:=[_,_]) F ⟨ay F F F F,F,trivial⟩ F ⟨hle,F,?_⟩
      all_goals exact ⟨default,false,F,by rw [hno];rfl⟩
    subst h82
    by_cases hsg : sg c = []
    · rw [decide_eq_true hsg,Bool.true_and] at hst
      by_cases hso : bN c val = true
      · have hyes : bX s 82 = some ⟨m,b,c,val⟩:=by rw [hall,if_pos ⟨hg,hkc,fun _=>⟨rfl,hso⟩⟩]
        have hso2 : (!bN (bs c) val) = false:=by rw [hst,hso];rfl
        refine jB [(0,_),(1,_)] Tryz.func165 Tryz.ntmps165 fun B hok hB hW=>?_
        repeat' (first | refine jR ?_ | (refine jo ?_;first | refine jL fun _=>?_ | refine jV (ag F) ?_ | refine jV (ao F F) ?_ | refine jC F F F ?_ | refine jV (aT F F oM) ?_ | refine al F ?_ | refine aQ F ?_ | refine jV (an F F aS F F) ?_ | refine aK F ?_ | refine aw F ?_ | refine ac F F F cx_cut F ?_ | (refine aF F F F cx_split F ?_;rintro _ G hle ⟨b1,o1,cap1,rfl,hseg⟩;skip) | refine ac F F F (cx_pq _) F ?_ | refine ac F F F (dF oM) F ?_ | refine ac F F F (cx_kq _) F ?_ | refine ac F F F (pY oM) F ?_) | refine aA F F F ?_ | (refine am F F ?_ ?_;(focus ((first | rfl | (refine decide_eq_false ?_;(omega)) | (simp [*];done));done))) | refine ab F F ?_ | (refine ad F (by first | rfl | assumption) ?_))
        all_goals refine jZ (vs:=[_,_]) F ⟨ay F F F F,F,trivial⟩ F ⟨hle,F,?_⟩
        all_goals exact ⟨⟨m,b,c,val⟩,true,F,by rw [hyes];rfl⟩
      · have hno : bX s 82 = none:=by rw [hall,if_neg fun h=>hso (h.2.2 rfl).2]
        have hso2 : (!bN (bs c) val) = true:=by rw [hst];simpa using hso
        refine jB [(0,_),(1,_)] Tryz.func165 Tryz.ntmps165 fun B hok hB hW=>?_
        repeat' (first | refine jR ?_ | (refine jo ?_;first | refine jL fun _=>?_ | refine jV (ag F) ?_ | refine jV (ao F F) ?_ | refine jC F F F ?_ | refine jV (aT F F oM) ?_ | refine al F ?_ | refine jV (an F F aS F F) ?_ | refine aK F ?_ | refine aw F ?_ | refine ac F F F cx_cut F ?_ | (refine aF F F F cx_split F ?_;rintro _ G hle ⟨b1,o1,cap1,rfl,hseg⟩;skip) | refine ac F F F (cx_pq _) F ?_ | refine ac F F F (dF oM) F ?_ | refine ac F F F (cx_kq _) F ?_ | refine ac F F F (pY oM) F ?_) | refine aA F F F ?_ | (refine am F F ?_ ?_;(focus ((first | rfl | (refine decide_eq_false ?_;(omega)) | (simp [*];done));done))) | (refine ab F (by first | rfl | assumption) ?_) | (refine ad F (by first | rfl | assumption) ?_))
        all_goals refine jZ (vs:=[_,_]) F ⟨ay F F F F,F,trivial⟩ F ⟨hle,F,?_⟩
        all_goals exact ⟨default,false,F,by rw [hno];rfl⟩
    · rw [decide_eq_false hsg,Bool.false_and] at hst
      have hno : bX s 82 = none:=by rw [hall,if_neg fun h=>by rw [(h.2.2 rfl).2] at hst;cases hst]
      refine jB [(0,_),(1,_)] Tryz.func165 Tryz.ntmps165 fun B hok hB hW=>?_
      repeat' (first | refine jR ?_ | (refine jo ?_;first | refine jL fun _=>?_ | refine jV (ag F) ?_ | refine jV (ao F F) ?_ | refine jC F F F ?_ | refine jV (aT F F oM) ?_ | refine al F ?_ | refine jV (an F F aS F F) ?_ | refine aK F ?_ | refine aw F ?_ | refine ac F F F cx_cut F ?_ | (refine aF F F F cx_split F ?_;rintro _ G hle ⟨b1,o1,cap1,rfl,hseg⟩;skip) | refine ac F F F (cx_pq _) F ?_ | refine ac F F F (dF oM) F ?_ | refine ac F F F (cx_kq _) F ?_) | (refine aA F F (by first | rfl | (refine decide_eq_true ?_;(assumption))) ?_) | (refine am F F (by first | rfl | (refine decide_eq_false ?_;(omega))) ?_) | refine ab F F ?_ | (refine ad F (by first | rfl | assumption) ?_))
      all_goals refine jZ (vs:=[_,_]) F ⟨ay F F F F,F,trivial⟩ F ⟨hle,F,?_⟩
      all_goals exact ⟨default,false,F,by rw [hno];rfl⟩
theorem tQ {s : adE} {k : Nat} (h : s.length ≤ 1000) : bd adD 165 [S s,U8 k] G (qe s k):=by
 by_cases hk : k = 69
 ·subst hk
  by_cases h2 : (aY 58 (aJ 61 s).1).length = 2
  ·match e : aY 58 (aJ 61 s).1,h2 with
   | [a,b],_=>exact s0 h e
  ·exact nw h (by simpa using h2)
 ·by_cases h3 : (aY 58 (aJ 61 s).1).length = 3
  ·match e : aY 58 (aJ 61 s).1,h3 with
   | [a,b,c],_=>exact sZ h hk e
  ·exact nw h (by simpa [hk] using h3)
theorem ku {s : adE} {xs : List adE} {k : Nat} (n : Nat) (h : s.length ≤ 100000000) (e : aY k s = xs) (hn : xs.length = n) (h0 : 0 < n) :
  cM adD 82 [S s,U8 k] G [] (fun v L'=>∃ b cap,v = .slice (some ⟨b,0,none⟩) n cap ∧ L' = [.acc (.slice (some ⟨b,0,none⟩) n cap) uT 1 n (ql xs)]):=by
 subst hn;subst e
 refine (uE (G:=G) (k:=k) h).mono ?_
 rintro v G' L' ⟨h1,h2,h3⟩
 obtain ⟨b,cap,rfl⟩:=h3.pos oM
 exact ⟨h1,b,cap,F,h2⟩
theorem s4 {s : adE} {top m : Int} (h : s.length ≤ 100000000) (e : aM s top = some m) : aG adD 86 [S s,I top] G (· = Tu [I m,Bo true]):=by
 refine (gt (G:=G) (top:=top) h).mono ?_
 rintro v G' L' ⟨h1,h2,n,rfl,h3⟩
 exact ⟨h1,h2,by rw [e,h3 m e];rfl⟩
abbrev ly (s : adE) (k : Nat) (v : Value) : Prop:=∃ f ok,v = Tu [Ag (gP f),Bo ok] ∧ bX s k = if ok then some f else none
theorem xN {s : adE} {k : Nat} (h : (aY 58 s).length ≠ 2) (h' : (aY 58 s).length ≠ 3) : bX s k = none:=by
 unfold bX
 split
 ·rename_i e;rw [e] at h;simp at h
 ·rename_i e;rw [e] at h';simp at h'
 ·rfl
theorem qN {s : adE} {k : Nat} (h : s.length ≤ 1000) (e : (aY 58 s).length ≠ 2) (e' : (aY 58 s).length ≠ 3) : aG adD 192 [S s,U8 k] G (ly s k):=by
 have e0 : 0 < (aY 58 s).length:=dZ
 generalize hn : (aY 58 s).length = n at *
 have cx_cut1:=ku (G:=G) (k:=58) n oM rfl hn e0
 have hno : bX s k = none:=xN oM oM
 refine jE [(0,_),(1,_)] Tryz.func192 Tryz.ntmps192 fun B hB=>?_
 repeat' (first | refine jR ?_ | (refine jo ?_;first | refine jL fun _=>?_ | refine jV (ag F) ?_ | refine aK F ?_ | refine aw F ?_ | refine jV (ao F F) ?_ | refine jC F F F ?_ | (refine fg F F F cx_cut1 F ?_;rintro _ _ ⟨b1,cap1,rfl,rfl⟩;dsimp only [zA,fA])) | refine aA F F (aD oM) ?_ | refine eD F F (fun _=>?_) (fun _=>?_) | (refine ab F (by first | rfl | (refine decide_eq_true ?_;(omega))) ?_))
 all_goals refine jZ (vs:=[_,_]) F ⟨ay F F F F,F,trivial⟩ F ⟨F,F,?_⟩
 all_goals exact ⟨default,false,F,by rw [hno];rfl⟩
theorem qM {s a b : adE} {k : Nat} (h : s.length ≤ 1000) (e : aY 58 s = [a,b]) : aG adD 192 [S s,U8 k] G (ly s k):=by
 have ha : a.length ≤ 1000:=Nat.le_trans (c6 (k:=58) (s:=s) (by rw [e];simp)) h
 have hb : b.length ≤ 1000:=Nat.le_trans (c6 (k:=58) (s:=s) (by rw [e];simp)) h
 have cx_cut1:=ku (G:=G) (k:=58) 2 oM e rfl oM
 by_cases hk : k = 69
 case neg =>
  have hno : bX s k = none:=by unfold bX;rw [e];simp [hk]
  refine jE [(0,_),(1,_)] Tryz.func192 Tryz.ntmps192 fun B hB=>?_
  repeat' (first | refine jR ?_ | (refine jo ?_;first | refine jL fun _=>?_ | refine jV (ag F) ?_ | refine aK F ?_ | refine jV (ao F F) ?_ | refine jC F F F ?_ | (refine fg F F F cx_cut1 F ?_;rintro _ _ ⟨b1,cap1,rfl,rfl⟩;dsimp only [zA,fA])) | (refine aA F F (by first | rfl | (refine decide_eq_true ?_;(omega))) ?_) | refine ab F F ?_)
  all_goals refine jZ (vs:=[_,_]) F ⟨ay F F F F,F,trivial⟩ F ⟨F,F,?_⟩
  all_goals exact ⟨default,false,F,by rw [hno];rfl⟩
 subst hk
 rcases hm : aM a 200 with _ | m
 ·have hno : bX s 69 = none:=by unfold bX;rw [e];simp [hm]
  refine jE [(0,_),(1,_)] Tryz.func192 Tryz.ntmps192 fun B hB=>?_
  repeat' (first | refine jR ?_ | (refine jo ?_;first | refine jL fun _=>?_ | refine jV (ag F) ?_ | refine aK F ?_ | refine aw F ?_ | refine jV (ao F F) ?_ | refine jC F F F ?_ | refine jV (aT F F oM) ?_ | refine jV (kG F F F) ?_ | refine aQ F ?_ | (refine fg F F F cx_cut1 F ?_;rintro _ _ ⟨b1,cap1,rfl,rfl⟩;dsimp only [zA,fA]) | (refine dn F F F (gt oM) F ?_;rintro _ ⟨n,rfl,hnum⟩)) | (refine aA F F ?_ ?_;(focus ((first | rfl | (simp [*];done));done))) | refine am F F F ?_ | refine ab F F ?_ | refine ad F F ?_)
  all_goals refine jZ (vs:=[_,_]) F ⟨ay F F F F,F,trivial⟩ F ⟨F,F,?_⟩
  all_goals exact ⟨⟨_,_,_,_⟩,false,F,by rw [hno];rfl⟩
 have cx_num:=s4 (G:=G) oM hm
 have hyes : bX s 69 = if 1 ≤ m ∧ cB b = true then some ⟨m,b,[],[]⟩ else none:=by unfold bX;rw [e];simp [hm]
 refine jE [(0,_),(1,_)] Tryz.func192 Tryz.ntmps192 fun B hB=>?_
 repeat' (first | refine jR ?_ | (refine jo ?_;first | refine jL fun _=>?_ | refine jV (ag F) ?_ | refine aK F ?_ | refine aw F ?_ | refine jV (ao F F) ?_ | refine jC F F F ?_ | refine jV (aT F F oM) ?_ | refine al F ?_ | refine jV (kG F F F) ?_ | refine aQ F ?_ | (refine fg F F F cx_cut1 F ?_;rintro _ _ ⟨b1,cap1,rfl,rfl⟩;dsimp only [zA,fA]) | refine ac F F F cx_num F ?_ | refine ac F F F (gf oM) F ?_) | refine aA F F F ?_ | refine am F F F ?_ | refine eD F F (fun _=>?_) (fun _=>?_) | refine ab F F ?_ | refine ad F F ?_ | refine sy F (fun _=>?_) (fun _=>?_))
 all_goals refine jZ (vs:=[_,_]) F ⟨ay F F F F,F,trivial⟩ F ⟨F,F,?_⟩
 all_goals first | exact ⟨⟨m,b,[],[]⟩,true,F,by rw [hyes];simp_all;try omega⟩ | exact ⟨⟨m,b,[],[]⟩,false,F,by rw [hyes];simp_all;try omega⟩
theorem p6 {s a b c d f : adE} {k : Nat} {m : Int} (h : s.length ≤ 1000) (e : aY 58 s = [a,b,c]) (hk : ¬ k = 69) (hm : aM a 200 = some m) (hg1 : 1 ≤ m) (hg2 : cB b = true) (e2 : aY 61 c = [d,f]) : aG adD 192 [S s,U8 k] G (ly s k):=by
 have ha : a.length ≤ 1000:=Nat.le_trans (c6 (k:=58) (s:=s) (by rw [e];simp)) h
 have hb : b.length ≤ 1000:=Nat.le_trans (c6 (k:=58) (s:=s) (by rw [e];simp)) h
 have hc : c.length ≤ 1000:=Nat.le_trans (c6 (k:=58) (s:=s) (by rw [e];simp)) h
 have cx_cut1:=ku (G:=G) (k:=58) 3 oM e rfl oM
 have cx_num:=s4 (G:=G) oM hm
 have hyes : bX s k = if k = 82 ∧ bN d f = true then some ⟨m,b,d,f⟩ else none:=by
  unfold bX;rw [e];simp [hm,hg1,hg2,hk,e2]
 have hd : d.length ≤ 1000:=Nat.le_trans (c6 (k:=61) (s:=c) (by rw [e2];simp)) hc
 have hf : f.length ≤ 1000:=Nat.le_trans (c6 (k:=61) (s:=c) (by rw [e2];simp)) hc
 have cx_cut2:=ku (G:=G) (k:=61) 2 oM e2 rfl oM
 by_cases h82 : k = 82
 ·have h83 : (k : Int) = 82:=oM
  refine jE [(0,_),(1,_)] Tryz.func192 Tryz.ntmps192 fun B hB=>?_
  repeat' (first | refine jR ?_ | (refine jo ?_;first | refine jL fun _=>?_ | refine jV (ag F) ?_ | refine aK F ?_ | refine aw F ?_ | refine jV (ao F F) ?_ | refine jD F F F ?_ | refine jC F F F ?_ | refine jV (aT F F oM) ?_ | refine al F ?_ | refine jV (kG F F F) ?_ | (refine fg F F F cx_cut1 F ?_;rintro _ _ ⟨b1,cap1,rfl,rfl⟩;dsimp only [zA,fA]) | (refine fg F F F cx_cut2 F ?_;rintro _ _ ⟨b2,cap2,rfl,rfl⟩;dsimp only [zA,fA]) | refine ac F F F cx_num F ?_ | refine ac F F F (gf oM) F ?_) | refine aA F F F ?_ | (refine am F F (by first | rfl | (refine decide_eq_false ?_;(omega))) ?_) | refine ab F F ?_ | (refine ad F ?_ ?_;(focus ((first | (refine decide_eq_false ?_;(omega)) | (simp [*];done));done))) | (refine ak (dL (id:=14) (tt:=4) F aj ?_);refine jW 9 [1,2,3] (aa 12 14) ?_;(try (refine Nx.re (d:=76) (v':=Bo true) F (congrArg Value.bool (aD ‹_›)) ?_));refine jW 7 [4,6] (aa 12 94) ?_;(refine jG (aa 12 95) 0 F (bz F F F F) ?_);(refine jG (aa 12 127) 5 F (aC F F F) ?_);(refine jG (aa 12 255) 7 F (aC F F F) ?_);((refine jA 8 F ?_;(refine ac F F F (wN oM) F ?_);refine jK (aa 12 511) ?_));((refine jG (aa 12 1023) 9 F (bJ F F ?_) ?_;(focus ((rfl);done))));refine jA 10 F ?_;(refine jC F F F ?_);refine jK (aa 12 2047) ?_;refine jW 0 [11] (aa 12 4095) ?_;refine jQ ?_))
  all_goals refine jZ (vs:=[_,_]) F ⟨ay F F F F,F,trivial⟩ F ⟨F,F,?_⟩
  all_goals exact ⟨⟨m,b,d,f⟩,bN d f,F,by rw [hyes];simp [h82]⟩
 ·have h83 : ¬ (k : Int) = 82:=oM
  refine jE [(0,_),(1,_)] Tryz.func192 Tryz.ntmps192 fun B hB=>?_
  repeat' (first | refine jR ?_ | (refine jo ?_;first | refine jL fun _=>?_ | refine jV (ag F) ?_ | refine aK F ?_ | refine aw F ?_ | refine jV (ao F F) ?_ | refine jD F F F ?_ | refine jC F F F ?_ | refine jV (aT F F oM) ?_ | refine al F ?_ | refine jV (kG F F F) ?_ | (refine fg F F F cx_cut1 F ?_;rintro _ _ ⟨b1,cap1,rfl,rfl⟩;dsimp only [zA,fA]) | (refine fg F F F cx_cut2 F ?_;rintro _ _ ⟨b2,cap2,rfl,rfl⟩;dsimp only [zA,fA]) | refine ac F F F cx_num F ?_ | refine ac F F F (gf oM) F ?_) | refine aA F F F ?_ | (refine am F F (by first | rfl | (refine decide_eq_false ?_;(omega))) ?_) | refine ab F F ?_ | (refine ad F ?_ ?_;(focus ((first | (refine decide_eq_false ?_;(omega)) | (simp [*];done));done))) | (refine ak (dL (id:=14) (tt:=4) F aj ?_);refine jW 9 [1,2,3] (aa 12 14) ?_;(try (refine Nx.re (d:=76) (v':=Bo false) F (congrArg Value.bool (aE ‹_›)) ?_));refine jW 7 [4,6] (aa 12 94) ?_;(refine jG (aa 12 95) 0 F (bz F F F F) ?_);(refine jN (aa 12 127) 5 F ?_);(refine jN (aa 12 255) 7 F ?_);(refine jN (aa 12 511) 8 F ?_);((refine jG (aa 12 1023) 9 F (bm F F ?_) ?_;(focus ((rfl);done))));refine jA 10 F ?_;(refine jC F F F ?_);refine jK (aa 12 2047) ?_;refine jW 0 [11] (aa 12 4095) ?_;refine jQ ?_))
  all_goals refine jZ (vs:=[_,_]) F ⟨ay F F F F,F,trivial⟩ F ⟨F,F,?_⟩
  all_goals exact ⟨⟨m,b,d,f⟩,false,F,by rw [hyes];simp [h82]⟩
theorem qL {s a b c : adE} {k : Nat} (h : s.length ≤ 1000) (e : aY 58 s = [a,b,c]) : aG adD 192 [S s,U8 k] G (ly s k):=by
 have ha : a.length ≤ 1000:=Nat.le_trans (c6 (k:=58) (s:=s) (by rw [e];simp)) h
 have hb : b.length ≤ 1000:=Nat.le_trans (c6 (k:=58) (s:=s) (by rw [e];simp)) h
 have hc : c.length ≤ 1000:=Nat.le_trans (c6 (k:=58) (s:=s) (by rw [e];simp)) h
 have cx_cut1:=ku (G:=G) (k:=58) 3 oM e rfl oM
 by_cases hk : k = 69
 case pos =>
  subst hk
  have hno : bX s 69 = none:=by unfold bX;rw [e];simp
  refine jE [(0,_),(1,_)] Tryz.func192 Tryz.ntmps192 fun B hB=>?_
  repeat' (first | refine jR ?_ | (refine jo ?_;first | refine jL fun _=>?_ | refine jV (ag F) ?_ | refine aK F ?_ | refine aw F ?_ | refine jV (ao F F) ?_ | refine jC F F F ?_ | (refine fg F F F cx_cut1 F ?_;rintro _ _ ⟨b1,cap1,rfl,rfl⟩;dsimp only [zA,fA])) | refine aA F F F ?_ | refine am F F F ?_ | refine ab F F ?_)
  all_goals refine jZ (vs:=[_,_]) F ⟨ay F F F F,F,trivial⟩ F ⟨F,F,?_⟩
  all_goals exact ⟨default,false,F,by rw [hno];rfl⟩
 rcases hm : aM a 200 with _ | m
 ·have hno : bX s k = none:=by unfold bX;rw [e];simp [hm]
  refine jE [(0,_),(1,_)] Tryz.func192 Tryz.ntmps192 fun B hB=>?_
  repeat' (first | refine jR ?_ | (refine jo ?_;first | refine jL fun _=>?_ | refine jV (ag F) ?_ | refine aK F ?_ | refine aw F ?_ | refine jV (ao F F) ?_ | refine jC F F F ?_ | refine jV (aT F F oM) ?_ | refine jV (kG F F F) ?_ | refine aQ F ?_ | (refine fg F F F cx_cut1 F ?_;rintro _ _ ⟨b1,cap1,rfl,rfl⟩;dsimp only [zA,fA]) | (refine dn F F F (gt oM) F ?_;rintro _ ⟨n,rfl,hnum⟩)) | (refine aA F F ?_ ?_;(focus ((first | rfl | (simp [*];done));done))) | refine am F F F ?_ | refine ab F F ?_ | refine ad F (aE oM) ?_)
  all_goals refine jZ (vs:=[_,_]) F ⟨ay F F F F,F,trivial⟩ F ⟨F,F,?_⟩
  all_goals exact ⟨⟨_,_,_,_⟩,false,F,by rw [hno];rfl⟩
 have cx_num:=s4 (G:=G) oM hm
 by_cases hg : 1 ≤ m ∧ cB b = true
 case neg =>
  have hno : bX s k = none:=by unfold bX;rw [e];simp [hm,hg]
  have hg' : m < 1 ∨ cB b = false:=by
   by_cases h1 : m < 1
   ·exact .inl h1
   ·cases hb2 : cB b with
    | false=>exact .inr F
    | true=>exact absurd ⟨oM,hb2⟩ hg
  rcases hg' with hg' | hg'
  all_goals refine jE [(0,_),(1,_)] Tryz.func192 Tryz.ntmps192 fun B hB=>?_
  all_goals repeat' (first | refine jR ?_ | (refine jo ?_;first | refine jL fun _=>?_ | refine jV (ag F) ?_ | refine aK F ?_ | refine aw F ?_ | refine jV (ao F F) ?_ | refine jC F F F ?_ | refine jV (aT F F oM) ?_ | refine al F ?_ | refine jV (kG F F F) ?_ | refine aQ F ?_ | (refine fg F F F cx_cut1 F ?_;rintro _ _ ⟨b1,cap1,rfl,rfl⟩;dsimp only [zA,fA]) | refine ac F F F cx_num F ?_ | refine ac F F F (gf oM) F ?_) | (refine aA F F (by first | rfl | (refine decide_eq_true ?_;(assumption))) ?_) | refine am F F F ?_ | refine eD F F (fun _=>?_) (fun _=>?_) | (refine ab F ?_ ?_;(focus ((first | rfl | (simp [*];done));done))) | refine ad F (aE oM) ?_)
  all_goals refine jZ (vs:=[_,_]) F ⟨ay F F F F,F,trivial⟩ F ⟨F,F,?_⟩
  all_goals exact ⟨⟨_,_,_,_⟩,false,F,by rw [hno];rfl⟩
 obtain ⟨hg1,hg2⟩:=hg
 have hyes : bX s k = match aY 61 c with
  | [d]=>if bC d = true then some ⟨m,b,d,[]⟩ else none
  | [d,e]=>if k = 82 ∧ bN d e = true then some ⟨m,b,d,e⟩ else none
  | _=>none:=by
  unfold bX;rw [e];simp only [hm,hg1,hg2,hk,if_false,if_true,and_self] <;> rfl
 have hp : 0 < (aY 61 c).length:=dZ
 match e2 : aY 61 c,hp with
 | [d],_ =>
  rw [e2] at hyes
  have cx_cut2:=ku (G:=G) (k:=61) 1 oM e2 rfl oM
  refine jE [(0,_),(1,_)] Tryz.func192 Tryz.ntmps192 fun B hB=>?_
  repeat' (first | refine jR ?_ | (refine jo ?_;first | refine jL fun _=>?_ | refine jV (ag F) ?_ | refine aK F ?_ | refine aw F ?_ | refine jV (ao F F) ?_ | refine jD F F F ?_ | refine jC F F F ?_ | refine jV (aq F F oM) ?_ | refine jV (aT F F oM) ?_ | refine al F ?_ | refine jV (kG F F F) ?_ | (refine fg F F F cx_cut1 F ?_;rintro _ _ ⟨b1,cap1,rfl,rfl⟩;dsimp only [zA,fA]) | (refine fg F F F cx_cut2 F ?_;rintro _ _ ⟨b2,cap2,rfl,rfl⟩;dsimp only [zA,fA]) | refine ac F F F cx_num F ?_ | refine ac F F F (gf oM) F ?_) | refine aA F F F ?_ | (refine am F F (by first | rfl | (refine decide_eq_false ?_;(omega))) ?_) | (refine ad F ?_ ?_;(focus ((first | rfl | (refine decide_eq_false ?_;(omega)) | (simp [*];done));done))) | (refine ak (dL (id:=15) (tt:=4) F aj ?_);refine jW 10 [1] (aa 11 2) ?_;(refine jG (aa 11 3) 0 F (bz F F F F) ?_);(refine jG (aa 11 7) 2 F (ag F) ?_);refine jW 6 [3,4] (aa 11 31) ?_;(try (refine Nx.re (d:=87) (v':=Bo true) F (congrArg Value.bool F) ?_));refine jW 5 [5] (aa 11 63) ?_;(refine jG (aa 11 127) 6 F (aC F F F) ?_);(refine jA 7 F ?_;(refine ac F F F ny F ?_);refine jK (aa 11 255) ?_);((refine jG (aa 11 511) 8 F (bJ F F ?_) ?_;(focus ((rfl);done))));refine jA 9 F ?_;(refine jC F F F ?_);refine jK (aa 11 1023) ?_;refine jW 0 [10] (aa 11 2047) ?_;refine jQ ?_))
  all_goals refine jZ (vs:=[_,_]) F ⟨ay F F F F,F,trivial⟩ F ⟨F,F,?_⟩
  all_goals exact ⟨⟨m,b,d,[]⟩,bC d,F,hyes⟩
 | [d,f],_=>exact p6 h e hk hm hg1 hg2 e2
 | d :: f :: g :: r,_ =>
  rw [e2] at hyes
  have cx_cut2:=ku (G:=G) (k:=61) (r.length + 3) oM e2 (by simp) oM
  refine jE [(0,_),(1,_)] Tryz.func192 Tryz.ntmps192 fun B hB=>?_
  repeat' (first | refine jR ?_ | (refine jo ?_;first | refine jL fun _=>?_ | refine jV (ag F) ?_ | refine aK F ?_ | refine aw F ?_ | refine jV (ao F F) ?_ | refine jD F F F ?_ | refine jC F F F ?_ | refine jV (aq F F oM) ?_ | refine jV (aT F F oM) ?_ | refine al F ?_ | refine jV (kG F F F) ?_ | (refine fg F F F cx_cut1 F ?_;rintro _ _ ⟨b1,cap1,rfl,rfl⟩;dsimp only [zA,fA]) | (refine fg F F F cx_cut2 F ?_;rintro _ _ ⟨b2,cap2,rfl,rfl⟩;dsimp only [zA,fA]) | refine ac F F F cx_num F ?_ | refine ac F F F (gf oM) F ?_) | refine aA F F F ?_ | (refine am F F (by first | rfl | (refine decide_eq_false ?_;(omega))) ?_) | (refine ad F ?_ ?_;(focus ((first | rfl | (refine decide_eq_false ?_;(omega)) | (simp [*];done));done))) | (refine ak (dL (id:=15) (tt:=4) F aj ?_);refine jW 10 [1] (aa 11 2) ?_;(refine jG (aa 11 3) 0 F (bz F F F F) ?_);(refine jG (aa 11 7) 2 F (ag F) ?_);refine jW 6 [3,4] (aa 11 31) ?_;(try (refine Nx.re (d:=87) (v':=Bo false) F (congrArg Value.bool F) ?_));refine jW 5 [5] (aa 11 63) ?_;(refine jN (aa 11 127) 6 F ?_);(refine jN (aa 11 255) 7 F ?_);((refine jG (aa 11 511) 8 F (bm F F ?_) ?_;(focus ((rfl);done))));refine jA 9 F ?_;(refine jC F F F ?_);refine jK (aa 11 1023) ?_;refine jW 0 [10] (aa 11 2047) ?_;refine jQ ?_))
  all_goals refine jZ (vs:=[_,_]) F ⟨ay F F F F,F,trivial⟩ F ⟨F,F,?_⟩
  all_goals exact ⟨⟨m,b,d,[]⟩,false,F,hyes⟩
theorem mD {s : adE} {k : Nat} (h : s.length ≤ 1000) : aG adD 192 [S s,U8 k] G (ly s k):=by
 by_cases h2 : (aY 58 s).length = 2
 ·match e : aY 58 s,h2 with
  | [a,b],_=>exact qM h e
 by_cases h3 : (aY 58 s).length = 3
 ·match e : aY 58 s,h3 with
  | [a,b,c],_=>exact qL h e
 exact qN h h2 h3
theorem ml {s : adE} {k : Nat} (h : s.length ≤ 100000000) : bd adD 82 [S s,U8 k] G (fun v G'=>bq G' v 1 (aY k s).length (ax bY (aY k s))):=by
 refine cM.shutP ((uE (G:=G) (k:=k) h).mono ?_)
 rintro v G' L' ⟨h1,h2,_⟩
 exact ⟨h1,v,_,_,_,_,h2,fun G' _ h3=>by rw [← vV];exact h3⟩
abbrev uV : TypeId:=150
abbrev qS : TypeId:=146
def abW (s : adE) (v : Value) (G : Gh) : Prop:=∃ fv t ok,v = Tu [Ag [U8 (t : Ty).sort,S t.name,fv],Bo ok] ∧ (dh s = if ok = true then some t else none) ∧ bq G fv 4 t.fields.length (ax gP t.fields)
theorem bq.nil0 {G : Gh} {sz : Nat} : bq G aN sz 0 []:=⟨by simp,.inl ⟨rfl,rfl⟩⟩
theorem sO {α : Type} [Inhabited α] {xs : List α} {i : Nat} (h : i < xs.length) : xs.drop i = ae xs i :: xs.drop (i + 1):=by rw [aI h];exact (List.getElem_cons_drop (h:=h)).symm
theorem uN.sl {v : Value} {m : Nat} (h : uN v m) : ∃ a cap,v = .slice a m cap:=by
 rcases h with ⟨rfl,rfl⟩ | ⟨b,cap,rfl,_⟩
 ·exact ⟨none,0,F⟩
 ·exact ⟨_,cap,F⟩
theorem lA {c : UInt8} {r : adE} (h : (aJ 61 r).2.2 = false) : dh (c :: r) = none:=by
 unfold dh
 split
 ·rfl
 ·rename_i h1;cases h1
  split
  ·rename_i h2;rw [h2] at h;cases h
  ·rfl
theorem nD {c : UInt8} {r name rest : adE} (h : aJ 61 r = (name, rest, true)) : dh (c :: r) = if cB name = true ∧ ep c.toNat then
        if rest = [] then (if c.toNat = 82 then some ⟨82,name,[]⟩ else none)
        else match da c.toNat (aY 44 rest) [] with
          | some fs=>if fs.length ≤ 8 then some ⟨c.toNat,name,fs⟩ else none
          | none=>none
      else none:=by
  unfold dh
  simp only [h];rfl
theorem s6 {s : adE} (h : s.length ≤ 1000) : bd adD 155 [S s] G (abW s):=by
  refine jB [(0,_)] Tryz.func155 Tryz.ntmps155 fun B hok hB hW=>?_
  repeat' (first | refine jR ?_ | (refine jo ?_;refine jL fun _=>?_))
  rename_i x
  refine aU (ι:=Nat) (fun i=>i ≤ s.length ∧ ∀ k,k < i → bt s k ≠ 61) (fun i=>[(0,S s),(2,Pt x 0),(4,I i)]) (fun _=>G) (fun i=>[.blk x (.cells [U8 0,S [],aN].toArray qS (0,0))]) (fun i=>s.length - i) 0 ?_ tU F aZ (fun i Hi=>?_)
  · exact ⟨oM,fun k hk=>absurd hk oM⟩
  by_cases hi : i < s.length ∧ bt s i ≠ 61
  · repeat' (first | refine jM ?_ | (refine jo ?_;refine aK F ?_) | refine aA F F (aD oM) ?_ | (refine ab F ?_ ?_;(focus ((simp;omega);done))))
    refine a7 (i + 1) ⟨oM,fun k hk=>?_⟩ oM tU F aZ
    rcases Nat.lt_or_ge k i with h3 | h3
    · exact Hi.2 k h3
    · have : k = i:=oM
      subst this;exact hi.2
  rcases Nat.lt_or_ge i s.length with hlt | hge
  case inr =>
    have hno : dh s = none:=by
      match s,Hi,hge with
      | [],_,_=>rfl
      | c :: r,Hi,hge =>
        refine lA ?_
        rw [qH fun j hj=>by have:=Hi.2 (j + 1) (by simp at hge;omega);rwa [dQ] at this]
    repeat' (first | refine jR ?_ | (refine jo ?_;first | refine aK F ?_ | refine aw F ?_ | refine jV (ao F F) ?_ | refine jC F F F ?_) | refine am F F (aE oM) ?_ | refine eD F F (fun _=>?_) (fun _=>?_) | (refine ab F (by first | rfl | (refine decide_eq_true ?_;(omega))) ?_) | refine ad F F ?_)
    all_goals refine jZ (vs:=[_,_]) F ⟨ay F F F F,F,trivial⟩ F ⟨Gh.le.refl _,F,?_⟩
    all_goals exact ⟨aN,default,false,F,by rw [hno];rfl,bq.nil0⟩
  have h61 : bt s i = 61:=by
    rcases Nat.lt_or_ge (bt s i) 61 with h1 | h1
    · exact absurd ⟨hlt,oM⟩ hi
    · rcases Nat.lt_or_ge 61 (bt s i) with h2 | h2
      · exact absurd ⟨hlt,oM⟩ hi
      · omega
  match s,i,Hi,hlt,h61,h with
  | c :: r,0,Hi,hlt,h61,h =>
    have hno : dh (c :: r) = none:=by
      rw [a6] at h61
      cases ht : (aJ 61 r).2.2 with
      | false=>exact lA ht
      | true =>
        rw [nD (c:=c) (r:=r) (name:=(aJ 61 r).1) (rest:=(aJ 61 r).2.1) (by rw [← ht])]
        rw [if_neg]
        rintro ⟨_,h2⟩
        unfold ep at h2;omega
    have h62 : bt (c :: r) ((0 : Nat) : Int).toNat = 61:=h61
    repeat' (first | refine jM ?_ | (refine jo ?_;first | refine aK F ?_ | refine jV (ao F F) ?_ | refine jC F F F ?_) | (refine aA F F (by first | rfl | (refine decide_eq_true ?_;(omega))) ?_) | refine ab F F ?_ | refine ad F (aE oM) ?_)
    all_goals refine jZ (vs:=[_,_]) F ⟨ay F F F F,F,trivial⟩ F ⟨Gh.le.refl _,F,?_⟩
    all_goals exact ⟨aN,default,false,F,by rw [hno];rfl,bq.nil0⟩
  | c :: r,j + 1,Hi,hlt,h61,h =>
    have hj : j < r.length:=by simpa using hlt
    have hcut1 : aJ 61 r = (r.take j,r.drop (j + 1),true):=nN hj (fun k hk=>by have:=Hi.2 (k + 1) oM;rwa [dQ] at this) (by rwa [dQ] at h61)
    have hty:=nD (c:=c) hcut1
    have h62 : bt (c :: r) ((j + 1 : Nat) : Int).toNat = 61:=h61
    have e0 : bt (c :: r) (Int.toNat 0) = c.toNat:=a6 c r
    have hnl : (r.take j).length ≤ 1000:=by simp at h ⊢;omega
    have cx_nm:=gf (G:=G) (s:=r.take j) oM
    by_cases hg : cB (r.take j) = true ∧ ep c.toNat
    case neg =>
      have hno : dh (c :: r) = none:=by rw [hty,if_neg hg]
      by_cases hn : cB (r.take j) = true
      · have hn2 : (!cB (r.take j)) = false:=by rw [hn];rfl
        have hns : ¬ ep c.toNat:=fun h=>hg ⟨hn,h⟩
        unfold ep at hns
        repeat' (first | refine jM ?_ | (refine jo ?_;first | refine aK F ?_ | refine aw F ?_ | refine jC F F F ?_ | refine al F ?_ | refine aQ F ?_ | refine ac F F F cx_nm F ?_) | refine aA F F (aD oM) ?_ | (refine am F F (by first | rfl | assumption) ?_) | refine ab F (aD oM) ?_ | refine ad F (aE oM) ?_ | (refine ak (ar (id:=6) _ (fun _ h=>h) aj ?_);refine jW 3 [0,1,2,3,4] (aa 8 31) ?_;(refine jG (aa 8 63) 5 F (ao F F) ?_);refine jA 6 F ?_;(refine jL fun _=>?_);refine jK (aa 8 127) ?_;refine jA 7 F ?_;(refine jC F F F ?_);refine jK (aa 8 255) ?_;refine jQ ?_))
        all_goals refine jZ (vs:=[_,_]) F ⟨ay F F F F,F,trivial⟩ F ⟨Gh.le.refl _,F,?_⟩
        all_goals exact ⟨aN,⟨_,_,[]⟩,false,F,by rw [hno];rfl,bq.nil0⟩
      · have hn2 : (!cB (r.take j)) = true:=by simpa using hn
        repeat' (first | refine jM ?_ | (refine jo ?_;first | refine aK F ?_ | refine aw F ?_ | refine jC F F F ?_ | refine al F ?_ | refine aQ F ?_ | refine ac F F F cx_nm F ?_) | (refine aA F F (by first | assumption | (refine decide_eq_true ?_;(omega))) ?_) | refine am F F F ?_ | refine ab F F ?_ | refine ad F (aE oM) ?_ | (refine ak (ar (id:=6) _ (fun _ h=>h) aj ?_);refine jW 3 [0,1,2,3,4] (aa 8 31) ?_;(refine jG (aa 8 63) 5 F (ao F F) ?_);refine jA 6 F ?_;(refine jL fun _=>?_);refine jK (aa 8 127) ?_;refine jA 7 F ?_;(refine jC F F F ?_);refine jK (aa 8 255) ?_;refine jQ ?_))
        all_goals refine jZ (vs:=[_,_]) F ⟨ay F F F F,F,trivial⟩ F ⟨Gh.le.refl _,F,?_⟩
        all_goals exact ⟨aN,⟨_,_,[]⟩,false,F,by rw [hno];rfl,bq.nil0⟩
    have hn2 : (!cB (r.take j)) = false:=by rw [hg.1];rfl
    have hs2:=hg.2
    unfold ep at hs2
    rw [if_pos hg] at hty
    by_cases hrest : r.drop (j + 1) = []
    · rw [if_pos hrest] at hty
      by_cases h82 : c.toNat = 82
      · rw [if_pos h82] at hty
        have e82 : bt (c :: r) (Int.toNat 0) = 82:=oM
        repeat' (first | refine jM ?_ | (refine jo ?_;first | refine aK F ?_ | refine aw F ?_ | refine al F ?_ | refine ac F F F cx_nm F ?_) | refine aA F F (aD oM) ?_ | (refine am F F (by first | rfl | assumption | (refine decide_eq_false ?_;(omega))) ?_) | refine ab F (aD ‹_›) ?_ | (refine ad F (by first | rfl | (refine decide_eq_false ?_;(omega))) ?_) | (refine ak (ar (id:=6) _ (fun _ h=>h) aj ?_);refine jW 3 [0,1,2,3,4] (aa 8 31) ?_;(refine jG (aa 8 63) 5 F (ao F F) ?_);refine jA 6 F ?_;(refine jL fun _=>?_);refine jK (aa 8 127) ?_;refine jA 7 F ?_;(refine jC F F F ?_);refine jK (aa 8 255) ?_;refine jQ ?_) | (refine ak (dL (id:=10) (tt:=2) F aj ?_);refine jW 5 [1] (aa 6 2) ?_;(refine jG (aa 6 3) 0 F (bz F F F F) ?_);(refine jG (aa 6 7) 2 F (aC F F F) ?_);refine jW 2 [3] (aa 6 15) ?_;refine jA 4 F ?_;(refine jC F F F ?_);refine jK (aa 6 31) ?_;refine jW 0 [5] (aa 6 63) ?_;refine jQ ?_))
        all_goals refine jZ (vs:=[_,_]) F ⟨ay F F F F,F,trivial⟩ F ⟨Gh.le.refl _,F,?_⟩
        all_goals refine ⟨aN,⟨82,r.take j,[]⟩,true,?_,hty,bq.nil0⟩
        all_goals show Tu [Ag [U8 (bt (c :: r) (Int.toNat 0) : Nat),S (r.take j),aN],Bo (decide (((bt (c :: r) (Int.toNat 0) : Nat) : Int) = 82))] = _
        all_goals (rw [e82];rfl)
      · rw [if_neg h82] at hty
        have e82 : ¬ bt (c :: r) (Int.toNat 0) = 82:=oM
        have e83 : decide (((bt (c :: r) (Int.toNat 0) : Nat) : Int) = 82) = false:=decide_eq_false oM
        repeat' (first | refine jM ?_ | (refine jo ?_;first | refine aK F ?_ | refine aw F ?_ | refine al F ?_ | refine ac F F F cx_nm F ?_) | refine aA F F (aD oM) ?_ | (refine am F F (by first | rfl | assumption) ?_) | refine eD F F (fun _=>?_) (fun _=>?_) | refine ab F (aD ‹_›) ?_ | (refine ad F (by first | rfl | (refine decide_eq_false ?_;(omega))) ?_) | (refine ak (ar (id:=6) _ (fun _ h=>h) aj ?_);refine jW 3 [0,1,2,3,4] (aa 8 31) ?_;(refine jG (aa 8 63) 5 F (ao F F) ?_);refine jA 6 F ?_;(refine jL fun _=>?_);refine jK (aa 8 127) ?_;refine jA 7 F ?_;(refine jC F F F ?_);refine jK (aa 8 255) ?_;refine jQ ?_) | (refine ak (dL (id:=10) (tt:=2) F aj ?_);refine jW 5 [1] (aa 6 2) ?_;(refine jG (aa 6 3) 0 F (bz F F F F) ?_);(refine jG (aa 6 7) 2 F (aC F F F) ?_);refine jW 2 [3] (aa 6 15) ?_;refine jA 4 F ?_;(refine jC F F F ?_);refine jK (aa 6 31) ?_;refine jW 0 [5] (aa 6 63) ?_;refine jQ ?_))
        all_goals refine jZ (vs:=[_,_]) F ⟨ay F F F F,F,trivial⟩ F ⟨Gh.le.refl _,F,?_⟩
        all_goals refine ⟨aN,⟨bt (c :: r) (Int.toNat 0),r.take j,[]⟩,false,?_,hty,bq.nil0⟩
        all_goals show Tu [Ag [U8 (bt (c :: r) (Int.toNat 0) : Nat),S (r.take j),aN],Bo (decide (((bt (c :: r) (Int.toNat 0) : Nat) : Int) = 82))] = _
        all_goals (rw [e83])
    rw [if_neg hrest] at hty
    have hrl : (r.drop (j + 1)).length ≤ 1000:=by simp at h ⊢;omega
    have hcl:=g8 (k:=44) (s:=r.drop (j + 1))
    have cx_cutS:=ml (G:=G) (s:=r.drop (j + 1)) (k:=44) oM
    have hall : ∀ y ∈ aY 44 (r.drop (j + 1)),y.length ≤ 1000:=fun y hy=>Nat.le_trans (c6 hy) hrl
    generalize hxs : aY 44 (r.drop (j + 1)) = xs at *
    rcases hs2 with h1 | h1 | h1
    all_goals repeat' (first | refine jM ?_ | (refine jo ?_;first | refine aK F ?_ | refine aw F ?_ | refine al F ?_ | refine ac F F F cx_nm F ?_ | (refine aF F F F cx_cutS F ?_;rintro _ G hle hcut;skip)) | refine aA F F (aD oM) ?_ | (refine am F F (by first | rfl | assumption | (refine decide_eq_false ?_;(omega))) ?_) | (refine ad F (by first | rfl | (refine decide_eq_false ?_;first | assumption | omega)) ?_) | (refine ak (ar (id:=6) _ (fun _ h=>h) aj ?_);refine jW 3 [0,1,2,3,4] (aa 8 31) ?_;(refine jG (aa 8 63) 5 F (ao F F) ?_);refine jA 6 F ?_;(refine jL fun _=>?_);refine jK (aa 8 127) ?_;refine jA 7 F ?_;(refine jC F F F ?_);refine jK (aa 8 255) ?_;refine jQ ?_))
    all_goals rename_i y v
    all_goals refine Nx.addNil uV 4 ?_
    all_goals refine aU (ι:=Value × List Fld × Nat) (fun i=>i.2.2 ≤ xs.length ∧ i.2.1.length ≤ i.2.2 ∧ da c.toNat (xs.drop i.2.2) i.2.1 = da c.toNat xs []) (fun i=>[(2,Pt x 0),(5,Pt y 0),(6,v),(7,I i.2.2)]) (fun _=>G) (fun i=>[.acc i.1 uV 4 i.2.1.length (ax gP i.2.1),.blk y (.cells [U8 (bt (c :: r) (Int.toNat 0) : Nat),S (r.take j),i.1].toArray qS (0,0)),.blk x (.cells [U8 0,S [],aN].toArray qS (0,0))]) (fun i=>xs.length - i.2.2) (aN,[],0) ?_ tU F aZ (fun i Hi=>?_)
    all_goals (first | exact ⟨Nat.zero_le _,Nat.le_refl _,F⟩ | skip)
    all_goals obtain ⟨u,fs,i⟩:=i
    all_goals dsimp only at Hi ⊢
    all_goals obtain ⟨hi1,hi2,hi3⟩:=Hi
    all_goals refine Nx.shp (v:=u) (.head _) fun hsh=>?_
    all_goals (have hsh2:=hsh;obtain ⟨au,cu,rfl⟩:=hsh.sl)
    all_goals by_cases hix : i < xs.length
    all_goals try (rw [sO hix,da] at hi3;obtain ⟨bv,ov,cv,rfl,hsv⟩:=hcut.expl oM;have hx:=hall _ (bh hix))
    all_goals repeat' (first | refine jR ?_ | (refine jo ?_;first | refine jC F F F ?_ | refine aQ F ?_ | refine jV (ag F) ?_ | refine jV (f6 F aS) ?_) | refine ab F (aD oM) ?_ | refine ad F (aE oM) ?_ | refine sy F (fun _=>?_) (fun _=>?_) | (refine ak (ar (id:=15) _ (fun _ h=>h) aj ?_);refine jT 10 [0,1,4] (aa 13 19) ?_;(refine jG (aa 13 23) 2 F (aq F F oM) ?_);((refine jG (aa 13 31) 3 F (ew F F aS ?_) ?_;focus omega));(refine jG (aa 13 63) 5 F (aC F F F) ?_);refine cX [6,10] kR dC ⟨?_,?_,trivial⟩;(focus (refine bE F F ?_;(refine dn F F F (mD oM) F ?_;rintro _ ⟨f,ok,rfl,hfld⟩);refine jK (aa 13 127) ?_;refine jW 3 [7,8,9] (aa 13 1023) ?_;refine jA 10 F ?_;(refine jL fun _=>?_);refine jK (aa 13 2047) ?_;refine jA 11 F ?_;(refine jC F F F ?_);refine jK (aa 13 4095) ?_;refine jW 0 [12] (aa 13 8191) ?_;refine jQ ?_));rotate_left 1;(focus (refine bE F F ?_;(refine jL fun _=>?_);refine jK (aa 13 1087) ?_;refine jA 6 F ?_;(refine dn F F F (mD oM) F ?_;rintro _ ⟨f,ok,rfl,hfld⟩);refine jK (aa 13 1151) ?_;refine jW 2 [7,8,9] (aa 13 2047) ?_;refine jA 11 F ?_;(refine jC F F F ?_);refine jK (aa 13 4095) ?_;refine jW 0 [12] (aa 13 8191) ?_;refine jQ ?_));rotate_left 1) | (refine ak (dL (id:=24) (tt:=2) F aj ?_);refine jW 6 [1] (aa 7 2) ?_;(refine jG (aa 7 3) 0 F (bz F F F F) ?_);(refine jG (aa 7 7) 2 F (aC F F F) ?_);(refine jG (aa 7 15) 3 F (ag F) ?_);refine jW 2 [4] (aa 7 31) ?_;refine jA 5 F ?_;(refine jC F F F ?_);refine jK (aa 7 63) ?_;refine jW 0 [6] (aa 7 127) ?_;refine jQ ?_))
    all_goals first
      | (rename_i z hq
         have hq2 : ok = false:=by simpa using hq
         subst hq2
         have hf0 : bX (ae xs i) c.toNat = none:=hfld
         have hno : dh (c :: r) = none:=by rw [hf0] at hi3;rw [hty,← hi3]
         refine Nx.sealS (v:=.slice au fs.length cu) fun G' hle2 hsl=>?_
         refine jZ (vs:=[_,_]) F ⟨ay F F F F,F,trivial⟩ F ⟨hle.trans hle2,F,?_⟩
         exact ⟨.slice au fs.length cu,⟨bt (c :: r) (Int.toNat 0),r.take j,fs⟩,false,F,by rw [hno];rfl,hsl⟩)
      | (have ei : i = xs.length:=oM
         have hyes : dh (c :: r) = if fs.length ≤ 8 then some ⟨c.toNat,r.take j,fs⟩ else none:=by
           rw [ei,List.drop_length,da] at hi3
           rw [hty,← hi3]
         refine Nx.sealS (v:=.slice au fs.length cu) fun G' hle2 hsl=>?_
         refine jZ (vs:=[_,_]) F ⟨ay F F F F,F,trivial⟩ F ⟨hle.trans hle2,F,?_⟩
         refine ⟨.slice au fs.length cu,⟨c.toNat,r.take j,fs⟩,decide (fs.length ≤ 8),?_,by rw [hyes];simp,hsl⟩
         rw [eC,e0]
         refine congrArg (fun x=>Tu [_,Bo x]) (decide_eq_decide.2 ?_)
         omega)
      | (rename_i z hq
         have hq2 : ok = true:=by simpa using hq
         subst hq2
         have hf1 : bX (ae xs i) c.toNat = some f:=hfld
         rw [hf1] at hi3
         dsimp only at hi3
         refine aU (ι:=Nat) (fun k=>k ≤ fs.length ∧ ∀ m,m < k → (ae fs m).tag < f.tag ∧ (ae fs m).name ≠ f.name) (fun k=>[(2,Pt x 0),(5,Pt y 0),(6,.slice (some ⟨bv,ov,none⟩) xs.length cv),(7,I i),(8,Pt z 0),(10,I k)]) (fun _=>G) (fun k=>[.blk z (.cells (gP f).toArray uV (0,0)),.acc (.slice au fs.length cu) uV 4 fs.length (ax gP fs),.blk y (.cells [U8 (bt (c :: r) (Int.toNat 0) : Nat),S (r.take j),.slice au fs.length cu].toArray qS (0,0)),.blk x (.cells [U8 0,S [],aN].toArray qS (0,0))]) (fun k=>fs.length - k) 0 ?_ tU F aZ (fun k Hk=>?_)
         · exact ⟨Nat.zero_le _,fun m hm=>absurd hm oM⟩
         by_cases hk : k < fs.length
         · obtain ⟨bu,cu2,eu⟩:=hsh2.pos oM
           simp only [Value.slice.injEq] at eu
           obtain ⟨rfl,-,rfl⟩:=eu
           by_cases hbad : (ae fs k).tag < f.tag ∧ (ae fs k).name ≠ f.name
           · obtain ⟨hb1,hb2⟩:=hbad
             repeat' (first | refine jM ?_ | (refine jo ?_;first | refine al F ?_ | refine jV (ag F) ?_) | refine ab F (aD oM) ?_ | refine ad F (aE ‹_›) ?_ | (refine ak (ar (id:=21) _ (fun _ h=>h) aj ?_);refine jT 17 [0,2,6] (aa 20 69) ?_;(refine jG (aa 20 71) 1 F (aC F F F) ?_);(refine jG (aa 20 79) 3 F (aq F F oM) ?_);refine jT 14 [4] (aa 20 95) ?_;(refine jG (aa 20 127) 5 F (nM F F F oM F F) ?_);(refine jG (aa 20 255) 7 F (aC F F F) ?_);refine jT 10 [8,9] (aa 20 1023) ?_;(try ((refine Nx.re (d:=107) (v':=Bo false) F (congrArg Value.bool (aE oM)) ?_)));refine jT 7 [10,12,16] (aa 20 71679) ?_;(refine jG (aa 20 73727) 11 F (aC F F F) ?_);(refine jG (aa 20 81919) 13 F (aq F F oM) ?_);refine jT 4 [14] (aa 20 98303) ?_;(refine jG (aa 20 131071) 15 F (nM F F F oM F F) ?_);(refine jG (aa 20 262143) 17 F (aC F F F) ?_);refine jT 1 [18] (aa 20 524287) ?_;(refine jG (aa 20 1048575) 19 F (bm F F F) ?_);refine jQ ?_))
             refine a7 (k + 1) ⟨oM,fun m hm=>?_⟩ oM tU F aZ
             rcases Nat.lt_or_ge m k with h3 | h3
             · exact Hk.2 m h3
             · have : m = k:=oM
               subst this;exact ⟨hb1,hb2⟩
           · have hfr : fresh f fs = false:=by
               unfold fresh
               rw [List.all_eq_false]
               exact ⟨ae fs k,bh hk,by simpa using hbad⟩
             have hno : dh (c :: r) = none:=by
               rw [hfr,if_neg (by simp)] at hi3
               rw [hty,← hi3]
             by_cases htag : f.tag ≤ (ae fs k).tag
             case' neg => have hnm : (ae fs k).name = f.name := by
                           by_cases h6 : (ae fs k).name = f.name
                           · exact h6
                           · exact absurd ⟨oM,h6⟩ hbad
             all_goals repeat' (first | refine jR ?_ | (refine jo ?_;first | refine jC F F F ?_ | refine al F ?_ | refine aQ F ?_ | refine jV (ag F) ?_) | (refine ab F (by first | rfl | (refine decide_eq_true ?_;first | assumption | omega)) ?_) | (refine ak (ar (id:=21) _ (fun _ h=>h) aj ?_);refine jT 17 [0,2,6] (aa 20 69) ?_;(refine jG (aa 20 71) 1 F (aC F F F) ?_);(refine jG (aa 20 79) 3 F (aq F F oM) ?_);refine jT 14 [4] (aa 20 95) ?_;(refine jG (aa 20 127) 5 F (nM F F F oM F F) ?_);(refine jG (aa 20 255) 7 F (aC F F F) ?_);refine jT 10 [8,9] (aa 20 1023) ?_;(try (first | (refine Nx.re (d:=107) (v':=Bo true) F (congrArg Value.bool (aD ‹_›)) ?_) | (refine Nx.re (d:=107) (v':=Bo false) F (congrArg Value.bool (aE ‹_›)) ?_)));refine jT 7 [10,12,16] (aa 20 71679) ?_;(first | refine jG (aa 20 73727) 11 F (aC F F F) ?_ | refine jN (aa 20 73727) 11 F ?_);(first | refine jG (aa 20 81919) 13 F (aq F F oM) ?_ | refine jN (aa 20 81919) 13 F ?_);refine jT 4 [14] (aa 20 98303) ?_;(first | refine jG (aa 20 131071) 15 F (nM F F F oM F F) ?_ | refine jN (aa 20 131071) 15 F ?_);(first | refine jG (aa 20 262143) 17 F (aC F F F) ?_ | refine jN (aa 20 262143) 17 F ?_);refine jT 1 [18] (aa 20 524287) ?_;(first | refine jG (aa 20 1048575) 19 F (bJ F F F) ?_ | refine jG (aa 20 1048575) 19 F (bm F F F) ?_);refine jQ ?_))
             all_goals refine Nx.sealS (v:=.slice (some ⟨bu,0,none⟩) fs.length cu) fun G' hle2 hsl=>?_
             all_goals refine jZ (vs:=[_,_]) F ⟨ay F F F F,F,trivial⟩ F ⟨hle.trans hle2,F,?_⟩
             all_goals exact ⟨.slice (some ⟨bu,0,none⟩) fs.length cu,⟨bt (c :: r) (Int.toNat 0),r.take j,fs⟩,false,F,by rw [hno];rfl,hsl⟩
         · have hfr : fresh f fs = true:=by
             unfold fresh
             rw [List.all_eq_true]
             intro g hg
             obtain ⟨m,hm,rfl⟩:=nK hg
             simpa using Hk.2 m oM
           rw [hfr,if_pos rfl] at hi3
           have hxl : xs.length ≤ 1001:=oM
           repeat' (first | refine jR ?_ | (refine jo ?_;first | refine al F ?_ | refine aQ F ?_ | refine jV (ag F) ?_ | refine jF fun _=>?_ | refine rO F F F F F F F F oM fun _=>?_) | refine ad F (aE oM) ?_)
           rename_i u2
           refine Nx.shp (v:=u2) (.head _) fun hs4=>?_
           obtain ⟨a4,c4,rfl⟩:=hs4.sl
           repeat' (first | refine jM ?_ | (refine jo ?_;refine jD F F F ?_))
           refine a7 (.slice a4 (fs.length + 1) c4,fs ++ [f],i + 1) ⟨by dsimp only;omega,by simp;omega,hi3⟩ (by dsimp only;omega) tU rfl (by dsimp only;simp only [b5,List.length_append,List.length_cons,List.length_nil,Nat.zero_add];repeat (first | exact List.Sublist.refl _ | apply List.Sublist.cons_cons | apply List.Sublist.cons)))
def i8 (G : Gh) (b : Nat) (t : Ty) : Prop:=∃ fv ln,cH G b 0 [U8 t.sort,S t.name,fv,S ln] ∧ bq G fv 6 t.fields.length (ax jh t.fields)
theorem i8.mono {G G' : Gh} {b : Nat} {t : Ty} (h : i8 G b t) (hl : Gh.le G G') : i8 G' b t:=by
 obtain ⟨fv,ln,h1,h2⟩:=h
 exact ⟨fv,ln,h1.mono hl,h2.mono hl⟩
def abX (s : adE) (v : Value) (G : Gh) : Prop:=(dh s = none ∧ ∃ p,v = Tu [p,Bo false]) ∨ ∃ b t,v = Tu [Pt b 0,Bo true] ∧ dh s = some t ∧ i8 G b t
abbrev vU : TypeId:=167
abbrev tTi : TypeId:=165
theorem nn {k : Nat} : ∀ {xs : List adE} {fs gs : List Fld},da k xs fs = some gs → gs.length = fs.length + xs.length
 | [],fs,gs,h=>by simp only [da,Option.some.injEq] at h;subst h;simp
 | x :: xs,fs,gs,h=>by
  unfold da at h
  split at h
  ·cases h
  ·split at h
   ·have:=nn h;simp at this ⊢;omega
   ·cases h
theorem rue (c : UInt8) : decide (0 ≤ fQ c.toNat [82,85,69]) = decide (ep c.toNat):=by
 have h : ∀ n : Nat,n < 256 → decide (0 ≤ fQ n [82,85,69]) = decide (ep n):=by decide +kernel
 exact h _ c.toNat_lt
theorem pZ {s : adE} (h : s.length ≤ 1000) : bd adD 127 [S s] G (abX s):=by
  match s,h with
  | [],h =>
    refine jB [(0,_)] Tryz.func127 Tryz.ntmps127 fun B hok hB hW=>?_
    repeat' (first | refine jR ?_ | (refine jo ?_;refine aK F ?_) | refine aA F F F ?_ | refine ab F F ?_)
    all_goals refine jZ (vs:=[_,_]) F ⟨F,F,trivial⟩ F ⟨Gh.le.refl _,F,?_⟩
    all_goals exact .inl ⟨F,_,F⟩
  | c :: r,h =>
    have cx_cont : aG adD 164 [S [82,85,69],S [c]] G (· = Bo (decide (ep c.toNat))):=by rw [← rue];exact vH
    by_cases hs : ep c.toNat
    case neg =>
      have hno : dh (c :: r) = none:=by
        cases ht : (aJ 61 r).2.2 with
        | false=>exact lA ht
        | true=>rw [nD (c:=c) (r:=r) (name:=(aJ 61 r).1) (rest:=(aJ 61 r).2.1) (by rw [← ht]),if_neg fun h=>hs h.2]
      have hs2 : (!decide (ep c.toNat)) = true:=by simpa using hs
      refine jB [(0,_)] Tryz.func127 Tryz.ntmps127 fun B hok hB hW=>?_
      repeat' (first | refine jX ?_ | (refine jo ?_;first | refine aw F ?_ | refine ac F F F cx_cont F ?_) | refine am F F F ?_ | refine ab F ‹_› ?_)
      all_goals refine jZ (vs:=[_,_]) F ⟨F,F,trivial⟩ F ⟨Gh.le.refl _,F,?_⟩
      all_goals exact .inl ⟨hno,_,F⟩
    have hs2 : (!decide (ep c.toNat)) = false:=by simpa using hs
    have hcl:=kh (k:=61) (s:=r)
    have hrl : r.length ≤ 1000:=by simp at h;omega
    have cx_cut : aG adD 126 [S r,S [61]] G (· = Tu [S (aJ 61 r).1,S (aJ 61 r).2.1,Bo (aJ 61 r).2.2]):=qc (c:=61) oM
    cases ht : (aJ 61 r).2.2 with
    | false =>
      rw [ht] at cx_cut
      refine jB [(0,_)] Tryz.func127 Tryz.ntmps127 fun B hok hB hW=>?_
      repeat' (first | refine jX ?_ | (refine jo ?_;first | refine aK F ?_ | refine aw F ?_ | refine ac F F F cx_cont F ?_ | refine ac F F F cx_cut F ?_) | refine aA F F F ?_ | refine am F F F ?_ | refine ab F F ?_ | refine ad F ‹_› ?_)
      all_goals refine jZ (vs:=[_,_]) F ⟨F,F,trivial⟩ F ⟨Gh.le.refl _,F,?_⟩
      all_goals exact .inl ⟨lA ht,_,F⟩
    | true =>
      have hty:=nD (c:=c) (r:=r) (name:=(aJ 61 r).1) (rest:=(aJ 61 r).2.1) (by rw [← ht])
      rw [ht] at cx_cut
      generalize (aJ 61 r).1 = name at *
      generalize (aJ 61 r).2.1 = rest at *
      have e0 : bt (c :: r) (Int.toNat 0) = c.toNat:=a6 c r
      by_cases hn : cB name = true
      case neg =>
        have hn2 : (!cB name) = true:=by simpa using hn
        have hno : dh (c :: r) = none:=by rw [hty,if_neg fun h=>hn h.1]
        refine jB [(0,_)] Tryz.func127 Tryz.ntmps127 fun B hok hB hW=>?_
        repeat' (first | refine jX ?_ | (refine jo ?_;first | refine aw F ?_ | refine ac F F F cx_cont F ?_ | refine ac F F F cx_cut F ?_ | refine ac F F F (dF oM) F ?_) | refine am F F F ?_ | refine ab F ‹_› ?_ | refine ad F ‹_› ?_)
        all_goals refine jZ (vs:=[_,_]) F ⟨F,F,trivial⟩ F ⟨Gh.le.refl _,F,?_⟩
        all_goals exact .inl ⟨hno,_,F⟩
      have hn2 : (!cB name) = false:=by rw [hn];rfl
      rw [if_pos ⟨hn,hs⟩] at hty
      by_cases hr : rest = []
      · rw [if_pos hr] at hty
        by_cases h82 : c.toNat = 82
        · rw [if_pos h82] at hty
          have e82 : bt (c :: r) (Int.toNat 0) = 82:=oM
          refine jB [(0,_)] Tryz.func127 Tryz.ntmps127 fun B hok hB hW=>?_
          repeat' (first | refine jX ?_ | (refine jo ?_;first | refine aw F ?_ | refine jV (ao F F) ?_ | refine jO fun _=>?_ | refine ac F F F cx_cont F ?_ | refine ac F F F cx_cut F ?_ | refine ac F F F (dF oM) F ?_) | refine am F F F ?_ | refine ab F (aD ‹_›) ?_ | refine ad F ‹_› ?_ | (refine ak (ar (id:=8) _ (fun _ h=>h) aj ?_);refine jT 3 [0,1,2,3,6] (aa 8 79) ?_;(refine jG (aa 8 95) 4 F (aC F F F) ?_);refine jT 0 [5,7] (aa 8 255) ?_;refine jQ ?_))
          rename_i x
          refine Nx.sealC (b:=x) fun G' hle hseg=>?_
          refine jZ (vs:=[_,_]) F ⟨F,F,trivial⟩ F ⟨hle,F,?_⟩
          rw [e82] at hseg
          refine .inr ⟨x,⟨82,name,[]⟩,?_,hty,_,_,hseg,bq.nil0⟩
          show Tu [Pt x 0,Bo (decide (((bt (c :: r) (Int.toNat 0) : Nat) : Int) = 82))] = _
          rw [e82];rfl
        · rw [if_neg h82] at hty
          have e82 : ¬ bt (c :: r) (Int.toNat 0) = 82:=oM
          refine jB [(0,_)] Tryz.func127 Tryz.ntmps127 fun B hok hB hW=>?_
          repeat' (first | refine jX ?_ | (refine jo ?_;first | refine aw F ?_ | refine jV (ao F F) ?_ | refine jO fun _=>?_ | refine ac F F F cx_cont F ?_ | refine ac F F F cx_cut F ?_ | refine ac F F F (dF oM) F ?_) | refine am F F F ?_ | refine ab F (aD ‹_›) ?_ | refine ad F ‹_› ?_ | (refine ak (ar (id:=8) _ (fun _ h=>h) aj ?_);refine jT 3 [0,1,2,3,6] (aa 8 79) ?_;(refine jG (aa 8 95) 4 F (aC F F F) ?_);refine jT 0 [5,7] (aa 8 255) ?_;refine jQ ?_))
          all_goals refine jZ (vs:=[_,_]) F ⟨F,F,trivial⟩ F ⟨Gh.le.refl _,F,?_⟩
          all_goals exact .inl ⟨hty,_,by rw [eC,decide_eq_false (show ¬ ((bt (c :: r) (Int.toNat 0) : Nat) : Int) = 82 by omega)]⟩
      · rw [if_neg hr] at hty
        have hall : ∀ y ∈ aY 44 rest,y.length ≤ 1000:=fun y hy=>Nat.le_trans (c6 hy) oM
        have hcnt:=g8 (k:=44) (s:=rest)
        have cx_split : bd adD 97 [S rest,S [44]] G (fun v G'=>∃ b o cap,v = .slice (some ⟨b,o,none⟩) (aY 44 rest).length cap ∧ cH G' b o (ax bY (aY 44 rest))):=mf (c:=44) _ oM rfl rfl rfl dZ
        generalize aY 44 rest = xs at *
        refine jB [(0,_)] Tryz.func127 Tryz.ntmps127 fun B hok hB hW=>?_
        repeat' (first | refine jX ?_ | (refine jo ?_;first | refine aw F ?_ | refine jV (ao F F) ?_ | refine jO fun _=>?_ | refine jV (ag F) ?_ | refine ac F F F cx_cont F ?_ | refine ac F F F cx_cut F ?_ | refine ac F F F (dF oM) F ?_ | (refine aF F F F cx_split F ?_;rintro _ G hle ⟨b1,o1,cap1,rfl,hseg⟩;skip)) | refine am F F F ?_ | (refine ad F (by first | assumption | (refine decide_eq_false ?_;(assumption))) ?_))
        rename_i x
        have hle0:=hle
        refine Nx.addNil vU 6 ?_
        refine aU (ι:=Value × List Fld × Nat × Gh) (fun i=>((i.2.2.1 ≤ xs.length ∧ i.2.1.length ≤ i.2.2.1) ∧ i.2.1.length ≤ 8) ∧ da c.toNat (xs.drop i.2.2.1) i.2.1 = da c.toNat xs [] ∧ Gh.le G i.2.2.2) (fun i=>[(7,Pt x 0),(51,.slice (some ⟨b1,o1,none⟩) xs.length cap1),(52,I xs.length),(53,I i.2.2.1)]) (fun i=>i.2.2.2) (fun i=>[.acc i.1 vU 6 i.2.1.length (ax jh i.2.1),.blk x (.cells [U8 (bt (c :: r) (Int.toNat 0) : Nat),S name,i.1,S (c :: r)].toArray tTi (0,0))]) (fun i=>xs.length - i.2.2.1) (aN,[],0,G) ?_ tU F aZ (fun i Hi=>?_)
        · exact ⟨⟨⟨Nat.zero_le _,Nat.le_refl _⟩,by simp⟩,F,Gh.le.refl _⟩
        obtain ⟨u,fs,i,Gk⟩:=i
        dsimp only at Hi ⊢
        obtain ⟨⟨⟨hi1,hi2⟩,hi8⟩,hi3,hgk⟩:=Hi
        have hsk:=hseg.mono hgk
        refine Nx.shp (v:=u) (.head _) fun hsh=>?_
        have hsh2:=hsh
        obtain ⟨au,cu,rfl⟩:=hsh.sl
        by_cases hix : i < xs.length
        case neg =>
          have ei : i = xs.length:=oM
          rw [ei,List.drop_length,da] at hi3
          have hyes : dh (c :: r) = some ⟨c.toNat,name,fs⟩:=by rw [hty,← hi3];exact if_pos hi8
          repeat' (first | refine jR ?_ | refine ad F (aE oM) ?_)
          refine Nx.sealS (v:=.slice au fs.length cu) fun G1 hle1 hsl=>?_
          refine Nx.sealC (b:=x) fun G2 hle2 hsg2=>?_
          refine jZ (vs:=[_,_]) F ⟨F,F,trivial⟩ F ⟨((hle.trans hgk).trans hle1).trans hle2,F,?_⟩
          exact .inr ⟨x,⟨c.toNat,name,fs⟩,F,hyes,_,_,hsg2,hsl.mono hle2⟩
        rw [sO hix,da] at hi3
        have hx:=hall _ (bh hix)
        repeat' (first | refine jR ?_ | (refine jo ?_;first | refine aK F ?_ | refine aw F ?_ | refine al F ?_ | (refine jV (ew F F aS ?_) ?_;focus omega) | refine jV (ag F) ?_ | refine jV (aq F F oM) ?_ | refine jL fun _=>?_ | refine jC F F F ?_ | (refine aF F F F (tQ oM) F ?_;rintro _ G hle ⟨f,ok,rfl,hfld⟩;skip)) | refine oQ F F (fun _=>?_) (fun _=>?_) | (refine ab F (by first | rfl | (refine decide_eq_true ?_;(omega))) ?_) | refine dJ F (fun _=>?_) (fun _=>?_))
        all_goals first
          | (rename_i z hq h8
             have hq2 : ok = true:=by simpa using hq
             subst hq2
             have hf1 : bX (ae xs i) c.toNat = some f:=hfld
             rw [hf1] at hi3
             dsimp only at hi3
             have h9 : fs.length = 8:=oM
             have hno : dh (c :: r) = none:=by
               rw [hty]
               cases hgs : da c.toNat xs [] with
               | none=>rfl
               | some gs =>
                 rw [hgs] at hi3
                 split at hi3
                 · have:=nn hi3
                   simp at this
                   exact if_neg oM
                 · cases hi3
             refine jZ (vs:=[_,_]) F ⟨F,F,trivial⟩ F ⟨(hle0.trans hgk).trans hle,F,?_⟩
             exact .inl ⟨hno,_,F⟩)
          | (rename_i z hq
             have hq2 : ok = false:=by simpa using hq
             subst hq2
             have hf0 : bX (ae xs i) c.toNat = none:=hfld
             have hno : dh (c :: r) = none:=by rw [hf0] at hi3;rw [hty,← hi3]
             refine jZ (vs:=[_,_]) F ⟨F,F,trivial⟩ F ⟨(hle0.trans hgk).trans hle,F,?_⟩
             exact .inl ⟨hno,_,F⟩)
          | (rename_i z hq h8
             have hq2 : ok = true:=by simpa using hq
             subst hq2
             have hf1 : bX (ae xs i) c.toNat = some f:=hfld
             rw [hf1] at hi3
             dsimp only at hi3
             have h9 : fs.length ≠ 8:=oM
             refine aU (ι:=Nat) (fun k=>k ≤ fs.length ∧ ∀ m,m < k → (ae fs m).tag < f.tag ∧ (ae fs m).name ≠ f.name) (fun k=>[(7,Pt x 0),(10,Pt z 0),(51,.slice (some ⟨b1,o1,none⟩) xs.length cap1),(52,I xs.length),(53,I i),(79,.slice au fs.length cu),(80,I fs.length),(81,I k)]) (fun _=>G) (fun k=>[.blk z (.cells (jh f).toArray vU (0,0)),.acc (.slice au fs.length cu) vU 6 fs.length (ax jh fs),.blk x (.cells [U8 (bt (c :: r) (Int.toNat 0) : Nat),S name,.slice au fs.length cu,S (c :: r)].toArray tTi (0,0))]) (fun k=>fs.length - k) 0 ?_ tU F aZ (fun k Hk=>?_)
             · exact ⟨Nat.zero_le _,fun m hm=>absurd hm oM⟩
             by_cases hk : k < fs.length
             · obtain ⟨bu,cu2,eu⟩:=hsh2.pos oM
               simp only [Value.slice.injEq] at eu
               obtain ⟨rfl,-,rfl⟩:=eu
               by_cases hbad : (ae fs k).tag < f.tag ∧ (ae fs k).name ≠ f.name
               · obtain ⟨hb1,hb2⟩:=hbad
                 repeat' (first | refine jM ?_ | (refine jo ?_;first | refine aw F ?_ | refine al F ?_ | refine jV (wm F F F oM) ?_ | refine jV (aq F F oM) ?_ | refine jL fun _=>?_ | refine jC F F F ?_) | refine am F F (aE ‹_›) ?_ | refine ab F (aD oM) ?_ | refine ad F (aE oM) ?_)
                 refine a7 (k + 1) ⟨oM,fun m hm=>?_⟩ oM tU F sB
                 rcases Nat.lt_or_ge m k with h3 | h3
                 · exact Hk.2 m h3
                 · have : m = k:=oM
                   subst this;exact ⟨hb1,hb2⟩
               · have hfr : fresh f fs = false:=by
                   unfold fresh
                   rw [List.all_eq_false]
                   exact ⟨ae fs k,bh hk,by simpa using hbad⟩
                 have hno : dh (c :: r) = none:=by
                   rw [hfr,if_neg (by simp)] at hi3
                   rw [hty,← hi3]
                 by_cases hnm : (ae fs k).name = f.name
                 case' neg => have htag : f.tag ≤ (ae fs k).tag := by
                               rcases Int.lt_or_le (ae fs k).tag f.tag with h6 | h6
                               · exact absurd ⟨h6,hnm⟩ hbad
                               · exact h6
                 all_goals repeat' (first | refine jR ?_ | (refine jo ?_;first | refine aK F ?_ | refine aw F ?_ | refine al F ?_ | refine jV (wm F F F oM) ?_ | refine jV (aq F F oM) ?_ | refine jL fun _=>?_ | refine jC F F F ?_) | refine aA F F (aD ‹_›) ?_ | refine am F F (aE ‹_›) ?_ | (refine ab F (by first | rfl | (refine decide_eq_true ?_;first | assumption | omega)) ?_))
                 all_goals refine jZ (vs:=[_,_]) F ⟨F,F,trivial⟩ F ⟨(hle0.trans hgk).trans hle,F,?_⟩
                 all_goals exact .inl ⟨hno,_,F⟩
             · have hfr : fresh f fs = true:=by
                 unfold fresh
                 rw [List.all_eq_true]
                 intro g hg
                 obtain ⟨m,hm,rfl⟩:=nK hg
                 simpa using Hk.2 m oM
               rw [hfr,if_pos rfl] at hi3
               have hxl : xs.length ≤ 1001:=oM
               repeat' (first | refine jR ?_ | refine ad F (aE oM) ?_)
               (refine ak (ar (id:=21) [.blk z (.cells (jh f).toArray vU (0,0))] (by intro y hy;simp only [List.mem_cons,List.not_mem_nil,or_false] at hy ⊢;simp [hy]) aj ?_);refine jW 7 [0,1,2,3] (aa 11 15) ?_;(refine jG (aa 11 47) 5 F (bz F F F F) ?_);refine cX [4,6] kR dC ⟨?_,?_,trivial⟩;(focus (refine bE F F ?_;(refine al F ?_);refine jK (aa 11 63) ?_;refine jA 6 F ?_;(refine jF fun _=>?_);refine jK (aa 11 127) ?_;refine jA 7 F ?_;((refine ci F F F F F F F F F ?_ fun _ _=>?_;focus omega));refine jK (aa 11 255) ?_;refine jW 1 [8,9] (aa 11 1023) ?_;refine jA 10 F ?_;(refine jD F F F ?_);refine jK (aa 11 2047) ?_;refine jQ ?_));rotate_left 1;(focus (refine bE F F ?_;(refine jF fun _=>?_);refine jK (aa 11 111) ?_;refine jA 4 F ?_;(refine al F ?_);refine jK (aa 11 127) ?_;refine jA 7 F ?_;((refine ci F F F F F F F F F ?_ fun _ _=>?_;focus omega));refine jK (aa 11 255) ?_;refine jW 1 [8,9] (aa 11 1023) ?_;refine jA 10 F ?_;(refine jD F F F ?_);refine jK (aa 11 2047) ?_;refine jQ ?_));rotate_left 1)
               all_goals rename_i w b2 c2
               all_goals repeat' (refine jM ?_)
               all_goals refine a7 (.slice (some ⟨b2,0,none⟩) (fs.length + 1) c2,fs ++ [f],i + 1,G) ⟨⟨⟨by dsimp only;omega,by simp;omega⟩,by simp;omega⟩,hi3,hgk.trans hle⟩ (by dsimp only;omega) tU rfl (by dsimp only;simp only [b5,List.length_append,List.length_cons,List.length_nil,Nat.zero_add];repeat (first | exact List.Sublist.refl _ | apply List.Sublist.cons_cons | apply List.Sublist.cons)))
abbrev bU:=(Option Addr × Nat) × Ty
def fY (x : bU) : Value:=.slice x.1.1 x.2.fields.length x.1.2
def j3 (x : bU) : List Value:=[U8 x.2.sort,S x.2.name,fY x]
instance : RowF j3 3:=⟨fun _=>rfl⟩
def zT : bU:=((none,0),⟨0,[],[]⟩)
theorem bq.sl {G : Gh} {v : Value} {sz m : Nat} {xs : List Value} (h : bq G v sz m xs) : ∃ a cap,v = .slice a m cap:=by
 obtain ⟨_,⟨rfl,rfl⟩ | ⟨b,o,cap,rfl,_⟩⟩:=h
 ·exact ⟨none,0,F⟩
 ·exact ⟨_,cap,F⟩
structure SchR (G : Gh) (u : Value) (vs : List bU) : Prop where
 sl : bq G u 3 vs.length (ax j3 vs)
 fl : ∀ x ∈ vs,bq G (fY x) 4 x.2.fields.length (ax gP x.2.fields)
theorem SchR.mono {G G' : Gh} {u : Value} {vs : List bU} (h : SchR G u vs) (hl : Gh.le G G') : SchR G' u vs:=⟨h.sl.mono hl,fun x hx=>(h.fl x hx).mono hl⟩
def af (vs : List bU) : List Ty:=vs.map (·.2)
def fW (vs : List bU) (n : adE) : Option bU:=vs.find? fun x=>decide (x.2.name = n)
def d8 (vs : List bU) (k : adE) : Option bU:=(bH k).bind (fW vs)
theorem sI (vs : List bU) (n : adE) : (fW vs n).map (·.2) = gD (af vs) n:=by
 unfold fW gD af
 induction vs with
 | nil=>rfl
 | cons x vs ih =>
  simp only [List.map_cons,List.find?_cons]
  split <;> simp_all
theorem wr {vs : List bU} {n : adE} {x : bU} (h : fW vs n = some x) : x ∈ vs ∧ x.2.name = n:=by
 unfold fW at h
 exact ⟨List.mem_of_find?_eq_some h,by simpa using List.find?_some h⟩
theorem xQ {vs : List bU} {n : adE} {i : Nat} (hi : i < vs.length) (h : ∀ k,k < i → (ae vs k).2.name ≠ n) (h2 : (ae vs i).2.name = n) : fW vs n = some (ae vs i):=by
 unfold fW
 rw [List.find?_eq_some_iff_getElem]
 rw [aI hi] at h2 ⊢
 refine ⟨by simpa using h2,i,hi,F,fun j hj=>?_⟩
 have:=h j hj
 rw [aI oM] at this
 simpa using this
theorem vt {vs : List bU} {n : adE} (h : ∀ k,k < vs.length → (ae vs k).2.name ≠ n) : fW vs n = none:=by
 unfold fW
 rw [List.find?_eq_none]
 intro x hx
 obtain ⟨i,hi,rfl⟩:=List.mem_iff_getElem.1 hx
 have:=h i hi
 rw [aI hi] at this
 simpa using this
theorem te {u : Value} {vs : List bU} {n : adE} (h : SchR G u vs) (hn : vs.length ≤ 1000000) : aG adD 120 [u,S n] G (· = Tu [Ag (j3 ((fW vs n).getD zT)),Bo (fW vs n).isSome]):=by
 have hsl:=h.sl
 refine jE [(0,_),(1,_)] Tryz.func120 Tryz.ntmps120 fun B hB=>?_
 repeat' (first | refine jR ?_ | (refine jo ?_;refine jL fun _=>?_))
 rename_i x
 refine aU (ι:=Nat) (fun i=>i ≤ vs.length ∧ ∀ k,k < i → (ae vs k).2.name ≠ n) (fun i=>[(0,u),(1,S n),(4,Pt x 0),(6,I i)]) (fun _=>G) (fun i=>[.blk x (.cells [U8 0,S [],aN].toArray qS (0,0))]) (fun i=>vs.length - i) 0 ?_ tU F aZ (fun i Hi=>?_)
 ·exact ⟨oM,fun k hk=>absurd hk oM⟩
 by_cases hi : i < vs.length
 ·obtain ⟨b,o,cap,rfl,hs⟩:=hsl.expl oM
  repeat' (first | refine jM ?_ | (refine jo ?_;first | refine jV (ag F) ?_ | refine jV (aq F F oM) ?_ | (refine jV (dH F F aS ?_) ?_;focus omega) | (refine jV (b7 F F aS ?_ F F) ?_;focus omega) | refine jC F F F ?_) | refine ab F (aD oM) ?_ | refine dJ F (fun _=>?_) (fun _=>?_))
  ·rename_i he
   refine jZ (vs:=[_,_]) F ⟨ay F F F F,F,trivial⟩ F ⟨F,F,?_⟩
   rw [xQ hi Hi.2 he];rfl
  ·rename_i he
   refine a7 (i + 1) ⟨oM,fun k hk=>?_⟩ oM tU F aZ
   rcases Nat.lt_or_ge k i with h3 | h3
   ·exact Hi.2 k h3
   ·have : k = i:=oM
    subst this;exact he
 ·repeat' (first | refine jR ?_ | (refine jo ?_;first | refine jV (f6 F aS) ?_ | refine jC F F F ?_ | refine jV (ao F F) ?_) | refine ad F (aE oM) ?_)
  refine jZ (vs:=[_,_]) F ⟨ay F F F F,F,trivial⟩ F ⟨F,F,?_⟩
  rw [vt fun k hk=>Hi.2 k oM];rfl
theorem mn {s : adE} (h : d9 s = true) (hl : s.length ≤ 1000000) : aG adD 118 [S s] G (· = Tu [S ((bH s).getD []),Bo (bH s).isSome]):=by
 match s,h with
 | c :: r,h =>
  by_cases hr : r = []
  ·have hc : ¬ c.toNat = 64:=by
    intro hc
    subst hr
    rw [d9,if_neg oM,if_pos hc] at h
    simp [a6,hc] at h
   have e0:=mv c r
   have hq : bH (c :: r) = none:=by simp [bH,hc]
   rw [hq]
   refine jE [(0,_)] Tryz.func118 Tryz.ntmps118 fun B hB=>?_
   repeat' (first | refine jX ?_ | (refine ab F ?_ ?_;(focus ((simp;omega);done))))
   all_goals refine jY (vs:=[_,_]) ?_
   all_goals rfl
  ·have:=z8 (G:=G) (c:=c) hr (by simp at hl;omega)
   refine this.mono ?_
   rintro v G' L' ⟨h1,h2,h3⟩
   refine ⟨h1,h2,h3.trans ?_⟩
   by_cases hc : c.toNat = 64 <;> simp [bH,hc]
theorem gE {u : Value} {vs : List bU} {k : adE} (h : SchR G u vs) (hn : vs.length ≤ 1000000) (hk : d9 k = true) (hl : k.length ≤ 1000000) : aG adD 160 [u,S k] G (· = Tu [Ag (j3 ((d8 vs k).getD zT)),Bo (d8 vs k).isSome]):=by
 rcases hr : bH k with _ | n
 ·have e : d8 vs k = none:=by simp [d8,hr]
  rw [e]
  have cx_ref : aG adD 118 [S k] G (· = Tu [S [],Bo false]):=by have:=mn (G:=G) hk hl;rwa [hr] at this
  refine jE [(0,_),(1,_)] Tryz.func160 Tryz.ntmps160 fun B hB=>?_
  repeat' (first | refine jR ?_ | (refine jo ?_;first | refine jL fun _=>?_ | refine jV (ao F F) ?_ | refine jC F F F ?_ | refine ac F F F cx_ref F ?_) | refine ab F F ?_)
  all_goals refine jZ (vs:=[_,_]) F ⟨ay F F F F,F,trivial⟩ F ⟨F,F,?_⟩
  all_goals rfl
 ·have e : d8 vs k = fW vs n:=by simp [d8,hr]
  rw [e]
  have cx_ref : aG adD 118 [S k] G (· = Tu [S n,Bo true]):=by have:=mn (G:=G) hk hl;rwa [hr] at this
  refine jE [(0,_),(1,_)] Tryz.func160 Tryz.ntmps160 fun B hB=>?_
  repeat' (first | refine jR ?_ | (refine jo ?_;first | refine jL fun _=>?_ | refine jC F F F ?_ | refine ac F F F cx_ref F ?_ | (refine ac F F F (te (by (repeat (assumption));done) oM) rfl ?_)) | refine ad F F ?_)
  all_goals refine jZ (vs:=[_,_]) F ⟨ay F F F F,F,trivial⟩ F ⟨F,F,?_⟩
  all_goals rfl
end Go.E
