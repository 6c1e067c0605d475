/- Contracts and plain laws that the statement rests on, part 3. Conditions: as each says. -/
import Derived.Test.YtlkjjgmfhafnaabGreatDoorQ2
set_option linter.unusedVariables false
set_option linter.unusedSimpArgs false
namespace Go.E
set_option maxRecDepth 20000
set_option maxHeartbeats 2000000
inductive RdK (ts : List Ty) (f : ac8 → ac8 → Option (V × ac8)) : ac8 → ac8 → V → ac8 → Prop
 | lst0 (k r : ac8) : RdK ts f (91 :: k) (91 :: 93 :: r) (.nd 91 [] 0 []) r
 | lst (k s r : ac8) (vs : List V) : bh (f k) 20 s [] = some (vs,r) → RdK ts f (91 :: k) (91 :: s) (.nd 91 [] 0 vs) r
 | non (k r : ac8) : RdK ts f (63 :: k) (45 :: r) (.nd 63 [] 0 []) r
 | opt (k s r : ac8) (v : V) : f k s = some (v,r) → RdK ts f (63 :: k) (43 :: s) (.nd 63 [] 0 [v]) r
 | num (k s r : ac8) (n : Int) : a7 ts (110 :: k) = none → cm 999999 s = some (n,r) → RdK ts f (110 :: k) s (.nd 110 (bz n) 0 []) r
 | txt (k s r : ac8) (v : V) : a7 ts (116 :: k) = none → dm s = some (v,r) → RdK ts f (116 :: k) s v r
 | flg (k s r : ac8) (v : V) : a7 ts (102 :: k) = none → dZ s = some (v,r) → RdK ts f (102 :: k) s v r
 | recd0 (k r : ac8) (t : Ty) : a7 ts k = some t → t.sort = 82 → RdK ts f k (123 :: 125 :: r) (.nd 82 [] 0 []) r
 | recd (k s r : ac8) (t : Ty) (vs : List V) : a7 ts k = some t → t.sort = 82 → bH ts f t (s.length + 1) 0 s [] = some (vs,r) → RdK ts f k (123 :: s) (.nd 82 [] 0 vs) r
 | enm (k s r : ac8) (t : Ty) (n : Int) : a7 ts k = some t → t.sort = 69 → cm 200 s = some (n,r) → (bR t.fields n).isSome = true → RdK ts f k (35 :: s) (.nd 69 [] n []) r
 | uni (k s r : ac8) (t : Ty) (d : Fld) (v : V) : a7 ts k = some t → t.sort ≠ 82 → t.sort ≠ 69 → aU f t s = some ((d,v),62 :: r) → RdK ts f k (60 :: s) (.nd 85 [] d.tag [v]) r
theorem pI {ts : List Ty} {f : ac8 → ac8 → Option (V × ac8)} : ∀ (k s : ac8) {x : V × ac8},eJ ts f k s = some x → RdK ts f k s x.1 x.2
 | [],_,_,e=>by cases e
 | c :: k,s,x,e=>by
  unfold eJ at e
  dsimp only at e
  by_cases h91 : c.toNat = 91
  ·simp only [if_pos h91] at e
   obtain rfl:=bm h91 dC
   cases s with
   | nil=>cases e
   | cons d s' =>
    dsimp only at e
    by_cases hd : d.toNat = 91
    ·simp only [if_pos hd] at e
     obtain rfl:=bm hd dC
     cases s' with
     | nil=>cases e
     | cons e' r =>
      dsimp only at e
      by_cases he : e'.toNat = 93
      ·simp only [if_pos he,Option.some.injEq] at e;subst e
       obtain rfl:=bm he dC
       exact .lst0 _ _
      ·simp only [if_neg he] at e
       cases hf : bh (f k) 20 (e' :: r) [] with
       | none=>rw [hf] at e;cases e
       | some y =>
        rw [hf] at e
        simp only [Option.map_some,Option.some.injEq] at e;subst e
        exact .lst _ _ _ _ hf
    ·simp only [if_neg hd] at e;cases e
  ·simp only [if_neg h91] at e
   by_cases h63 : c.toNat = 63
   ·simp only [if_pos h63] at e
    obtain rfl:=bm h63 dC
    cases s with
    | nil=>cases e
    | cons d s' =>
     dsimp only at e
     by_cases hd : d.toNat = 45
     ·simp only [if_pos hd,Option.some.injEq] at e;subst e
      obtain rfl:=bm hd dC
      exact .non _ _
     ·simp only [if_neg hd] at e
      by_cases hd2 : d.toNat = 43
      ·simp only [if_pos hd2] at e
       obtain rfl:=bm hd2 dC
       cases hf : f k s' with
       | none=>rw [hf] at e;cases e
       | some y =>
        rw [hf] at e
        simp only [Option.map_some,Option.some.injEq] at e;subst e
        exact .opt _ _ _ _ hf
      ·simp only [if_neg hd2] at e;cases e
   ·simp only [if_neg h63] at e
    cases hr : a7 ts (c :: k) with
    | none =>
     rw [hr] at e
     dsimp only at e
     by_cases h1 : c.toNat = 110
     ·simp only [if_pos h1] at e
      obtain rfl:=bm h1 dC
      cases hn : cm 999999 s with
      | none=>rw [hn] at e;cases e
      | some y =>
       rw [hn] at e
       simp only [Option.map_some,Option.some.injEq] at e;subst e
       exact .num _ _ _ _ hr hn
     ·simp only [if_neg h1] at e
      by_cases h2 : c.toNat = 116
      ·simp only [if_pos h2] at e
       obtain rfl:=bm h2 dC
       exact .txt _ _ _ _ hr e
      ·simp only [if_neg h2] at e
       by_cases h3 : c.toNat = 102
       ·simp only [if_pos h3] at e
        obtain rfl:=bm h3 dC
        exact .flg _ _ _ _ hr e
       ·simp only [if_neg h3] at e;cases e
    | some t =>
     rw [hr] at e
     dsimp only at e
     unfold a9 at e
     cases s with
     | nil=>cases e
     | cons d s =>
      dsimp only at e
      by_cases h82 : t.sort = 82
      ·simp only [if_pos h82] at e
       by_cases hd : d.toNat = 123
       ·simp only [if_pos hd] at e
        obtain rfl:=bm hd dC
        cases s with
        | nil=>cases e
        | cons d' r =>
         dsimp only at e
         by_cases hd' : d'.toNat = 125
         ·simp only [if_pos hd',Option.some.injEq] at e;subst e
          obtain rfl:=bm hd' dC
          exact .recd0 _ _ t hr h82
         ·simp only [if_neg hd'] at e
          cases hf : bH ts f t ((d' :: r).length + 1) 0 (d' :: r) [] with
          | none=>rw [hf] at e;cases e
          | some y =>
           rw [hf] at e
           simp only [Option.map_some,Option.some.injEq] at e;subst e
           exact .recd _ _ _ t _ hr h82 hf
       ·simp only [if_neg hd] at e;cases e
      ·simp only [if_neg h82] at e
       by_cases h69 : t.sort = 69
       ·simp only [if_pos h69] at e
        by_cases hd : d.toNat = 35
        ·simp only [if_pos hd] at e
         obtain rfl:=bm hd dC
         cases hn : cm 200 s with
         | none=>rw [hn] at e;cases e
         | some y =>
          rw [hn] at e
          obtain ⟨n,r⟩:=y
          dsimp only at e
          split at e
          ·rename_i hs
           simp only [Option.some.injEq] at e;subst e
           exact .enm _ _ _ t _ hr h69 hn hs
          ·cases e
        ·simp only [if_neg hd] at e;cases e
       ·simp only [if_neg h69] at e
        by_cases hd : d.toNat = 60
        ·simp only [if_pos hd] at e
         obtain rfl:=bm hd dC
         cases hf : aU f t s with
         | none=>rw [hf] at e;cases e
         | some y =>
          rw [hf] at e
          obtain ⟨⟨fd,v⟩,r⟩:=y
          cases r with
          | nil=>cases e
          | cons c' r =>
           dsimp only at e
           by_cases hc' : c'.toNat = 62
           ·simp only [if_pos hc',Option.some.injEq] at e;subst e
            obtain rfl:=bm hc' dC
            exact .uni _ _ _ t _ _ hr h82 h69 hf
           ·simp only [if_neg hc'] at e;cases e
        ·simp only [if_neg hd] at e;cases e
mutual
def V.tot : V → Nat
 | .nd _ x _ ks=>20 + x.length + V.tots ks
def V.tots : List V → Nat
 | []=>0
 | v :: r=>V.tot v + V.tots r
end
theorem eY : ∀ (a b : List V),V.tots (a ++ b) = V.tots a + V.tots b
 | [],b=>by simp [V.tots]
 | v :: a,b=>by simp only [List.cons_append,V.tots,eY a b];omega
theorem iU (v : V) : 20 ≤ v.tot:=by obtain ⟨w,x,t,ks⟩:=v;rw [V.tot];omega
theorem rl : ∀ {ks : List V} {v : V},v ∈ ks → V.tot v ≤ V.tots ks
 | u :: ks,v,h=>by
  rw [V.tots]
  rcases List.mem_cons.1 h with rfl | h
  ·omega
  ·have:=rl h;omega
theorem d9 : ∀ (ks : List V),20 * ks.length ≤ V.tots ks
 | []=>by simp [V.tots]
 | u :: ks=>by rw [V.tots,List.length_cons];have:=d9 ks;have:=iU u;omega
theorem g8 (n : Int) : 1 ≤ (bz n).length:=by
 by_cases h : n < 10
 ·by_cases h0 : 0 ≤ n
  ·rw [dH h h0];simp
  ·have : n.toNat = (0 : Int).toNat:=oM
   have e : bz n = bz 0:=by unfold bz;rw [this]
   rw [e,dH dC dC];simp
 ·rw [iY h];simp
theorem mc {top : Int} {s r : ac8} {n : Int} (h : cm top s = some (n,r)) : (bz n).length + r.length = s.length ∧ 1 ≤ (bz n).length:=by
 have:=j3 h
 exact ⟨by rw [this];simp,g8 n⟩
theorem nr {f : ac8 → Option (V × ac8)} (h : ∀ s y,f s = some y → y.1.tot + 100 * y.2.length ≤ 100 * s.length) : ∀ (m : Nat) (s : ac8) (acc : List V) {x : List V × ac8},bh f m s acc = some x → V.tots x.1 + 100 * (x.2.length + 1) ≤ V.tots acc + 100 * s.length
 | 0,_,_,_,e=>by cases e
 | m + 1,s,acc,x,e=>by
  unfold bh at e
  cases hf : f s with
  | none=>rw [hf] at e;cases e
  | some y =>
   rw [hf] at e
   have hy:=h s y hf
   obtain ⟨v,r⟩:=y
   cases r with
   | nil=>cases e
   | cons c r =>
    dsimp only at e hy
    have e2 : V.tots (acc ++ [v]) = V.tots acc + v.tot:=by simp [eY,V.tots]
    rw [List.length_cons] at hy
    split at e
    ·have:=nr h m r _ e
     omega
    ·split at e
     ·simp only [Option.some.injEq] at e;subst e
      dsimp only;omega
     ·cases e
theorem nw {f : ac8 → ac8 → Option (V × ac8)} (h : ∀ k s y,f k s = some y → y.1.tot + 100 * y.2.length ≤ 100 * s.length) {t : Ty} {s : ac8} {x : (Fld × V) × ac8} (e : aU f t s = some x) : x.1.2.tot + 100 * x.2.length + 200 ≤ 100 * s.length:=by
 unfold aU at e
 cases hn : cm 200 s with
 | none=>rw [hn] at e;cases e
 | some y =>
  rw [hn] at e
  obtain ⟨n,r⟩:=y
  obtain ⟨h1,h2⟩:=mc hn
  dsimp only at e
  cases hd : bR t.fields n with
  | none=>rw [hd] at e;cases e
  | some d =>
   rw [hd] at e
   cases r with
   | nil=>cases e
   | cons c r' =>
    dsimp only at e
    rw [List.length_cons] at h1
    by_cases hc : c.toNat = 61
    ·rw [if_pos hc] at e
     cases hf : f d.kind r' with
     | none=>rw [hf] at e;cases e
     | some y =>
      rw [hf] at e
      simp only [Option.map_some,Option.some.injEq] at e
      subst e
      have h3:=h _ _ _ hf
      dsimp only
      omega
    ·rw [if_neg hc] at e;cases e
theorem oJ {ts : List Ty} {f : ac8 → ac8 → Option (V × ac8)} (h : ∀ k s y,f k s = some y → y.1.tot + 100 * y.2.length ≤ 100 * s.length) {t : Ty} : ∀ (m : Nat) (last : Int) (s : ac8) (acc : List V) {x : List V × ac8},bH ts f t m last s acc = some x → V.tots x.1 + 100 * (x.2.length + 1) ≤ V.tots acc + 100 * s.length
 | 0,_,_,_,_,e=>by cases e
 | m + 1,last,s,acc,x,e=>by
  unfold bH at e
  cases hf : aU f t s with
  | none=>rw [hf] at e;cases e
  | some y =>
   rw [hf] at e
   have hy:=nw h hf
   obtain ⟨⟨d,v⟩,r⟩:=y
   dsimp only at e hy
   split at e
   ·cases e
   ·cases r with
    | nil=>cases e
    | cons c r =>
     dsimp only at e
     have e2 : V.tots (acc ++ [V.nd 61 [] d.tag [v]]) = V.tots acc + (20 + v.tot):=by simp [eY,V.tots,V.tot]
     rw [List.length_cons] at hy
     split at e
     ·have:=oJ h m _ r _ e
      omega
     ·split at e
      ·simp only [Option.some.injEq] at e;subst e
       dsimp only;omega
      ·cases e
theorem jc {ts : List Ty} : ∀ (n : Nat) (k s : ac8) (x : V × ac8),rd ts n k s = some x → x.1.tot + 100 * x.2.length ≤ 100 * s.length
 | 0,_,_,_,e=>by cases e
 | n + 1,k,s,x,e=>by
  have ih : ∀ k s y,rd ts n k s = some y → y.1.tot + 100 * y.2.length ≤ 100 * s.length:=fun k s y hy=>jc n k s y hy
  have h:=pI k s (x:=x) e
  obtain ⟨v,r⟩:=x
  dsimp only at h ⊢
  cases h with
  | lst0=>simp only [V.tot,V.tots,List.length_cons,List.length_nil];omega
  | lst k s r vs h =>
   have:=nr (ih k) _ _ _ h
   simp only [V.tot,V.tots,List.length_cons,List.length_nil] at this ⊢;omega
  | non=>simp only [V.tot,V.tots,List.length_cons,List.length_nil];omega
  | opt k s r v h =>
   have:=ih _ _ _ h
   simp only [V.tot,V.tots,List.length_cons,List.length_nil] at this ⊢;omega
  | num k s r n _ h =>
   have:=mc h
   simp only [V.tot,V.tots];omega
  | txt k s r v _ h =>
   have e1:=nq h
   have h2 : v.out.length = 2 + v.text.length ∧ v.tot = 20 + v.text.length:=by
    unfold dm at h
    split at h
    ·cases h
    ·split at h
     ·split at h
      ·split at h
       ·simp only [Option.some.injEq,Prod.mk.injEq] at h
        obtain ⟨rfl,_⟩:=h
        simp [V.out,dp,V.text,V.tot,V.tots];omega
       ·cases h
      ·cases h
     ·cases h
   rw [e1]
   simp only [List.length_append]
   omega
  | flg k s r v _ h =>
   have e1:=oO h
   have h2 : 2 ≤ v.out.length ∧ v.tot ≤ 23:=by
    unfold dZ at h
    split at h
    ·simp only [Option.some.injEq,Prod.mk.injEq] at h
     obtain ⟨rfl,_⟩:=h
     simp [V.out,dp,V.tot,V.tots]
    ·split at h
     ·simp only [Option.some.injEq,Prod.mk.injEq] at h
      obtain ⟨rfl,_⟩:=h
      simp [V.out,dp,V.tot,V.tots]
     ·cases h
   rw [e1]
   simp only [List.length_append]
   omega
  | recd0=>simp only [V.tot,V.tots,List.length_cons,List.length_nil];omega
  | recd k s r t vs _ _ h =>
   have:=oJ ih _ _ _ _ h
   simp only [V.tot,V.tots,List.length_cons,List.length_nil] at this ⊢;omega
  | enm k s r t n _ _ h _ =>
   have:=mc h
   simp only [V.tot,V.tots,List.length_cons,List.length_nil];omega
  | uni k s r t d v _ _ _ h =>
   have:=nw ih h
   simp only [V.tot,V.tots,List.length_cons,List.length_nil] at this ⊢;omega
def tq (w : Nat) (x : ac8) (t : Int) (ks : List V) : Prop :=
 (w = 110 ∧ ks = [] ∧ t = 0 ∧ ∃ n : Int,0 ≤ n ∧ n ≤ 999999 ∧ x = bz n ∧ aR x 999999 = some n)
 ∨ (w = 116 ∧ ks = [] ∧ t = 0 ∧ df (39 :: (x ++ [39])) = true)
 ∨ (w = 102 ∧ ks = [] ∧ t = 0 ∧ (x = [121,101,115] ∨ x = [110,111]))
 ∨ (w = 91 ∧ x = [] ∧ t = 0 ∧ ks.length ≤ 20 ∧ ∀ v ∈ ks,v.what ≠ 61)
 ∨ (w = 63 ∧ x = [] ∧ t = 0 ∧ ks.length ≤ 1 ∧ ∀ v ∈ ks,v.what ≠ 61)
 ∨ (w = 69 ∧ x = [] ∧ 0 ≤ t ∧ t ≤ 200 ∧ ks = [])
 ∨ (w = 85 ∧ x = [] ∧ 0 ≤ t ∧ t ≤ 200 ∧ ks.length = 1 ∧ ∀ v ∈ ks,v.what ≠ 61)
 ∨ (w = 61 ∧ x = [] ∧ 0 ≤ t ∧ t ≤ 200 ∧ ks.length = 1 ∧ ∀ v ∈ ks,v.what ≠ 61)
 ∨ (w = 82 ∧ x = [] ∧ t = 0 ∧ ks.Pairwise (fun a b=>a.tag < b.tag) ∧ ∀ v ∈ ks,v.what = 61)
mutual
def V.wf : V → Prop
 | .nd w x t ks=>tq w x t ks ∧ V.wfs ks
def V.wfs : List V → Prop
 | []=>True
 | v :: r=>V.wf v ∧ V.wfs r
end
theorem mT : ∀ {ks : List V},V.wfs ks ↔ ∀ v ∈ ks,v.wf
 | []=>by simp [V.wfs]
 | v :: r=>by rw [V.wfs,mT (ks:=r)];simp
theorem tR : ∀ (s : ac8) {n m : Int},0 ≤ n → c8 n s = some m → 0 ≤ m
 | [],n,m,h,e=>by simp only [c8,Option.some.injEq] at e;omega
 | c :: s,n,m,h,e=>by
  unfold c8 at e
  split at e
  ·exact tR s oM e
  ·cases e
theorem rC {s : ac8} {top n : Int} (h : aR s top = some n) : 0 ≤ n:=by
 unfold aR at h
 split at h
 ·split at h
  ·split at h
   ·rename_i h1 _ _ _ h2;simp only [Option.some.injEq] at h;subst h;exact tR _ (Int.le_refl 0) aS
   ·cases h
  ·cases h
 ·cases h
theorem k8 {top : Int} {s r : ac8} {n : Int} (h : cm top s = some (n,r)) : 0 ≤ n ∧ n ≤ top ∧ aR (bz n) top = some n:=by
 unfold cm at h
 cases hn : aR (s.takeWhile a8) top with
 | none=>rw [hn] at h;cases h
 | some m =>
  rw [hn] at h
  simp only [Option.map_some,Option.some.injEq,Prod.mk.injEq] at h
  obtain ⟨rfl,_⟩:=h
  obtain ⟨h1,h2,_⟩:=ee hn
  exact ⟨rC hn,h1,by rw [← h2];exact hn⟩
theorem kA {f : ac8 → Option (V × ac8)} : ∀ (m : Nat) (s : ac8) (acc : List V) {x : List V × ac8},bh f m s acc = some x → x.1.length ≤ acc.length + m
 | 0,_,_,_,e=>by cases e
 | m + 1,s,acc,x,e=>by
  unfold bh at e
  cases hf : f s with
  | none=>rw [hf] at e;cases e
  | some y =>
   rw [hf] at e
   obtain ⟨v,r⟩:=y
   cases r with
   | nil=>cases e
   | cons c r =>
    dsimp only at e
    split at e
    ·have:=kA m r _ e
     simp only [List.length_append,List.length_singleton] at this;omega
    ·split at e
     ·simp only [Option.some.injEq] at e;subst e
      simp only [List.length_append,List.length_singleton];omega
     ·cases e
theorem oP {f : ac8 → ac8 → Option (V × ac8)} {t : Ty} {s : ac8} {x : (Fld × V) × ac8} (e : aU f t s = some x) : 0 ≤ x.1.1.tag ∧ x.1.1.tag ≤ 200:=by
 unfold aU at e
 cases hn : cm 200 s with
 | none=>rw [hn] at e;cases e
 | some y =>
  rw [hn] at e
  obtain ⟨n,r⟩:=y
  have h1:=k8 hn
  dsimp only at e
  cases hd : bR t.fields n with
  | none=>rw [hd] at e;cases e
  | some d =>
   rw [hd] at e
   have h2 : d.tag = n:=by have:=List.find?_some hd;simpa using this
   cases r with
   | nil=>cases e
   | cons c r' =>
    dsimp only at e
    by_cases hc : c.toNat = 61
    ·rw [if_pos hc] at e
     cases hf : f d.kind r' with
     | none=>rw [hf] at e;cases e
     | some y =>
      rw [hf] at e
      simp only [Option.map_some,Option.some.injEq] at e
      subst e
      dsimp only;omega
    ·rw [if_neg hc] at e;cases e
theorem ql {ts : List Ty} {f : ac8 → ac8 → Option (V × ac8)} (h : ∀ k s y,f k s = some y → y.1.wf ∧ y.1.what ≠ 61) {t : Ty} : ∀ (m : Nat) (last : Int) (s : ac8) (acc : List V) {x : List V × ac8},bH ts f t m last s acc = some x → (∀ v ∈ acc,v.wf ∧ v.what = 61 ∧ v.tag ≤ last) → acc.Pairwise (fun a b=>a.tag < b.tag) → (∀ v ∈ x.1,v.wf ∧ v.what = 61) ∧ x.1.Pairwise (fun a b=>a.tag < b.tag)
 | 0,_,_,_,_,e,_,_=>by cases e
 | m + 1,last,s,acc,x,e,ha,hp=>by
  unfold bH at e
  cases hf : aU f t s with
  | none=>rw [hf] at e;cases e
  | some y =>
   rw [hf] at e
   obtain ⟨_,s',hy⟩:=fq hf
   have ht:=oP hf
   obtain ⟨⟨d,v⟩,r⟩:=y
   dsimp only at e hy ht
   obtain ⟨hv1,hv2⟩:=h _ _ _ hy
   dsimp only at hv1 hv2
   split at e
   ·cases e
   ·rename_i hd
    have hd' : last < d.tag:=oM
    have hw : V.wf (.nd 61 [] d.tag [v]):=by
     rw [V.wf]
     refine ⟨.inr (.inr (.inr (.inr (.inr (.inr (.inr (.inl ⟨F,F,ht.1,ht.2,F,?_⟩))))))),?_,trivial⟩
     ·intro u hu;simp only [List.mem_singleton] at hu;subst hu;exact hv2
     ·exact hv1
    have ha2 : ∀ u ∈ acc ++ [V.nd 61 [] d.tag [v]],u.wf ∧ u.what = 61 ∧ u.tag ≤ d.tag:=fun u hu=>by
     rcases List.mem_append.1 hu with hu | hu
     ·obtain ⟨a1,a2,a3⟩:=ha u hu;exact ⟨a1,a2,oM⟩
     ·simp only [List.mem_singleton] at hu;subst hu;exact ⟨hw,F,Int.le_refl _⟩
    have hp2 : (acc ++ [V.nd 61 [] d.tag [v]]).Pairwise (fun a b=>a.tag < b.tag):=by
     rw [List.pairwise_append]
     refine ⟨hp,List.pairwise_singleton _ _,fun a hA b hB=>?_⟩
     simp only [List.mem_singleton] at hB;subst hB
     have:=(ha a hA).2.2
     show a.tag < d.tag
     omega
    cases r with
    | nil=>cases e
    | cons c r =>
     dsimp only at e
     split at e
     ·exact ql h m _ r _ e ha2 hp2
     ·split at e
      ·simp only [Option.some.injEq] at e;subst e
       exact ⟨fun u hu=>⟨(ha2 u hu).1,(ha2 u hu).2.1⟩,hp2⟩
      ·cases e
theorem xJ {ts : List Ty} : ∀ (n : Nat) (k s : ac8) (x : V × ac8),rd ts n k s = some x → x.1.wf ∧ x.1.what ≠ 61
 | 0,_,_,_,e=>by cases e
 | n + 1,k,s,x,e=>by
  have ih : ∀ k s y,rd ts n k s = some y → y.1.wf ∧ y.1.what ≠ 61:=fun k s y hy=>xJ n k s y hy
  have h:=pI k s (x:=x) e
  obtain ⟨v,r⟩:=x
  dsimp only at h ⊢
  cases h with
  | lst0=>exact ⟨by rw [V.wf];exact ⟨.inr (.inr (.inr (.inl ⟨F,F,F,by simp,by simp⟩))),trivial⟩,by simp [V.what]⟩
  | lst k s r vs h =>
   have h1:=kA _ _ _ h
   have h2:=ii (p:=fun v=>v.wf ∧ v.what ≠ 61) (fun s y hy=>ih k s y hy) _ _ _ h (by simp)
   refine ⟨by rw [V.wf];exact ⟨.inr (.inr (.inr (.inl ⟨F,F,F,by simpa using h1,fun v hv=>(h2 v hv).2⟩))),mT.2 fun v hv=>(h2 v hv).1⟩,by simp [V.what]⟩
  | non=>exact ⟨by rw [V.wf];exact ⟨.inr (.inr (.inr (.inr (.inl ⟨F,F,F,by simp,by simp⟩)))),trivial⟩,by simp [V.what]⟩
  | opt k s r v h =>
   have h1:=ih _ _ _ h
   have h2 : ∀ u ∈ [v],u.what ≠ 61:=fun u hu=>by simp only [List.mem_singleton] at hu;subst hu;exact h1.2
   exact ⟨by rw [V.wf];exact ⟨.inr (.inr (.inr (.inr (.inl ⟨F,F,F,by simp,h2⟩)))),h1.1,trivial⟩,by simp [V.what]⟩
  | num k s r n _ h =>
   have h1:=k8 h
   exact ⟨by rw [V.wf];exact ⟨.inl ⟨F,F,F,n,h1.1,h1.2.1,F,h1.2.2⟩,trivial⟩,by simp [V.what]⟩
  | txt k s r v _ h =>
   unfold dm at h
   split at h
   ·cases h
   ·split at h
    ·split at h
     ·split at h
      ·rename_i hx
       simp only [Option.some.injEq,Prod.mk.injEq] at h
       obtain ⟨rfl,_⟩:=h
       exact ⟨by rw [V.wf];exact ⟨.inr (.inl ⟨F,F,F,hx⟩),trivial⟩,by simp [V.what]⟩
      ·cases h
     ·cases h
    ·cases h
  | flg k s r v _ h =>
   unfold dZ at h
   split at h
   ·simp only [Option.some.injEq,Prod.mk.injEq] at h
    obtain ⟨rfl,_⟩:=h
    exact ⟨by rw [V.wf];exact ⟨.inr (.inr (.inl ⟨F,F,F,.inl F⟩)),trivial⟩,by simp [V.what]⟩
   ·split at h
    ·simp only [Option.some.injEq,Prod.mk.injEq] at h
     obtain ⟨rfl,_⟩:=h
     exact ⟨by rw [V.wf];exact ⟨.inr (.inr (.inl ⟨F,F,F,.inr F⟩)),trivial⟩,by simp [V.what]⟩
    ·cases h
  | recd0=>exact ⟨by rw [V.wf];exact ⟨.inr (.inr (.inr (.inr (.inr (.inr (.inr (.inr ⟨F,F,F,by simp,by simp⟩))))))),trivial⟩,by simp [V.what]⟩
  | recd k s r t vs _ _ h =>
   have h1:=ql ih _ _ _ _ h (by simp) (by simp)
   exact ⟨by rw [V.wf];exact ⟨.inr (.inr (.inr (.inr (.inr (.inr (.inr (.inr ⟨F,F,F,h1.2,fun v hv=>(h1.1 v hv).2⟩))))))),mT.2 fun v hv=>(h1.1 v hv).1⟩,by simp [V.what]⟩
  | enm k s r t n _ _ h _ =>
   have h1:=k8 h
   exact ⟨by rw [V.wf];exact ⟨.inr (.inr (.inr (.inr (.inr (.inl ⟨F,F,h1.1,h1.2.1,F⟩))))),trivial⟩,by simp [V.what]⟩
  | uni k s r t d v _ _ _ h =>
   obtain ⟨_,s',hy⟩:=fq h
   have ht:=oP h
   have h1:=ih _ _ _ hy
   have h2 : ∀ u ∈ [v],u.what ≠ 61:=fun u hu=>by simp only [List.mem_singleton] at hu;subst hu;exact h1.2
   exact ⟨by rw [V.wf];exact ⟨.inr (.inr (.inr (.inr (.inr (.inr (.inl ⟨F,F,ht.1,ht.2,F,h2⟩)))))),h1.1,trivial⟩,by simp [V.what]⟩
theorem rh {ts : List Ty} {k s : ac8} {v : V} (h : cg ts k s = some v) : v.wf ∧ v.what ≠ 61:=by
 unfold cg at h
 split at h
 ·split at h
  ·rename_i hr
   simp only [Option.some.injEq] at h;subst h
   exact xJ _ _ _ _ hr
  ·cases h
 ·cases h
def gj (w : Nat) (x : ac8) (t : Int) (k : Nat) (j : ac8) : ac8 :=
 if w = 110 then aX ((aR x 999999).getD 0) else if w = 116 then aX x.length ++ x else if w = 102 then (if x = [121,101,115] then [1] else [0])
 else if w = 91 then aX k ++ j else if w = 63 then (if k = 0 then [0] else 1 :: j) else if w = 69 then aX t
 else if w = 85 ∨ w = 61 then aX t ++ (aX j.length ++ j) else j ++ [0]
mutual
def V.bys : V → ac8
 | .nd w x t ks=>gj w x t ks.length (V.byss ks).flatten
def V.byss : List V → List ac8
 | []=>[]
 | v :: r=>V.bys v :: V.byss r
end
theorem fE (n : Int) : 1 ≤ (aX n).length:=by
 unfold aX
 rw [num]
 split <;> simp
theorem lP : ∀ ks : List V,V.byss ks = ks.map V.bys
 | []=>rfl
 | v :: r=>by rw [V.byss,lP r];rfl
theorem hY (ks : List V) : (V.byss ks).length = ks.length:=by rw [lP];simp
theorem xu {ks : List V} {i : Nat} (h : i < ks.length) : ae (V.byss ks) i = (ae ks i).bys:=by
 rw [lP,aW (by simpa using h),aW h];simp
theorem vD {x : ac8} {top : Int} (h : 0 ≤ top) : 0 ≤ (aR x top).getD 0 ∧ (aR x top).getD 0 ≤ top:=by
 cases hn : aR x top with
 | none=>exact ⟨Int.le_refl _,h⟩
 | some n=>exact ⟨rC hn,(ee hn).1⟩
theorem xv {w : Nat} {x : ac8} {t : Int} {k : Nat} {j : ac8} (ht : t ≤ 999999) (hx : x.length ≤ 999999) (hk : k ≤ 999999) (hj : j.length ≤ 999999) : 1 ≤ (gj w x t k j).length ∧ (gj w x t k j).length ≤ 6 + x.length + j.length:=by
 have h0:=vD (x:=x) (top:=999999) dC
 have h1:=bx (n:=(aR x 999999).getD 0) h0.2
 have h2:=bx (n:=x.length) oM
 have h3:=bx (n:=k) oM
 have h4:=bx ht
 have h5:=bx (n:=j.length) oM
 have g1:=fE ((aR x 999999).getD 0)
 have g2:=fE x.length
 have g3:=fE k
 have g4:=fE t
 unfold gj
 repeat' split
 all_goals ((try simp only [List.length_append,List.length_cons,List.length_nil]);omega)
theorem pB {w : Nat} {x : ac8} {t : Int} {ks : List V} (h : tq w x t ks) : 0 ≤ t ∧ t ≤ 200:=by
 unfold tq at h
 omega
mutual
theorem i4 : ∀ v : V,v.wf → v.tot ≤ 999999 → 1 ≤ v.bys.length ∧ v.bys.length ≤ v.tot
 | .nd w x t ks,hw,hl=>by
  rw [V.wf] at hw
  rw [V.tot] at hl
  have h0:=d9 ks
  have h1:=iB ks hw.2 oM
  have h2:=xv (w:=w) (x:=x) (t:=t) (k:=ks.length) (j:=(V.byss ks).flatten) (by have:=pB hw.1;omega) oM oM oM
  rw [V.bys,V.tot];omega
theorem iB : ∀ ks : List V,V.wfs ks → V.tots ks ≤ 999999 → (V.byss ks).flatten.length ≤ V.tots ks
 | [],_,_=>by simp [V.byss]
 | v :: r,hw,hl=>by
  rw [V.wfs] at hw
  rw [V.tots] at hl
  have h1:=i4 v hw.1 oM
  have h2:=iB r hw.2 oM
  simp only [V.byss,List.flatten_cons,List.length_append,V.tots];omega
end
theorem ki {ks : List V} {i : Nat} (h : i < ks.length) : ((V.byss ks).take (i + 1)).flatten = ((V.byss ks).take i).flatten ++ (ae ks i).bys:=by
 rw [eZ (by rw [hY];exact h),xu h];simp
theorem kh (ks : List V) (i : Nat) : (((V.byss ks).take i).flatten).length ≤ (V.byss ks).flatten.length:=by
 have h:=List.take_append_drop i (V.byss ks)
 have h2 : (V.byss ks).flatten = ((V.byss ks).take i).flatten ++ ((V.byss ks).drop i).flatten:=by rw [← List.flatten_append,h]
 rw [h2];simp
theorem rg {ks : List V} (h : V.wfs ks) {i : Nat} (hi : i < ks.length) : (ae ks i).wf:=by
 rw [aW hi];exact mT.1 h _ (List.getElem_mem hi)
abbrev c7 (p : Fld × V) : V:=.nd 61 [] p.1.tag [p.2]
inductive OfK (ts : List Ty) : ac8 → V → Prop
 | num (k : ac8) (n : Int) : 0 ≤ n → n ≤ 999999 → OfK ts (110 :: k) (.nd 110 (bz n) 0 [])
 | txt (k x : ac8) : df (39 :: (x ++ [39])) = true → OfK ts (116 :: k) (.nd 116 x 0 [])
 | flg (k x : ac8) : x = [121,101,115] ∨ x = [110,111] → OfK ts (102 :: k) (.nd 102 x 0 [])
 | lst (k : ac8) (ks : List V) : ks.length ≤ 20 → (∀ v ∈ ks,OfK ts k v) → OfK ts (91 :: k) (.nd 91 [] 0 ks)
 | non (k : ac8) : OfK ts (63 :: k) (.nd 63 [] 0 [])
 | opt (k : ac8) (v : V) : OfK ts k v → OfK ts (63 :: k) (.nd 63 [] 0 [v])
 | recd (k : ac8) (t : Ty) (fs : List (Fld × V)) : a7 ts k = some t → t.sort = 82 → (∀ p ∈ fs,p.1 ∈ t.fields) → (∀ p ∈ fs,OfK ts p.1.kind p.2) → (∀ p ∈ fs,p.2.out ≠ cW ts p.1) → fs.Pairwise (fun a b=>a.1.tag < b.1.tag) → OfK ts k (.nd 82 [] 0 (fs.map c7))
 | enm (k : ac8) (t : Ty) (d : Fld) : a7 ts k = some t → t.sort = 69 → d ∈ t.fields → OfK ts k (.nd 69 [] d.tag [])
 | uni (k : ac8) (t : Ty) (d : Fld) (v : V) : a7 ts k = some t → t.sort ≠ 82 → t.sort ≠ 69 → d ∈ t.fields → OfK ts d.kind v → OfK ts k (.nd 85 [] d.tag [v])
theorem qm {ts : List Ty} {f : ac8 → ac8 → Option (V × ac8)} (h : ∀ k s y,f k s = some y → OfK ts k y.1) {t : Ty} : ∀ (m : Nat) (last : Int) (s : ac8) (fs : List (Fld × V)) {x : List V × ac8},bH ts f t m last s (fs.map c7) = some x → (∀ p ∈ fs,p.1 ∈ t.fields ∧ OfK ts p.1.kind p.2 ∧ p.2.out ≠ cW ts p.1 ∧ p.1.tag ≤ last) → fs.Pairwise (fun a b=>a.1.tag < b.1.tag) →
  ∃ gs : List (Fld × V),x.1 = gs.map c7 ∧ (∀ p ∈ gs,p.1 ∈ t.fields ∧ OfK ts p.1.kind p.2 ∧ p.2.out ≠ cW ts p.1) ∧ gs.Pairwise (fun a b=>a.1.tag < b.1.tag)
 | 0,_,_,_,_,e,_,_=>by cases e
 | m + 1,last,s,fs,x,e,ha,hp=>by
  unfold bH at e
  cases hf : aU f t s with
  | none=>rw [hf] at e;cases e
  | some y =>
   rw [hf] at e
   obtain ⟨hd1,s',hy⟩:=fq hf
   obtain ⟨⟨d,v⟩,r⟩:=y
   dsimp only at e hy hd1
   have hv:=h _ _ _ hy
   dsimp only at hv
   split at e
   ·cases e
   ·rename_i hd
    have hd' : last < d.tag:=oM
    have hne : v.out ≠ cW ts d:=fun h=>hd (.inr h)
    have e2 : fs.map c7 ++ [V.nd 61 [] d.tag [v]] = (fs ++ [(d,v)]).map c7:=by simp
    have ha2 : ∀ p ∈ fs ++ [(d,v)],p.1 ∈ t.fields ∧ OfK ts p.1.kind p.2 ∧ p.2.out ≠ cW ts p.1 ∧ p.1.tag ≤ d.tag:=fun p hu=>by
     rcases List.mem_append.1 hu with hu | hu
     ·obtain ⟨a1,a2,a3,a4⟩:=ha p hu;exact ⟨a1,a2,a3,oM⟩
     ·simp only [List.mem_singleton] at hu;subst hu;exact ⟨hd1,hv,hne,Int.le_refl _⟩
    have hp2 : (fs ++ [(d,v)]).Pairwise (fun a b=>a.1.tag < b.1.tag):=by
     rw [List.pairwise_append]
     refine ⟨hp,List.pairwise_singleton _ _,fun a hA b hB=>?_⟩
     simp only [List.mem_singleton] at hB;subst hB
     have:=(ha a hA).2.2.2
     show a.1.tag < d.tag
     omega
    rw [e2] at e
    cases r with
    | nil=>cases e
    | cons c r =>
     dsimp only at e
     split at e
     ·exact qm h m _ r _ e ha2 hp2
     ·split at e
      ·simp only [Option.some.injEq] at e;subst e
       exact ⟨_,F,fun p hp=>⟨(ha2 p hp).1,(ha2 p hp).2.1,(ha2 p hp).2.2.1⟩,hp2⟩
      ·cases e
theorem xL {ts : List Ty} : ∀ (n : Nat) (k s : ac8) (x : V × ac8),rd ts n k s = some x → OfK ts k x.1
 | 0,_,_,_,e=>by cases e
 | n + 1,k,s,x,e=>by
  have ih : ∀ k s y,rd ts n k s = some y → OfK ts k y.1:=fun k s y hy=>xL n k s y hy
  have h:=pI k s (x:=x) e
  obtain ⟨v,r⟩:=x
  dsimp only at h ⊢
  cases h with
  | lst0=>exact .lst _ _ (by simp) (by simp)
  | lst k s r vs h =>
   have h1:=kA _ _ _ h
   exact .lst _ _ (by simpa using h1) (ii (p:=fun v=>OfK ts k v) (fun s y hy=>ih k s y hy) _ _ _ h (by simp))
  | non=>exact .non _
  | opt k s r v h=>exact .opt _ _ (ih _ _ _ h)
  | num k s r n _ h=>have h1:=k8 h;exact .num _ _ h1.1 h1.2.1
  | txt k s r v _ h =>
   unfold dm at h
   split at h
   ·cases h
   ·split at h
    ·split at h
     ·split at h
      ·rename_i hx
       simp only [Option.some.injEq,Prod.mk.injEq] at h
       obtain ⟨rfl,_⟩:=h
       exact .txt _ _ hx
      ·cases h
     ·cases h
    ·cases h
  | flg k s r v _ h =>
   unfold dZ at h
   split at h
   ·simp only [Option.some.injEq,Prod.mk.injEq] at h
    obtain ⟨rfl,_⟩:=h
    exact .flg _ _ (.inl F)
   ·split at h
    ·simp only [Option.some.injEq,Prod.mk.injEq] at h
     obtain ⟨rfl,_⟩:=h
     exact .flg _ _ (.inr F)
    ·cases h
  | recd0 k r t h1 h2=>exact .recd _ t [] h1 h2 (by simp) (by simp) (by simp) (by simp)
  | recd k s r t vs h1 h2 h =>
   obtain ⟨gs,e1,e2,e3⟩:=qm (fs:=[]) ih _ _ _ h (by simp) (by simp)
   dsimp only at e1
   subst e1
   exact .recd _ t gs h1 h2 (fun p hp=>(e2 p hp).1) (fun p hp=>(e2 p hp).2.1) (fun p hp=>(e2 p hp).2.2) e3
  | enm k s r t n h1 h2 h h3 =>
   obtain ⟨d,hd⟩:=Option.isSome_iff_exists.1 h3
   have hdt : d.tag = n:=by have:=List.find?_some hd;simpa using this
   rw [← hdt]
   exact .enm _ t d h1 h2 (List.mem_of_find?_eq_some hd)
  | uni k s r t d v h1 h2 h3 h =>
   obtain ⟨a1,s',hy⟩:=fq h
   exact .uni _ t d v h1 h2 h3 a1 (ih _ _ _ hy)
theorem oA {ts : List Ty} {k s : ac8} {v : V} (h : cg ts k s = some v) : OfK ts k v:=by
 unfold cg at h
 split at h
 ·split at h
  ·rename_i hr
   simp only [Option.some.injEq] at h;subst h
   exact xL _ _ _ _ hr
  ·cases h
 ·cases h
theorem yY {t : Ty} (hw : TyW t) {d d' : Fld} (h1 : d ∈ t.fields) (h2 : d' ∈ t.fields) (he : d.tag = d'.tag) : d = d':=by
 have hp:=hw.asc
 obtain ⟨i,hi,rfl⟩:=List.mem_iff_getElem.1 h1
 obtain ⟨j,hj,rfl⟩:=List.mem_iff_getElem.1 h2
 rw [List.pairwise_iff_getElem] at hp
 rcases Nat.lt_trichotomy i j with h | h | h
 ·have:=(hp i j hi hj h).1;omega
 ·subst h;rfl
 ·have:=(hp j i hj hi h).1;omega
theorem fm {ts : List Ty} {k : ac8} {t : Ty} {c : UInt8} {r : ac8} (h : a7 ts k = some t) (hk : k = c :: r) (hc : c.toNat ≠ 64) : False:=by
 subst hk
 have : bJ (c :: r) = none:=by unfold bJ;exact if_neg hc
 unfold a7 at h
 rw [this] at h
 cases h
theorem vl {i : Int} (h : 0 ≤ i ∧ i ≤ 9) : (u8 (48 + i)).toNat = (48 + i).toNat:=by have:=ep (a:=48 + i) oM;omega
theorem qL : ∀ (s : ac8) {n m : Int} {c : UInt8},c8 n s = some m → 48 ≤ c.toNat ∧ c.toNat ≤ 57 → c8 n (s ++ [c]) = some (10 * m + ((c.toNat : Int) - 48))
 | [],n,m,c,h,hc=>by simp only [c8,Option.some.injEq] at h;subst h;simp only [List.nil_append,c8,if_pos hc]
 | d :: s,n,m,c,h,hc=>by
  unfold c8 at h
  split at h
  ·rename_i hd
   have:=qL s h hc
   simp only [List.cons_append]
   unfold c8
   rw [if_pos hd];exact this
  ·cases h
theorem ix : ∀ (k : Nat) {m : Int},m.toNat ≤ k → 0 ≤ m → c8 0 (bz m) = some m ∧ ∀ c ∈ bz m,a8 c = true:=by
 intro k
 induction k with
 | zero =>
  intro m hk h0
  have : m = 0:=oM
  subst this
  rw [dH dC dC]
  exact ⟨by decide,by intro c hc;simp only [List.mem_singleton] at hc;subst hc;decide⟩
 | succ k ih =>
  intro m hk h0
  by_cases h : m < 10
  ·have hd:=vl (i:=m) oM
   have hd2 : a8 (u8 (48 + m)) = true:=by unfold a8;rw [decide_eq_true_eq];omega
   rw [dH h h0]
   refine ⟨?_,fun c hc=>by simp only [List.mem_singleton] at hc;subst hc;exact hd2⟩
   unfold c8 c8
   rw [if_pos oM];congr 1;omega
  ·obtain ⟨h1,h2⟩:=ih (m:=m / 10) oM oM
   have hd:=vl (i:=m % 10) oM
   have hd2 : a8 (u8 (48 + m % 10)) = true:=by unfold a8;rw [decide_eq_true_eq];omega
   rw [iY h]
   refine ⟨by rw [qL _ h1 oM];congr 1;omega,fun c hc=>?_⟩
   rcases List.mem_append.1 hc with hc | hc
   ·exact h2 c hc
   ·simp only [List.mem_singleton] at hc;subst hc;exact hd2
theorem vZ {m : Int} (h : m ≤ 999999) : (bz m).length ≤ 6:=tS _ 5 oM
theorem o3 {m top : Int} (h0 : 0 ≤ m) (h1 : m ≤ top) (ht : top ≤ 999999) : aR (bz m) top = some m:=by
 unfold aR
 rw [if_pos (vZ oM),(ix _ (Nat.le_refl _) h0).1]
 dsimp only
 rw [if_pos ⟨rfl,h1⟩]
def Dl (s : ac8) : Prop:=∀ c r,s = c :: r → a8 c = false
theorem iX {c : UInt8} {r : ac8} (h : a8 c = false) : Dl (c :: r):=fun d s e=>by injection e with e1 e2;subst e1;exact h
theorem sd : Dl []:=fun _ _ e=>by cases e
theorem abY : ∀ {s : ac8},Dl s → s.takeWhile a8 = [] ∧ s.dropWhile a8 = s
 | [],_=>⟨rfl,rfl⟩
 | c :: r,h=>by have:=h c r rfl;rw [List.takeWhile_cons,List.dropWhile_cons,this];exact ⟨F,F⟩
theorem vm {p : UInt8 → Bool} : ∀ {s r : ac8},(∀ c ∈ s,p c = true) → (s ++ r).takeWhile p = s ++ r.takeWhile p ∧ (s ++ r).dropWhile p = r.dropWhile p
 | [],_,_=>⟨rfl,rfl⟩
 | c :: s,r,h=>by
  obtain ⟨h1,h2⟩:=vm (s:=s) (r:=r) fun d hd=>h d (by simp [hd])
  have:=h c (by simp)
  rw [List.cons_append,List.takeWhile_cons,List.dropWhile_cons,this,if_pos rfl,if_pos rfl,h1,h2];exact ⟨F,F⟩
theorem nR {m top : Int} {r : ac8} (h0 : 0 ≤ m) (h1 : m ≤ top) (ht : top ≤ 999999) (hr : Dl r) : cm top (bz m ++ r) = some (m,r):=by
 obtain ⟨e1,e2⟩:=vm (r:=r) (ix _ (Nat.le_refl _) h0).2
 obtain ⟨e3,e4⟩:=abY hr
 unfold cm
 rw [e1,e2,e3,e4,List.append_nil,o3 h0 h1 ht];rfl
theorem abv {x : ac8} (h : df (39 :: (x ++ [39])) = true) : ∀ j,j < x.length → bt x j ≠ 39:=by
 intro j hj e
 unfold df at h
 rw [decide_eq_true_eq] at h
 have h1:=h.2.2.2 (j + 1) (by simp;omega)
 rw [dW] at h1
 have h2 : bt (x ++ [39]) j = bt x j:=by simp [bt,List.getD,List.getElem?_append_left hj]
 rw [h2,e] at h1
 rcases h1 with h1 | h1
 ·omega
 ·exact absurd h1 dC
theorem uC {x r : ac8} (h : df (39 :: (x ++ [39])) = true) : dm (39 :: (x ++ 39 :: r)) = some (.nd 116 x 0 [],r):=by
 have hc : aH 39 (x ++ 39 :: r) = (x,r,true):=by
  have h1:=m9 (k:=39) (s:=x ++ 39 :: r) (i:=x.length) (by simp) (fun j hj=>by
   have:=abv h j hj
   have h2 : bt (x ++ 39 :: r) j = bt x j:=by simp [bt,List.getD,List.getElem?_append_left hj]
   rw [h2];exact this) (by simp [bt,List.getD])
  rw [h1]
  congr 1
  ·exact List.take_left
  ·congr 1
   rw [show x.length + 1 = (x ++ [39]).length by simp,show x ++ 39 :: r = (x ++ [39]) ++ r by simp,List.drop_left]
 unfold dm
 dsimp only
 rw [if_pos dC,hc]
 dsimp only
 rw [if_pos h]
theorem vy {x r : ac8} (h : x = [121,101,115] ∨ x = [110,111]) : dZ (x ++ r) = some (.nd 102 x 0 [],r):=by
 unfold dZ
 rcases h with rfl | rfl
 ·rw [if_pos (by simp [List.isPrefixOf])];rfl
 ·rw [if_neg (by simp [List.isPrefixOf]),if_pos (by simp [List.isPrefixOf])];rfl
theorem oI {f : ac8 → Option (V × ac8)} {rest : ac8} : ∀ (ks : List V) (m : Nat) (acc : List V),ks ≠ [] → ks.length ≤ m → (∀ v ∈ ks,∀ r,Dl r → f (v.out ++ r) = some (v,r)) → bh f m (aV 44 (ks.map V.out) ++ 93 :: rest) acc = some (acc ++ ks,rest)
 | [],_,_,h,_,_=>absurd rfl h
 | [v],m,acc,_,hm,hf=>by
  obtain ⟨m,rfl⟩ : ∃ n,m = n + 1:=⟨m - 1,by simp at hm;omega⟩
  unfold bh
  simp only [List.map_cons,List.map_nil,aV]
  rw [hf v (by simp) _ (iX dC)]
  dsimp only
  rw [if_neg dC,if_pos dC]
 | v :: u :: ks,m,acc,_,hm,hf=>by
  obtain ⟨m,rfl⟩ : ∃ n,m = n + 1:=⟨m - 1,by simp at hm;omega⟩
  have ih:=oI (rest:=rest) (u :: ks) m (acc ++ [v]) (by simp) (by simp at hm ⊢;omega) fun w hw=>hf w (by simp [hw])
  unfold bh
  simp only [List.map_cons,aV,List.append_assoc,List.cons_append] at ih ⊢
  rw [hf v (by simp) _ (iX dC)]
  dsimp only
  rw [if_pos dC,ih]
  simp
theorem jk {t : Ty} (hw : TyW t) {d : Fld} (h : d ∈ t.fields) : bR t.fields d.tag = some d:=by
 cases e : bR t.fields d.tag with
 | none=>have:=(List.find?_eq_none.1 e) d h;simp at this
 | some d' =>
  have h1 : d'.tag = d.tag:=by have:=List.find?_some e;simpa using this
  rw [yY hw (List.mem_of_find?_eq_some e) h h1]
theorem k9 {f : ac8 → ac8 → Option (V × ac8)} {t : Ty} (hw : TyW t) {d : Fld} {v : V} {r : ac8} (h : d ∈ t.fields) (hf : f d.kind (v.out ++ r) = some (v,r)) : aU f t (bz d.tag ++ 61 :: (v.out ++ r)) = some ((d,v),r):=by
 have ht:=(hw.fld d h).tag
 unfold aU
 rw [nR oM ht.2 dC (iX dC)]
 dsimp only
 rw [jk hw h]
 dsimp only
 rw [if_pos dC,hf];rfl
theorem qn {ts : List Ty} {f : ac8 → ac8 → Option (V × ac8)} {t : Ty} (hw : TyW t) {rest : ac8} : ∀ (fs : List (Fld × V)) (m : Nat) (last : Int) (acc : List V),fs ≠ [] → fs.length ≤ m → (∀ p ∈ fs,p.1 ∈ t.fields ∧ p.2.out ≠ cW ts p.1 ∧ last < p.1.tag ∧ ∀ r,Dl r → f p.1.kind (p.2.out ++ r) = some (p.2,r)) → fs.Pairwise (fun a b=>a.1.tag < b.1.tag) →
  bH ts f t m last (aV 44 ((fs.map c7).map V.out) ++ 125 :: rest) acc = some (acc ++ fs.map c7,rest)
 | [],_,_,_,h,_,_,_=>absurd rfl h
 | [p],m,last,acc,_,hm,hf,_=>by
  obtain ⟨m,rfl⟩ : ∃ n,m = n + 1:=⟨m - 1,by simp at hm;omega⟩
  obtain ⟨h1,h2,h3,h4⟩:=hf p (by simp)
  unfold bH
  simp only [List.map_cons,List.map_nil,aV,c7,gp,List.append_assoc,List.cons_append]
  rw [k9 hw h1 (h4 _ (iX dC))]
  dsimp only
  rw [if_neg (by rintro (h | h);omega;exact h2 h),if_neg dC,if_pos dC]
 | p :: q :: fs,m,last,acc,_,hm,hf,hp=>by
  obtain ⟨m,rfl⟩ : ∃ n,m = n + 1:=⟨m - 1,by simp at hm;omega⟩
  obtain ⟨h1,h2,h3,h4⟩:=hf p (by simp)
  rw [List.pairwise_cons] at hp
  have ih:=qn (ts:=ts) (f:=f) hw (rest:=rest) (q :: fs) m p.1.tag (acc ++ [c7 p]) (by simp) (by simp at hm ⊢;omega) (fun w hw=>⟨(hf w (by simp [hw])).1,(hf w (by simp [hw])).2.1,hp.1 w hw,(hf w (by simp [hw])).2.2.2⟩) hp.2
  unfold bH
  simp only [List.map_cons,aV,gp,List.append_assoc,List.cons_append] at ih ⊢
  rw [k9 hw h1 (h4 _ (iX dC))]
  dsimp only
  rw [if_neg (by rintro (h | h);omega;exact h2 h),if_pos dC,ih]
  simp
theorem qM {m : Int} (h : 0 ≤ m) : ∃ c r,bz m = c :: r ∧ a8 c = true:=by
 cases e : bz m with
 | nil=>have:=g8 m;rw [e] at this;simp at this
 | cons c r=>exact ⟨c,r,F,(ix _ (Nat.le_refl _) h).2 c (by rw [e];simp)⟩
theorem ye {c : UInt8} (h : a8 c = true) : 48 ≤ c.toNat ∧ c.toNat ≤ 57:=by unfold a8 at h;rwa [decide_eq_true_eq] at h
theorem wX {ts : List Ty} {k : ac8} {v : V} (h : OfK ts k v) : ∃ c r,v.out = c :: r ∧ c.toNat ≠ 93:=by
 cases h with
 | num k n h1 h2=>obtain ⟨c,r,e,hc⟩:=qM h1;have:=ye hc;exact ⟨c,r,by rw [V.out];exact e,oM⟩
 | txt k x=>exact ⟨39,_,by rw [V.out];rfl,by decide⟩
 | flg k x h=>rcases h with rfl | rfl;exact ⟨121,_,by rw [V.out];rfl,by decide⟩;exact ⟨110,_,by rw [V.out];rfl,by decide⟩
 | lst=>exact ⟨91,_,by rw [V.out];rfl,by decide⟩
 | non=>exact ⟨45,_,by rw [V.out];rfl,by decide⟩
 | opt=>exact ⟨43,_,by rw [V.out];rfl,by decide⟩
 | recd=>exact ⟨123,_,by rw [V.out];rfl,by decide⟩
 | enm=>exact ⟨35,_,by rw [V.out];rfl,by decide⟩
 | uni=>exact ⟨60,_,by rw [V.out];rfl,by decide⟩
theorem ra {ts : List Ty} (hw : SchW ts) : ∀ (n : Nat) {k : ac8} {v : V},OfK ts k v → v.deep ≤ n → ∀ r,Dl r → rd ts n k (v.out ++ r) = some (v,r)
 | 0,k,v,h,hd,r,hr=>by
  obtain ⟨w,x,t,ks⟩:=v
  have hne : w ≠ 61:=by cases h <;> decide
  rw [cP hne] at hd;omega
 | n + 1,k,v,h,hd,r,hr=>by
  have ih:=fun {k : ac8} {v : V}=>ra hw n (k:=k) (v:=v)
  show eJ ts (rd ts n) k (v.out ++ r) = some (v,r)
  cases h with
  | num k m h1 h2 =>
   have e : V.out (.nd 110 (bz m) 0 []) = bz m:=by rw [V.out];rfl
   have hrf : a7 ts (110 :: k) = none:=by cases h : a7 ts (110 :: k) with | none=>rfl | some t=>exact (fm h F dC).elim
   rw [e]
   unfold eJ
   try dsimp only
   rw [if_neg dC,if_neg dC,hrf]
   try dsimp only
   rw [if_pos dC,nR h1 h2 dC hr];rfl
  | txt k x h1 =>
   have e : V.out (.nd 116 x 0 []) ++ r = 39 :: (x ++ 39 :: r):=by rw [V.out];simp [dp]
   have hrf : a7 ts (116 :: k) = none:=by cases h : a7 ts (116 :: k) with | none=>rfl | some t=>exact (fm h F dC).elim
   rw [e]
   unfold eJ
   try dsimp only
   rw [if_neg dC,if_neg dC,hrf]
   try dsimp only
   rw [if_neg dC,if_pos dC,uC h1]
  | flg k x h1 =>
   have e : V.out (.nd 102 x 0 []) = x:=by rw [V.out];rfl
   have hrf : a7 ts (102 :: k) = none:=by cases h : a7 ts (102 :: k) with | none=>rfl | some t=>exact (fm h F dC).elim
   rw [e]
   unfold eJ
   try dsimp only
   rw [if_neg dC,if_neg dC,hrf]
   try dsimp only
   rw [if_neg dC,if_neg dC,if_pos dC,vy h1]
  | lst k ks h1 h2 =>
   rw [cP dC] at hd
   rw [nV]
   unfold eJ
   try dsimp only
   rw [if_pos dC]
   try dsimp only
   rw [if_pos dC]
   cases ks with
   | nil=>simp only [List.map_nil,aV,List.nil_append];rw [if_pos dC]
   | cons v ks =>
    have hI:=oI (f:=rd ts n k) (rest:=r) (v :: ks) 20 [] (by simp) h1 fun u hu r hr=>ih (h2 u hu) (by have:=V.deep_mem hu;omega) r hr
    obtain ⟨c,s,e1,e2⟩:=wX (h2 v (by simp))
    cases hj : aV 44 ((v :: ks).map V.out) ++ 93 :: r with
    | nil=>simp at hj
    | cons c' s' =>
     have hc' : c' = c:=by
      have : ∃ s2,aV 44 ((v :: ks).map V.out) ++ 93 :: r = c :: s2:=by
       cases ks with
       | nil=>simp only [List.map_cons,List.map_nil,aV,e1,List.cons_append];exact ⟨_,F⟩
       | cons u ks=>simp only [List.map_cons,aV,e1,List.cons_append];exact ⟨_,F⟩
      obtain ⟨s2,h3⟩:=this
      rw [hj] at h3;injection h3
     try dsimp only
     rw [if_neg (by rw [hc'];exact e2),← hj,hI];rfl
  | non k =>
   have e : V.out (.nd 63 [] 0 []) ++ r = 45 :: r:=by rw [V.out];rfl
   rw [e]
   unfold eJ
   try dsimp only
   rw [if_neg dC,if_pos dC]
   try dsimp only
   rw [if_pos dC]
  | opt k v h1 =>
   rw [cP dC] at hd
   have hd2 : v.deep ≤ n:=by have:=V.deep_mem (ks:=[v]) (v:=v) (by simp);omega
   rw [tD]
   unfold eJ
   try dsimp only
   rw [if_neg dC,if_pos dC]
   try dsimp only
   rw [if_neg dC,if_pos dC,ih h1 hd2 r hr];rfl
  | recd k t fs h1 h2 h3 h4 h5 h6 =>
   rw [cP dC] at hd
   have hk : ∃ k',k = 64 :: k':=by
    cases k with
    | nil=>simp [a7,bJ] at h1
    | cons c k' =>
     by_cases h64 : c.toNat = 64
     ·exact ⟨k',by rw [show c = 64 from UInt8.toNat_inj.1 h64]⟩
     ·exact (fm h1 F h64).elim
   obtain ⟨k',rfl⟩:=hk
   rw [pL]
   unfold eJ
   try dsimp only
   rw [if_neg dC,if_neg dC,h1]
   try dsimp only
   unfold a9
   dsimp only
   rw [if_pos h2,if_pos dC]
   cases fs with
   | nil=>simp only [List.map_nil,aV,List.nil_append];rw [if_pos dC]
   | cons p fs =>
    have hlen : (p :: fs).length ≤ (aV 44 (((p :: fs).map c7).map V.out) ++ 125 :: r).length + 1:=by
     have h7 : ∀ xs : List ac8,(∀ x ∈ xs,1 ≤ x.length) → xs.length ≤ (aV 44 xs).length:=by
      intro xs
      induction xs with
      | nil=>intro _;simp
      | cons x xs ihx =>
       intro hx
       have hx1:=hx x (by simp)
       have ihx:=ihx fun y hy=>hx y (by simp [hy])
       cases xs with
       | nil=>simp only [aV,List.length_cons,List.length_nil];omega
       | cons y xs=>simp only [aV,List.length_append,List.length_cons] at ihx ⊢;omega
     have h8:=h7 (((p :: fs).map c7).map V.out) (fun x hx=>by
      obtain ⟨v,hv,rfl⟩:=List.mem_map.1 hx
      obtain ⟨q,hq,rfl⟩:=List.mem_map.1 hv
      rw [gp];simp;omega)
     simp only [List.length_map] at h8
     simp only [List.length_append,List.length_cons]
     simp only [List.length_cons] at h8
     omega
    have hI:=qn (ts:=ts) (f:=rd ts n) (hw.ty t (cj h1)) (rest:=r) (p :: fs) ((aV 44 (((p :: fs).map c7).map V.out) ++ 125 :: r).length + 1) 0 [] (by simp) hlen (fun q hq=>⟨h3 q hq,h5 q hq,by have:=((hw.ty t (cj h1)).fld _ (h3 q hq)).tag;omega,fun r hr=>ih (h4 q hq) (by
     have:=V.deep_mem (ks:=(p :: fs).map c7) (v:=c7 q) (List.mem_map.2 ⟨q,hq,rfl⟩)
     rw [show V.deep (c7 q) = V.deep q.2 from n7] at this
     omega) r hr⟩) h6
    obtain ⟨c,s,e1,e2⟩:=qM (m:=p.1.tag) (by have:=((hw.ty t (cj h1)).fld _ (h3 p (by simp))).tag;omega)
    have he2:=ye e2
    cases hj : aV 44 (((p :: fs).map c7).map V.out) ++ 125 :: r with
    | nil=>simp at hj
    | cons c' s' =>
     have hc' : c' = c:=by
      have : ∃ s2,aV 44 (((p :: fs).map c7).map V.out) ++ 125 :: r = c :: s2:=by
       cases fs with
       | nil=>simp only [List.map_cons,List.map_nil,aV,gp,e1,List.cons_append];exact ⟨_,F⟩
       | cons u ks=>simp only [List.map_cons,aV,gp,e1,List.cons_append];exact ⟨_,F⟩
      obtain ⟨s2,h3⟩:=this
      rw [hj] at h3;injection h3
     try dsimp only
     rw [if_neg (by rw [hc'];omega),← hj,hI];rfl
  | enm k t d h1 h2 h3 =>
   have hk : ∃ k',k = 64 :: k':=by
    cases k with
    | nil=>simp [a7,bJ] at h1
    | cons c k' =>
     by_cases h64 : c.toNat = 64
     ·exact ⟨k',by rw [show c = 64 from UInt8.toNat_inj.1 h64]⟩
     ·exact (fm h1 F h64).elim
   obtain ⟨k',rfl⟩:=hk
   have ht:=((hw.ty t (cj h1)).fld d h3).tag
   have e : V.out (.nd 69 [] d.tag []) ++ r = 35 :: (bz d.tag ++ r):=by rw [V.out];rfl
   rw [e]
   unfold eJ
   try dsimp only
   rw [if_neg dC,if_neg dC,h1]
   try dsimp only
   unfold a9
   dsimp only
   rw [if_neg oM,if_pos h2,if_pos dC,nR oM ht.2 dC hr]
   try dsimp only
   rw [jk (hw.ty t (cj h1)) h3,if_pos (by simp)]
  | uni k t d v h1 h2 h3 h4 h5 =>
   rw [cP dC] at hd
   have hd2 : v.deep ≤ n:=by have:=V.deep_mem (ks:=[v]) (v:=v) (by simp);omega
   have hk : ∃ k',k = 64 :: k':=by
    cases k with
    | nil=>simp [a7,bJ] at h1
    | cons c k' =>
     by_cases h64 : c.toNat = 64
     ·exact ⟨k',by rw [show c = 64 from UInt8.toNat_inj.1 h64]⟩
     ·exact (fm h1 F h64).elim
   obtain ⟨k',rfl⟩:=hk
   rw [tC]
   unfold eJ
   try dsimp only
   rw [if_neg dC,if_neg dC,h1]
   try dsimp only
   unfold a9
   dsimp only
   rw [if_neg h2,if_neg h3,if_pos dC,k9 (hw.ty t (cj h1)) h4 (ih h5 hd2 _ (iX dC))]
   try dsimp only
   rw [if_pos dC]
theorem nN {ts : List Ty} (hw : SchW ts) {k : ac8} {v : V} (h : OfK ts k v) (hl : v.out.length ≤ 400) (hd : v.deep ≤ 12) : cg ts k v.out = some v:=by
 have h1:=ra hw 12 h hd [] sd
 rw [List.append_nil] at h1
 unfold cg
 rw [if_pos hl,h1]
theorem sZ {ts : List Ty} (hw : SchW ts) {k : ac8} {v : V} (h : OfK ts k v) (hn : ¬ (v.out.length ≤ 400 ∧ v.deep ≤ 12)) : cg ts k v.out = none:=by
 cases hv : cg ts k v.out with
 | none=>rfl
 | some u =>
  obtain ⟨h1,h2,h3⟩:=qe hv
  have hu:=oA hv
  have hd : v.deep ≤ max v.deep 12:=Nat.le_max_left _ _
  have h4:=ra hw (max v.deep 12) h hd [] sd
  have h5:=ra hw (max v.deep 12) hu (Nat.le_trans h3 (Nat.le_max_right _ _)) [] sd
  rw [List.append_nil] at h4 h5
  rw [h1,h4] at h5
  have:=(Prod.mk.inj (Option.some.inj h5)).1
  subst this
  exact absurd ⟨h2,h3⟩ hn
def fN (m : Nat) : ac8 → Option (Int × ac8)
 | []=>none
 | c :: r=>if c.toNat < 128 then (if c.toNat = 0 ∨ 999999 < m + c.toNat * 16384 then none else some (((m + c.toNat * 16384 : Nat) : Int),r)) else none
def f8 (m : Nat) : ac8 → Option (Int × ac8)
 | []=>none
 | b :: r=>if b.toNat < 128 then (if b.toNat = 0 then none else some (((m + b.toNat * 128 : Nat) : Int),r)) else fN (m + b.toNat % 128 * 128) r
def bj : ac8 → Option (Int × ac8)
 | []=>none
 | a :: r=>if a.toNat < 128 then some ((a.toNat : Int),r) else f8 (a.toNat % 128) r
theorem gq {n : Int} (h0 : 0 ≤ n) (h1 : n ≤ 999999) (r : ac8) : bj (aX n ++ r) = some (n,r):=by
 by_cases h2 : n < 128
 ·have e:=ep (a:=n) oM
  rw [fu h2 h0,List.singleton_append,bj,if_pos oM,e]
 ·have e:=ep (a:=128 + n % 128) oM
  rw [gU h2]
  by_cases h3 : n / 128 < 128
  ·have e2:=ep (a:=n / 128) oM
   rw [fu h3 oM]
   simp only [List.cons_append,List.nil_append]
   rw [bj,if_neg oM,f8,if_pos oM,if_neg oM]
   congr 2
   omega
  ·have e2:=ep (a:=128 + n / 128 % 128) oM
   have e3:=ep (a:=n / 128 / 128) oM
   rw [gU h3,fu oM oM]
   simp only [List.cons_append,List.nil_append]
   rw [bj,if_neg oM,f8,if_neg oM,fN,if_pos oM,if_neg oM]
   congr 2
   omega
theorem cn {s r : ac8} {n : Int} (h : bj s = some (n,r)) : 0 ≤ n ∧ n ≤ 999999 ∧ s = aX n ++ r:=by
 cases s with
 | nil=>cases h
 | cons a s =>
  rw [bj] at h
  have ha:=a.toNat_lt
  split at h
  ·simp only [Option.some.injEq,Prod.mk.injEq] at h
   obtain ⟨rfl,rfl⟩:=h
   refine ⟨oM,oM,?_⟩
   rw [fu oM oM,gR];rfl
  ·cases s with
   | nil=>cases h
   | cons b s =>
    rw [f8] at h
    have hb:=b.toNat_lt
    split at h
    ·split at h
     ·cases h
     ·simp only [Option.some.injEq,Prod.mk.injEq] at h
      obtain ⟨rfl,rfl⟩:=h
      refine ⟨oM,oM,?_⟩
      rw [gU oM,fu oM oM]
      rw [show (128 + ((a.toNat % 128 + b.toNat * 128 : Nat) : Int) % 128) = (a.toNat : Int) by omega,show ((a.toNat % 128 + b.toNat * 128 : Nat) : Int) / 128 = (b.toNat : Int) by omega,gR,gR];rfl
    ·cases s with
     | nil=>cases h
     | cons c s =>
      rw [fN] at h
      have hc:=c.toNat_lt
      split at h
      ·split at h
       ·cases h
       ·simp only [Option.some.injEq,Prod.mk.injEq] at h
        obtain ⟨rfl,rfl⟩:=h
        refine ⟨oM,oM,?_⟩
        rw [gU oM,gU oM,fu oM oM]
        rw [show (128 + ((a.toNat % 128 + b.toNat % 128 * 128 + c.toNat * 16384 : Nat) : Int) % 128) = (a.toNat : Int) by omega,
         show (128 + ((a.toNat % 128 + b.toNat % 128 * 128 + c.toNat * 16384 : Nat) : Int) / 128 % 128) = (b.toNat : Int) by omega,
         show ((a.toNat % 128 + b.toNat % 128 * 128 + c.toNat * 16384 : Nat) : Int) / 128 / 128 = (c.toNat : Int) by omega,gR,gR,gR];rfl
      ·cases h
theorem bE {s r : ac8} {n : Int} (h : bj s = some (n,r)) : r.length < s.length:=by
 obtain ⟨_,_,rfl⟩:=cn h
 have:=fE n
 simp;omega
def b5 (s : ac8) : Option (ac8 × ac8):=match bj s with
 | none=>none
 | some (n,r)=>if n.toNat ≤ r.length then some (r.take n.toNat,r.drop n.toNat) else none
theorem j4 {x r : ac8} (h : x.length ≤ 999999) : b5 (aX x.length ++ (x ++ r)) = some (x,r):=by
 unfold b5
 rw [gq oM oM]
 dsimp only
 rw [if_pos (by simp),Int.toNat_natCast,List.take_left,List.drop_left]
theorem uD {s x r : ac8} (h : b5 s = some (x,r)) : x.length ≤ 999999 ∧ s = aX x.length ++ (x ++ r):=by
 unfold b5 at h
 split at h
 ·cases h
 ·rename_i n q hn
  obtain ⟨h0,h1,rfl⟩:=cn hn
  split at h
  ·rename_i hl
   simp only [Option.some.injEq,Prod.mk.injEq] at h
   obtain ⟨rfl,rfl⟩:=h
   have e : ((List.take n.toNat q).length : Int) = n:=by rw [List.length_take];omega
   exact ⟨oM,by rw [e,List.take_append_drop]⟩
  ·cases h
theorem d4 {s x r : ac8} (h : b5 s = some (x,r)) : r.length + x.length < s.length:=by
 obtain ⟨_,rfl⟩:=uD h
 have:=fE x.length
 simp;omega
def bG (f : ac8 → Option (V × ac8)) : Nat → ac8 → List V → Option (List V × ac8)
 | 0,s,acc=>some (acc,s)
 | m + 1,s,acc=>match f s with
  | none=>none
  | some (v,r)=>bG f m r (acc ++ [v])
def cQ (f : ac8 → ac8 → Option (V × ac8)) (k p : ac8) : Option V:=match f k p with
 | some (v,[])=>some v
 | _=>none
def bN (ts : List Ty) (f : ac8 → ac8 → Option (V × ac8)) (t : Ty) : Nat → Int → ac8 → List V → Option (List V × ac8)
 | 0,_,_,_=>none
 | m + 1,last,s,acc=>match bj s with
  | none=>none
  | some (n,r)=>if n = 0 then some (acc,r) else match b5 r with
   | none=>none
   | some (p,r')=>if n ≤ last then none else match bR t.fields n with
    | none=>bN ts f t m n r' acc
    | some d=>match cQ f d.kind p with
     | none=>none
     | some v=>bN ts f t m n r' (if v.out = cW ts d then acc else acc ++ [.nd 61 [] d.tag [v]])
def bZ (ts : List Ty) (f : ac8 → ac8 → Option (V × ac8)) (t : Ty) (s : ac8) : Option (V × ac8) :=
 if t.sort = 82 then (bN ts f t (s.length + 1) 0 s []).map fun x=>(.nd 82 [] 0 x.1,x.2) else match bj s with
  | none=>none
  | some (n,r)=>match bR t.fields n with
   | none=>none
   | some d=>if t.sort = 69 then some (.nd 69 [] d.tag [],r) else match b5 r with
    | none=>none
    | some (p,r')=>(cQ f d.kind p).map fun v=>(.nd 85 [] d.tag [v],r')
def bX : ac8 → Option (Bool × ac8)
 | []=>none
 | b :: r=>if b.toNat = 0 then some (false,r) else if b.toNat = 1 then some (true,r) else none
def fx (ts : List Ty) (f : ac8 → ac8 → Option (V × ac8)) : ac8 → ac8 → Option (V × ac8)
 | [],_=>none
 | c :: k,s =>
  if c.toNat = 91 then (match bj s with
   | none=>none
   | some (n,r)=>if n ≤ 20 then (bG (f k) n.toNat r []).map fun x=>(.nd 91 [] 0 x.1,x.2) else none)
  else if c.toNat = 63 then (match bX s with
   | none=>none
   | some (false,r)=>some (.nd 63 [] 0 [],r)
   | some (true,r)=>(f k r).map fun x=>(.nd 63 [] 0 [x.1],x.2))
  else match a7 ts (c :: k) with
   | some t=>bZ ts f t s
   | none=>if c.toNat = 110 then (bj s).map fun x=>(.nd 110 (bz x.1) 0 [],x.2)
    else if c.toNat = 116 then (match b5 s with
     | none=>none
     | some (p,r)=>if df (39 :: (p ++ [39])) = true then some (.nd 116 p 0 [],r) else none)
    else if c.toNat = 102 then (bX s).map fun x=>(.nd 102 (if x.1 = true then [121,101,115] else [110,111]) 0 [],x.2) else none
def rb (ts : List Ty) : Nat → ac8 → ac8 → Option (V × ac8)
 | 0,_,_=>none
 | n + 1,k,s=>fx ts (rb ts n) k s
theorem nB {f : ac8 → Option (V × ac8)} {p : V → Prop} (h : ∀ s y,f s = some y → p y.1) : ∀ (m : Nat) (s : ac8) (acc : List V) {x : List V × ac8},bG f m s acc = some x → (∀ v ∈ acc,p v) → (∀ v ∈ x.1,p v) ∧ x.1.length = acc.length + m
 | 0,s,acc,x,e,ha=>by simp only [bG,Option.some.injEq] at e;subst e;exact ⟨ha,F⟩
 | m + 1,s,acc,x,e,ha=>by
  unfold bG at e
  cases hf : f s with
  | none=>rw [hf] at e;cases e
  | some y =>
   rw [hf] at e
   obtain ⟨v,r⟩:=y
   have:=nB h m r _ e (fun u hu=>by
    rcases List.mem_append.1 hu with hu | hu
    ·exact ha u hu
    ·simp only [List.mem_singleton] at hu;subst hu;exact h _ _ hf)
   exact ⟨this.1,by rw [this.2,List.length_append,List.length_singleton];omega⟩
theorem cO {f : ac8 → ac8 → Option (V × ac8)} {k p : ac8} {v : V} (h : cQ f k p = some v) : f k p = some (v,[]):=by
 unfold cQ at h
 split at h
 ·rename_i u hu;rw [hu];simp only [Option.some.injEq] at h;subst h;rfl
 ·cases h
theorem iv {fs : List Fld} {n : Int} {d : Fld} (h : bR fs n = some d) : d.tag = n ∧ d ∈ fs:=⟨by have:=List.find?_some h;simpa using this,List.mem_of_find?_eq_some h⟩
theorem j5 {ts : List Ty} {f : ac8 → ac8 → Option (V × ac8)} {q : ac8 → V → Prop} (h : ∀ k s y,f k s = some y → q k y.1) {t : Ty} : ∀ (m : Nat) (last : Int) (s : ac8) (fs : List (Fld × V)) {x : List V × ac8},bN ts f t m last s (fs.map c7) = some x → (∀ p ∈ fs,p.1 ∈ t.fields ∧ q p.1.kind p.2 ∧ p.2.out ≠ cW ts p.1 ∧ p.1.tag ≤ last) → fs.Pairwise (fun a b=>a.1.tag < b.1.tag) →
  ∃ gs : List (Fld × V),x.1 = gs.map c7 ∧ (∀ p ∈ gs,p.1 ∈ t.fields ∧ q p.1.kind p.2 ∧ p.2.out ≠ cW ts p.1) ∧ gs.Pairwise (fun a b=>a.1.tag < b.1.tag)
 | 0,_,_,_,_,e,_,_=>by cases e
 | m + 1,last,s,fs,x,e,ha,hp=>by
  unfold bN at e
  cases hn : bj s with
  | none=>rw [hn] at e;cases e
  | some y =>
   rw [hn] at e
   obtain ⟨n,r⟩:=y
   dsimp only at e
   split at e
   ·simp only [Option.some.injEq] at e;subst e
    exact ⟨fs,F,fun p hp=>⟨(ha p hp).1,(ha p hp).2.1,(ha p hp).2.2.1⟩,hp⟩
   ·split at e
    ·cases e
    ·split at e
     ·cases e
     ·rename_i hl
      have ha1 : ∀ p ∈ fs,p.1 ∈ t.fields ∧ q p.1.kind p.2 ∧ p.2.out ≠ cW ts p.1 ∧ p.1.tag ≤ n:=fun p hp=>by
       obtain ⟨a1,a2,a3,a4⟩:=ha p hp;exact ⟨a1,a2,a3,oM⟩
      split at e
      ·exact j5 h m n _ fs e ha1 hp
      ·rename_i d hd
       obtain ⟨hd1,hd2⟩:=iv hd
       split at e
       ·cases e
       ·rename_i v hv
        have hq:=h _ _ _ (cO hv)
        split at e
        ·exact j5 h m n _ fs e ha1 hp
        ·rename_i hne
         have e2 : fs.map c7 ++ [V.nd 61 [] d.tag [v]] = (fs ++ [(d,v)]).map c7:=by simp
         rw [e2] at e
         refine j5 h m n _ _ e (fun p hp=>?_) ?_
         ·rcases List.mem_append.1 hp with hp | hp
          ·exact ha1 p hp
          ·simp only [List.mem_singleton] at hp;subst hp;exact ⟨hd2,hq,hne,by dsimp only;omega⟩
         ·rw [List.pairwise_append]
          refine ⟨hp,List.pairwise_singleton _ _,fun a hA b hB=>?_⟩
          simp only [List.mem_singleton] at hB;subst hB
          have:=(ha a hA).2.2.2
          show a.1.tag < d.tag
          omega
theorem lb {ts : List Ty} : ∀ (n : Nat) (k s : ac8) (x : V × ac8),rb ts n k s = some x → OfK ts k x.1 ∧ x.1.deep ≤ n
 | 0,_,_,_,e=>by cases e
 | n + 1,k,s,x,e=>by
  have ih : ∀ k s y,rb ts n k s = some y → OfK ts k y.1 ∧ y.1.deep ≤ n:=fun k s y hy=>lb n k s y hy
  replace e : fx ts (rb ts n) k s = some x:=e
  cases k with
  | nil=>cases e
  | cons c k =>
   unfold fx at e
   dsimp only at e
   split at e
   ·rename_i hc
    obtain rfl:=bm hc dC
    split at e
    ·cases e
    ·split at e
     ·rename_i m r hm hm2
      cases hi : bG (rb ts n k) m.toNat r [] with
      | none=>rw [hi] at e;cases e
      | some y =>
       rw [hi] at e
       simp only [Option.map_some,Option.some.injEq] at e;subst e
       have h1:=nB (p:=fun v=>OfK ts k v ∧ v.deep ≤ n) (fun s y hy=>ih k s y hy) _ _ _ hi (by simp)
       obtain ⟨h2,h3⟩:=h1
       simp only [List.length_nil] at h3
       refine ⟨.lst _ _ oM fun v hv=>(h2 v hv).1,?_⟩
       rw [cP dC]
       have:=V.deeps_le (n:=n) fun v hv=>(h2 v hv).2
       omega
     ·cases e
   ·rename_i hc
    split at e
    ·rename_i hc2
     obtain rfl:=bm hc2 dC
     split at e
     ·cases e
     ·simp only [Option.some.injEq] at e;subst e
      exact ⟨.non _,by rw [cP dC];simp [V.deeps]⟩
     ·rename_i r _
      cases hf : rb ts n k r with
      | none=>rw [hf] at e;cases e
      | some y =>
       rw [hf] at e
       simp only [Option.map_some,Option.some.injEq] at e;subst e
       obtain ⟨h1,h2⟩:=ih _ _ _ hf
       refine ⟨.opt _ _ h1,?_⟩
       rw [cP dC]
       have:=V.deeps_le (ks:=[y.1]) (n:=n) fun v hv=>by simp only [List.mem_singleton] at hv;subst hv;exact h2
       omega
    ·split at e
     ·rename_i t ht
      unfold bZ at e
      split at e
      ·rename_i h82
       cases hf : bN ts (rb ts n) t (s.length + 1) 0 s [] with
       | none=>rw [hf] at e;cases e
       | some y =>
        rw [hf] at e
        simp only [Option.map_some,Option.some.injEq] at e;subst e
        obtain ⟨gs,e1,e2,e3⟩:=j5 (q:=fun k v=>OfK ts k v ∧ v.deep ≤ n) (fs:=[]) ih _ _ _ hf (by simp) (by simp)
        dsimp only
        rw [e1]
        refine ⟨.recd _ t gs ht h82 (fun p hp=>(e2 p hp).1) (fun p hp=>(e2 p hp).2.1.1) (fun p hp=>(e2 p hp).2.2) e3,?_⟩
        rw [cP dC]
        have:=V.deeps_le (ks:=gs.map c7) (n:=n) fun v hv=>by
         obtain ⟨p,hp,rfl⟩:=List.mem_map.1 hv
         have:=(e2 p hp).2.1.2
         show V.deep (.nd 61 [] p.1.tag [p.2]) ≤ n
         rw [V.deep,if_pos rfl]
         exact V.deeps_le (ks:=[p.2]) fun v hv=>by simp only [List.mem_singleton] at hv;subst hv;exact this
        omega
      ·rename_i h82
       split at e
       ·cases e
       ·split at e
        ·cases e
        ·rename_i d hd
         obtain ⟨hd1,hd2⟩:=iv hd
         split at e
         ·rename_i h69
          simp only [Option.some.injEq] at e;subst e
          exact ⟨.enm _ t d ht h69 hd2,by rw [cP dC];simp [V.deeps]⟩
         ·rename_i h69
          split at e
          ·cases e
          ·rename_i p r' _
           cases hf : cQ (rb ts n) d.kind p with
           | none=>rw [hf] at e;cases e
           | some v =>
            rw [hf] at e
            simp only [Option.map_some,Option.some.injEq] at e;subst e
            obtain ⟨h1,h2⟩:=ih _ _ _ (cO hf)
            refine ⟨.uni _ t d v ht h82 h69 hd2 h1,?_⟩
            rw [cP dC]
            have:=V.deeps_le (ks:=[v]) (n:=n) fun u hv=>by simp only [List.mem_singleton] at hv;subst hv;exact h2
            omega
     ·rename_i ht
      split at e
      ·rename_i h1
       obtain rfl:=bm h1 dC
       cases hn : bj s with
       | none=>rw [hn] at e;cases e
       | some y =>
        rw [hn] at e
        obtain ⟨m,r⟩:=y
        obtain ⟨g1,g2,_⟩:=cn hn
        simp only [Option.map_some,Option.some.injEq] at e;subst e
        exact ⟨.num _ _ g1 g2,by rw [cP dC];simp [V.deeps]⟩
      ·split at e
       ·rename_i h1
        obtain rfl:=bm h1 dC
        split at e
        ·cases e
        ·split at e
         ·rename_i hx
          simp only [Option.some.injEq] at e;subst e
          exact ⟨.txt _ _ hx,by rw [cP dC];simp [V.deeps]⟩
         ·cases e
       ·split at e
        ·rename_i h1
         obtain rfl:=bm h1 dC
         cases hn : bX s with
         | none=>rw [hn] at e;cases e
         | some y =>
          rw [hn] at e
          simp only [Option.map_some,Option.some.injEq] at e;subst e
          refine ⟨.flg _ _ ?_,by rw [cP dC];simp [V.deeps]⟩
          split
          ·exact .inl F
          ·exact .inr F
        ·cases e
open Go.Proofs
variable {G : Gh}
abbrev eb : TypeId:=178
abbrev gz : TypeId:=5
theorem aa5 {n : Nat} {D : List Deferred} {E : bo} {B : Base} {L : List Own} {K : Act → World → Prop} {Q : Exit → Act → World → Prop} {ty : TypeId} {pos : String} {aft : Array Edge} {gd : Option (Nat × Bool)} {d : Nat} {fo x : Operand} {ag : Array TypeId} {m : Nat}
  (hf : ev E fo = some (.func (.func 193) #[] #[])) (hx : ev E x = some (I (m : Nat))) (hlt : Nat.blt d n = true) (hm : 0 < m ∧ m ≤ 1000000000)
  (k : ∀ b cap,m ≤ cap + 1 → Nx n D ((d,.slice (some ⟨b,0,none⟩) m (cap + 1)) :: E) B G (.acc (.slice (some ⟨b,0,none⟩) 0 (cap + 1)) gz 1 0 [] :: L) K) : Nx n D E B G L (ow ac7 ⟨some d,.call ⟨.value fo,[x].toArray,ag⟩,ty,pos,aft,gd⟩ Q K) :=
 acg (ps:=#[3]) hf hx hlt Tryz.func193 kR kR kR kR (TI.und (T:=22)) hm k
theorem yg {b : Nat} {v : Value} : bM ac7 172 [Pt b 0] G [.blk b (.cells (List.toArray [.pointer none,v]) eb (0,0))] (fun r L'=>L' = [.blk b (.cells (List.toArray [Pt b 0,v]) eb (0,0))]):=by
 have hx : ∀ w,(callFunc 192 [Pt b 0].toArray).run ac7 w = .ok (.value (Pt b 0)) w:=fun w=>by
  rw [run_callFunc_extern Tryz.func192 kR kR kR (e:=Extern.AbiNoEscape.same) kR]
  rw [Lib.run_noEscape];rfl
 refine jH [(0,_)] Tryz.func172 Tryz.ntmps172 fun B hB hW=>?_
 repeat' (first | refine jR ?_ | (refine jo ?_;first | refine ah F ?_ | refine jV (cC F F) ?_ | refine jV (abK kR F F F) ?_) | refine ac F F ?_)
 refine uG F (kx (nZ F F F hx) F F ?_)
 repeat' (first | refine jR ?_ | (refine jo ?_;first | refine jV (yH kR F kR) ?_ | refine jD F F F ?_))
 exact nX (vs:=[]) F trivial F aZ ⟨F,F⟩
theorem aci {b : Nat} {v : Value} : bM ac7 172 [Pt b 0] G [.blk b (.cells (List.toArray [Pt b 0,v]) eb (0,0))] (fun r L'=>L' = [.blk b (.cells (List.toArray [Pt b 0,v]) eb (0,0))]):=by
 refine jH [(0,_)] Tryz.func172 Tryz.ntmps172 fun B hB hW=>?_
 repeat' (first | refine jR ?_ | (refine jo ?_;first | refine ah F ?_ | refine jV (cC F F) ?_ | refine jV (aaw F F) ?_) | refine ad F F ?_)
 exact nX (vs:=[]) F trivial F aZ ⟨F,F⟩
theorem zu {b m : Nat} (hm : 0 < m ∧ m ≤ 1000000000) : bM ac7 173 [Pt b 0,I (m : Nat)] G [.blk b (.cells (List.toArray [Pt b 0,aI]) eb (0,0))] (fun r L'=>∃ b2 c2,L' = [.acc (.slice (some ⟨b2,0,none⟩) 0 (c2 + 1)) gz 1 0 [],.blk b (.cells (List.toArray [Pt b 0,.slice (some ⟨b2,0,none⟩) 0 (c2 + 1)]) eb (0,0))]):=by
 refine jH [(0,_),(1,_)] Tryz.func173 Tryz.ntmps173 fun B hB hW=>?_
 repeat' (first | refine jR ?_ | (refine jo ?_;first | refine ah F ?_ | refine jV (yK F F) ?_ | refine jD F F F ?_) | (refine aj (am (id:=0) _ (fun _ h=>h) ai ?_);refine jT 9 [0,1,2,6,9,10,11] (aa 16 3655) ?_;(refine jG (aa 16 3663) 3 F (aq F F F) ?_);(refine jG (aa 16 3679) 4 F (ya F) ?_);refine jW 5 [5,7] (aa 16 3839) ?_;(refine jG (aa 16 7935) 12 F (aq F F F) ?_);(refine jG (aa 16 16127) 13 F (av F) ?_);refine jA 8 F ?_;(refine aa5 F F F oM (fun _ _ _=>?_));refine jS (aa 16 16383) ?_;(refine jG (aa 16 32767) 14 F (rP F F oM) ?_);refine jT 0 [15] (aa 16 65535) ?_;refine jQ ?_))
 exact nX (vs:=[]) F trivial F (List.Sublist.refl _) ⟨F,_,_,F⟩
theorem zy {b m : Nat} (hm : 0 < m ∧ m ≤ 1000000000) : bM ac7 132 [Pt b 0,I (m : Nat)] G [.blk b (.cells (List.toArray [.pointer none,aI]) eb (0,0))] (fun r L'=>∃ b2 c2,L' = [.acc (.slice (some ⟨b2,0,none⟩) 0 (c2 + 1)) gz 1 0 [],.blk b (.cells (List.toArray [Pt b 0,.slice (some ⟨b2,0,none⟩) 0 (c2 + 1)]) eb (0,0))]):=by
 refine jH [(0,_),(1,_)] Tryz.func132 Tryz.ntmps132 fun B hB hW=>?_
 repeat' (first | refine jR ?_ | (refine jo ?_;first | (refine af F F F yg F ?_;rintro _ _ rfl;dsimp only [zA,fA]) | (refine af F F F (zu oM) F ?_;rintro _ _ ⟨b2,c2,hb2,rfl⟩;dsimp only [zA,fA])) | refine ac F (ay oM) ?_ | refine ad F F ?_ | (refine aj (am (id:=3) _ (fun _ h=>h) ai ?_);refine jT 6 [0,1,2,5,6,7,11] (aa 13 2279) ?_;(refine jG (aa 13 2287) 3 F (aq F F F) ?_);(refine jG (aa 13 2303) 4 F (ya F) ?_);(refine jG (aa 13 2559) 8 F (aq F F F) ?_);(refine jG (aa 13 3071) 9 F (av F) ?_);refine jW 0 [10,12] (aa 13 8191) ?_;refine jQ ?_))
 exact nX (vs:=[]) F trivial F (List.Sublist.refl _) ⟨F,_,_,F⟩
theorem pl {b b1 c1 m : Nat} {xs : List Value} {l : ac8} (hm : m + l.length ≤ 1000000000) : bM ac7 133 [Pt b 0,S l] G [.blk b (.cells (List.toArray [Pt b 0,.slice (some ⟨b1,0,none⟩) m (c1 + 1)]) eb (0,0)),.acc (.slice (some ⟨b1,0,none⟩) m (c1 + 1)) gz 1 m xs]
  (fun r L'=>∃ b2 c2,r = Tu [I l.length,.nilIface] ∧ L' = [.acc (.slice (some ⟨b2,0,none⟩) (m + l.length) (c2 + 1)) gz 1 (m + l.length) (xs ++ bw l),.blk b (.cells (List.toArray [Pt b 0,.slice (some ⟨b2,0,none⟩) (m + l.length) (c2 + 1)]) eb (0,0))]):=by
 refine jH [(0,_),(1,_)] Tryz.func133 Tryz.ntmps133 fun B hB hW=>?_
 repeat' (first | refine jR ?_ | (refine jo ?_;first | refine ah F ?_ | refine acm F F F oM fun _ _=>?_ | refine jD F F F ?_ | (refine af F F F aci F ?_;rintro _ _ rfl;dsimp only [zA,fA])))
 exact aP (vs:=[_,_]) F ⟨F,F,trivial⟩ F (List.Sublist.refl _) ⟨F,_,_,F,F⟩
theorem sK {b b1 c1 m : Nat} {l : ac8} (hm : m ≤ 1000000000) : bM ac7 134 [Pt b 0] G [.blk b (.cells (List.toArray [Pt b 0,.slice (some ⟨b1,0,none⟩) m (c1 + 1)]) eb (0,0)),.acc (.slice (some ⟨b1,0,none⟩) m (c1 + 1)) gz 1 m (bw l)]
  (fun r L'=>r = S l ∧ L' = []):=by
 refine jH [(0,_)] Tryz.func134 Tryz.ntmps134 fun B hB hW=>?_
 repeat' (refine jR ?_)
 (refine aj (am (id:=1) [.blk b (.cells (List.toArray [Pt b 0,.slice (some ⟨b1,0,none⟩) m (c1 + 1)]) eb (0,0))] (by intro y hy;simp only [List.mem_cons,List.not_mem_nil,or_false] at hy ⊢;simp [hy]) ai ?_);refine jW 6 [0,1,2,5,6,7] (aa 12 231) ?_;(refine jG (aa 12 239) 3 F (aq F F F) ?_);(refine jG (aa 12 255) 4 F (aau F F) ?_);(refine jG (aa 12 511) 8 F (aq F F F) ?_);(refine jG (aa 12 1023) 9 F (av F) ?_);refine jA 10 F ?_;(refine aaY kR F F F oM ?_);refine jS (aa 12 2047) ?_;refine jT 0 [11] (aa 12 4095) ?_;refine jQ ?_)
 repeat' (refine jR ?_)
 refine jZ (vs:=[_]) F ⟨F,trivial⟩ F ⟨F,F,?_⟩
 rfl
def di (xs : List ac8) : Nat:=(xs.map List.length).sum
theorem uE (xs : List ac8) (x : ac8) : di (xs ++ [x]) = di xs + x.length:=by simp [di]
theorem er : ∀ (xs : List ac8) (i : Nat),di (xs.take i) ≤ di xs
 | [],i=>by simp [di]
 | x :: xs,0=>by simp [di]
 | x :: xs,i + 1=>by
  have:=er xs i
  simp only [di,List.take_succ_cons,List.map_cons,List.sum_cons] at this ⊢;omega
theorem lk (c : UInt8) (y : ac8) : ∀ (xs : List ac8),xs ≠ [] → aV c (xs ++ [y]) = aV c xs ++ c :: y
 | [],h=>absurd rfl h
 | [x],_=>by simp [aV]
 | x :: z :: r,_=>by
  have:=lk c y (z :: r) (by simp)
  simp only [List.cons_append,aV] at this ⊢
  rw [this];simp
theorem fF (c : UInt8) : ∀ (xs : List ac8),(aV c xs).length ≤ di xs + xs.length
 | []=>by simp [aV]
 | [x]=>by simp [aV,di]
 | x :: z :: r=>by
  have:=fF c (z :: r)
  simp only [aV,di,List.map_cons,List.sum_cons,List.length_append,List.length_cons] at this ⊢;omega
theorem Nx.cast {n : Nat} {D : List Deferred} {E : bo} {B : Base} {L L' : List Own} {K : Act → World → Prop} (e : L = L') (h : Nx n D E B G L' K) : Nx n D E B G L K:=by subst e;exact h
theorem be.cap {G : Gh} {p : Option Addr} {c sz m : Nat} {xs : List Value} (h : be G (.slice p m c) sz m xs) : m ≤ c:=by
 obtain ⟨_,⟨h1,h2⟩ | ⟨b,o,cap,e,h1,_⟩⟩:=h
 ·omega
 ·simp only [Value.slice.injEq,true_and] at e;omega
theorem b7.tailS {G : Gh} {b o : Nat} {xs : List ac8} (h : b7 G b o (aE dG xs)) : b7 G b (o + 1) (aE dG (xs.drop 1)):=by
 cases xs with
 | nil=>obtain ⟨cs,h1,_⟩:=h;exact ⟨cs,h1,fun i v hv=>by simp [aE] at hv⟩
 | cons x r =>
  obtain ⟨cs,h1,h2⟩:=h
  refine ⟨cs,h1,fun i v hv=>?_⟩
  have:=h2 (i + 1) v (by simpa [aE,dG] using hv)
  rw [show o + 1 + i = o + (i + 1) by omega];exact this
theorem qA (xs : List ac8) (i : Nat) : ae (xs.drop 1) i = ae xs (i + 1):=by
 cases xs with
 | nil=>simp [ae]
 | cons x r=>simp [ae,List.getD]
theorem mq {xs : List ac8} {i : Nat} (h : i < xs.length) : di (xs.take (i + 1)) = di (xs.take i) + (ae xs i).length:=by
 rw [eZ h,uE]
theorem abk {v : Value} {xs : List ac8} {c : UInt8} (hs : be G v 1 xs.length (aE dG xs)) (hl : di xs + xs.length ≤ 100000000) : an ac7 94 [v,S [c]] G (· = S (aV c xs)):=by
 by_cases h0 : xs = []
 ·subst h0
  refine jE [(0,_),(1,_)] Tryz.func94 Tryz.ntmps94 fun B hB=>?_
  repeat' (first | refine jR ?_ | (refine jo ?_;refine jV (d2 F aS) ?_) | refine ac F F ?_)
  refine jY (vs:=[_]) ?_
  rfl
 have hpos:=List.length_pos_iff.2 h0
 obtain ⟨bv,ov,cv,rfl,hsv⟩:=hs.expl oM
 by_cases h1 : xs.length = 1
 ·obtain ⟨x,rfl⟩:=List.length_eq_one_iff.1 h1
  refine jE [(0,_),(1,_)] Tryz.func94 Tryz.ntmps94 fun B hB=>?_
  repeat' (first | refine jR ?_ | (refine jo ?_;first | refine jV (av F) ?_ | refine jV (aA F F oM) ?_ | refine jV (aL F F aS F F) ?_) | refine ac F F ?_ | refine ad F F ?_)
  refine jY (vs:=[_]) ?_
  rfl
 have hcap:=hs.cap
 have hq : ¬ (9223372036854775807 / ((xs.length : Int) - 1) ≤ ((([c] : ac8).length : Nat) : Int)):=by
  have : (2 : Int) ≤ 9223372036854775807 / ((xs.length : Int) - 1):=Int.le_ediv_of_mul_le oM oM
  have e : ((([c] : ac8).length : Nat) : Int) = 1:=rfl
  omega
 have e1 : ((([c] : ac8).length : Nat) : Int) * ((xs.length : Int) - 1) = (xs.length : Int) - 1:=by
  have e : ((([c] : ac8).length : Nat) : Int) = 1:=rfl
  rw [e];omega
 have p1 : ((([c] : ac8).length : Nat) : Int) * ((xs.length : Int) - 1) ≤ 9223372036854775807:=by rw [e1];omega
 have p2 : -9223372036854775808 ≤ ((([c] : ac8).length : Nat) : Int) * ((xs.length : Int) - 1):=by rw [e1];omega
 have p3 : 0 + ((([c] : ac8).length : Nat) : Int) * ((xs.length : Int) - 1) ≤ 9223372036854775807:=by rw [e1];omega
 have p4 : -9223372036854775808 ≤ 0 + ((([c] : ac8).length : Nat) : Int) * ((xs.length : Int) - 1):=by rw [e1];omega
 refine jE [(0,_),(1,_)] Tryz.func94 Tryz.ntmps94 fun B hB=>?_
 repeat' (first | refine jM ?_ | (refine jo ?_;refine jV (av F) ?_) | refine ac F F ?_ | (refine ad F (by refine decide_eq_false ?_;first | assumption | omega) ?_))
 refine Nx.re (d:=5) (v':=I ((xs.length : Int) - 1 + (di (xs.take 0) : Nat))) F (congrArg (Value.int .i64) (by rw [e1];simp [di])) ?_
 refine aT (ι:=Nat) (fun i=>i ≤ xs.length) (fun i=>[(0,.slice (some ⟨bv,ov,none⟩) xs.length cv),(1,S [c]),(39,.slice (some ⟨bv,ov,none⟩) xs.length cv),(40,I xs.length),(41,I i),(5,I ((xs.length : Int) - 1 + (di (xs.take i) : Nat)))]) (fun _=>G) (fun i=>[]) (fun i=>xs.length - i) 0 ?_ tU F aZ (fun i Hi=>?_)
 ·exact Nat.zero_le _
 have hb1:=er xs i
 by_cases hi : i < xs.length
 ·have hb2:=mq hi
  have hb3:=er xs (i + 1)
  repeat' (first | refine jM ?_ | (refine jo ?_;first | refine jV (aA F F oM) ?_ | (refine jV (it F F aS ?_) ?_;focus omega)) | refine ac F (ay oM) ?_ | refine ad F (aC oM) ?_)
  refine Nx.re (d:=5) (v':=I ((xs.length : Int) - 1 + (di (xs.take (i + 1)) : Nat))) F (congrArg (Value.int .i64) (by rw [hb2];omega)) ?_
  exact aY (i + 1) oM oM tU F aZ
 have hin : i = xs.length:=oM
 subst hin
 rw [List.take_length] at *
 refine Nx.re (d:=5) (v':=I ((xs.length - 1 + di xs : Nat) : Int)) F (congrArg (Value.int .i64) oM) ?_
 have hb0 : (ae xs 0).length ≤ di xs:=by have:=mq (i:=0) hpos;have:=er xs (0 + 1);omega
 have hw0 : 0 + (ae xs 0).length ≤ 1000000000:=oM
 have hsv1:=hsv.tailS
 have hdl : (xs.drop 1).length = xs.length - 1:=by rw [List.length_drop]
 have eJ0 : aV c (xs.take (0 + 1)) = ae xs 0:=by rw [eZ hpos];rfl
 repeat' (first | refine jR ?_ | (refine jo ?_;first | refine jV (av F) ?_ | refine jV (aA F F oM) ?_ | (refine jV (it F F aS ?_) ?_;focus omega) | refine jL fun _=>?_ | refine jV (abM F F oM) ?_ | (refine af F F F (zy oM) F ?_;rintro _ _ ⟨b2,c2,rfl⟩;dsimp only [zA,fA]) | (refine lL F F F (pl (by (repeat (assumption));done)) rfl ?_;rintro _ _ ⟨b3,c3,rfl,rfl⟩;dsimp only [zA,fA])) | refine ad F (aC oM) ?_)
 rename_i x _
 refine Nx.cast (L':=[.acc (.slice (some ⟨b3,0,none⟩) (aV c (xs.take (0 + 1))).length (c3 + 1)) gz 1 (aV c (xs.take (0 + 1))).length (bw (aV c (xs.take (0 + 1)))),.blk x (.cells (List.toArray [Pt x 0,.slice (some ⟨b3,0,none⟩) (aV c (xs.take (0 + 1))).length (c3 + 1)]) eb (0,0))]) (by rw [eJ0];simp only [Nat.zero_add]) ?_
 refine aT (ι:=Nat × Nat × Nat) (fun q=>q.1 ≤ xs.length - 1) (fun q=>[(1,S [c]),(63,.slice (some ⟨bv,ov + 1,none⟩) (xs.length - 1) (cv - 1)),(64,I (xs.length - 1 : Nat)),(65,I q.1),(8,Pt x 0)]) (fun _=>G) (fun q=>[.acc (.slice (some ⟨q.2.1,0,none⟩) (aV c (xs.take (q.1 + 1))).length (q.2.2 + 1)) gz 1 (aV c (xs.take (q.1 + 1))).length (bw (aV c (xs.take (q.1 + 1)))),.blk x (.cells (List.toArray [Pt x 0,.slice (some ⟨q.2.1,0,none⟩) (aV c (xs.take (q.1 + 1))).length (q.2.2 + 1)]) eb (0,0))]) (fun q=>xs.length - q.1) (0,b3,c3) ?_ tU F aZ (fun q Hq=>?_)
 ·exact Nat.zero_le _
 obtain ⟨i,b4,c4⟩:=q
 dsimp only at Hq ⊢
 have hj1:=fF c (xs.take (i + 1))
 have hj2:=er xs (i + 1)
 have hj3 : (xs.take (i + 1)).length ≤ xs.length:=by rw [List.length_take];omega
 by_cases hi2 : i < xs.length - 1
 ·have hwA : (aV c (xs.take (i + 1))).length + ([c] : ac8).length ≤ 1000000000:=by rw [List.length_singleton];omega
  have hy1:=mq (xs:=xs) (i:=i + 1) oM
  have hy2:=er xs (i + 1 + 1)
  have hwB : (aV c (xs.take (i + 1))).length + ([c] : ac8).length + (ae (xs.drop 1) i).length ≤ 1000000000:=by rw [qA,List.length_singleton];omega
  have ej : aV c (xs.take (i + 1 + 1)) = aV c (xs.take (i + 1)) ++ c :: ae (xs.drop 1) i:=by
   rw [eZ oM,lk c _ _ (by rw [ne_eq,List.take_eq_nil_iff];simp [h0]),qA]
  repeat' (first | refine jM ?_ | (refine jo ?_;first | refine jV (aA F F oM) ?_ | (refine jV (it F F aS ?_) ?_;focus omega) | (refine lL F F F (pl (by (repeat (assumption));done)) rfl ?_;rintro _ _ ⟨b3,c3,rfl,rfl⟩;dsimp only [zA,fA])) | refine ac F (ay oM) ?_)
  refine Nx.cast (L':=[.acc (.slice (some ⟨b3,0,none⟩) (aV c (xs.take (i + 1 + 1))).length (c3 + 1)) gz 1 (aV c (xs.take (i + 1 + 1))).length (bw (aV c (xs.take (i + 1 + 1)))),.blk x (.cells (List.toArray [Pt x 0,.slice (some ⟨b3,0,none⟩) (aV c (xs.take (i + 1 + 1))).length (c3 + 1)]) eb (0,0))]) (by
   have e2 : (aV c (xs.take (i + 1 + 1))).length = (aV c (xs.take (i + 1))).length + ([c] : ac8).length + (ae (xs.drop 1) i).length:=by rw [ej];simp;omega
   have e3 : bw (aV c (xs.take (i + 1 + 1))) = bw (aV c (xs.take (i + 1))) ++ bw [c] ++ bw (ae (xs.drop 1) i):=by rw [ej];simp [bw]
   rw [e2,e3]) ?_
  exact aY (i + 1,b3,c3) (by dsimp only;omega) (by dsimp only;omega) tU rfl aZ
 ·have ei : xs.take (i + 1) = xs:=List.take_of_length_le oM
  rw [ei] at hj1 ⊢
  repeat' (first | refine jR ?_ | (refine jo ?_;(refine lL F F F (sK oM) F ?_;rintro _ _ ⟨rfl,rfl⟩;dsimp only [zA,fA])) | refine ad F (aC oM) ?_)
  refine jY (vs:=[_]) ?_
  rfl
structure VC where
 what : Nat
 text : ac8
 tag : Int
 a : Option Addr
 n : Nat
 c : Nat
instance : Inhabited VC:=⟨⟨0,[],0,none,0,0⟩⟩
abbrev VC.sl (v : VC) : Value:=.slice v.a v.n v.c
def ck (v : VC) : List Value:=[U8 (v.what : Nat),S v.text,I v.tag,v.sl]
instance : RowF ck 4:=⟨fun _=>rfl⟩
mutual
def V.rep (G : Gh) : V → VC → Prop
 | .nd w x t ks,c=>(c.what = w ∧ w ≤ 255) ∧ c.text = x ∧ (c.tag = t ∧ 0 ≤ t ∧ t ≤ 999999) ∧ (c.n = ks.length ∧ (w = 61 → ks.length = 1)) ∧ ∃ cs,be G c.sl 4 cs.length (aE ck cs) ∧ V.reps G ks cs
def V.reps (G : Gh) : List V → List VC → Prop
 | [],cs=>cs = []
 | v :: r,cs=>∃ c cs',cs = c :: cs' ∧ V.rep G v c ∧ V.reps G r cs'
end
theorem gS {G : Gh} : ∀ {ks : List V} {cs : List VC},V.reps G ks cs → cs.length = ks.length
 | [],cs,h=>by rw [V.reps] at h;subst h;rfl
 | v :: r,cs,h=>by
  rw [V.reps] at h
  obtain ⟨c,cs',rfl,_,h2⟩:=h
  rw [List.length_cons,List.length_cons,gS h2]
theorem ja {G : Gh} : ∀ {ks : List V} {cs : List VC},V.reps G ks cs → ∀ i,i < ks.length → V.rep G (ae ks i) (ae cs i)
 | [],_,_,i,hi=>by simp at hi
 | v :: r,cs,h,i,hi=>by
  rw [V.reps] at h
  obtain ⟨c,cs',rfl,h1,h2⟩:=h
  cases i with
  | zero=>exact h1
  | succ i=>exact ja h2 i (by simpa using hi)
theorem ip {G : Gh} {v : V} {c : VC} (h2 : V.rep G v c) : ∀ {ks : List V} {cs : List VC},V.reps G ks cs → V.reps G (ks ++ [v]) (cs ++ [c])
 | [],cs,h=>by
  rw [V.reps] at h;subst h
  exact ⟨c,[],F,h2,F⟩
 | u :: r,cs,h=>by
  rw [V.reps] at h
  obtain ⟨d,cs',rfl,h1,h3⟩:=h
  exact ⟨d,cs' ++ [c],F,h1,ip h2 h3⟩
mutual
theorem ge {G G' : Gh} (hl : Gh.le G G') : ∀ {v : V} {c : VC},V.rep G v c → V.rep G' v c
 | .nd w x t ks,c,h=>by
  rw [V.rep] at h ⊢
  obtain ⟨h1,h2,h3,h4,cs,h5,h6⟩:=h
  exact ⟨h1,h2,h3,h4,cs,h5.mono hl,cd hl h6⟩
theorem cd {G G' : Gh} (hl : Gh.le G G') : ∀ {ks : List V} {cs : List VC},V.reps G ks cs → V.reps G' ks cs
 | [],cs,h=>h
 | v :: r,cs,h=>by
  rw [V.reps] at h ⊢
  obtain ⟨c,cs',e,h1,h2⟩:=h
  exact ⟨c,cs',e,ge hl h1,cd hl h2⟩
end
theorem mY {G : Gh} {w : Nat} {x : ac8} {t : Int} {ks : List V} {c : VC} (h : V.rep G (.nd w x t ks) c) : ∃ (a : Option Addr) (k : Nat) (cs : List VC),c = ⟨w,x,t,a,ks.length,k⟩ ∧ w ≤ 255 ∧ (0 ≤ t ∧ t ≤ 999999) ∧ (w = 61 → ks.length = 1) ∧ cs.length = ks.length ∧ be G (.slice a ks.length k) 4 cs.length (aE ck cs) ∧ V.reps G ks cs:=by
 rw [V.rep] at h
 obtain ⟨⟨h1,h1'⟩,h2,⟨h3,h3'⟩,⟨h4,h4'⟩,cs,h5,h6⟩:=h
 obtain ⟨w',x',t',a,n,k⟩:=c
 dsimp only at h1 h2 h3 h4 h5
 subst h1;subst h2;subst h3;subst h4
 exact ⟨a,k,cs,F,h1',h3',h4',gS h6,h5,h6⟩
theorem c0 {G : Gh} {w : Nat} {x : ac8} {t : Int} {ks : List V} {a : Option Addr} {k m : Nat} {cs : List VC} (hw : w ≤ 255) (ht : 0 ≤ t ∧ t ≤ 999999) (h61 : w = 61 → ks.length = 1) (hm : m = ks.length) (hs : be G (.slice a m k) 4 cs.length (aE ck cs)) (hk : V.reps G ks cs) : V.rep G (.nd w x t ks) ⟨w,x,t,a,m,k⟩:=by
 rw [V.rep];exact ⟨⟨F,hw⟩,F,⟨F,ht⟩,⟨hm,h61⟩,cs,hs,hk⟩
theorem yr {G : Gh} : be G aI 4 ([] : List VC).length (aE ck []):=⟨rfl,.inl ⟨rfl,rfl⟩⟩
theorem bq {G : Gh} {w : Nat} {x : ac8} {t : Int} (hw : w ≤ 255 ∧ w ≠ 61) (ht : 0 ≤ t ∧ t ≤ 999999) : V.rep G (.nd w x t []) ⟨w,x,t,none,0,0⟩:=c0 hw.1 ht (fun h=>absurd h hw.2) rfl yr rfl
theorem lg : ∀ {ks : List V} {i : Nat},i < ks.length → ae (V.outs ks) i = (ae ks i).out
 | [],i,h=>by simp at h
 | v :: r,0,_=>rfl
 | v :: r,i + 1,h=>by
  have:=lg (ks:=r) (i:=i) (by simpa using h)
  simpa [V.outs,ae] using this
theorem jf (ks : List V) : (V.outs ks).length = ks.length:=by rw [V.outs_map];simp
theorem gl {ks : List V} {i : Nat} (h : i < ks.length) : V.tot (ae ks i) ≤ V.tots ks:=by
 rw [aW h];exact rl (List.getElem_mem h)
theorem fT {t : Int} (h : t ≤ 999999) : (bz t).length ≤ 19:=gi oM
theorem rA {w : Nat} {x : ac8} {t : Int} {e : Bool} {j : ac8} (ht : t ≤ 999999) : (dp w x t e j).length ≤ 25 + x.length + j.length:=by
 have hd:=fT ht
 unfold dp
 split
 ·simp;omega
 split
 ·simp;omega
 split
 ·split
  ·simp;omega
  ·simp;omega
 split
 ·simp;omega
 split
 ·simp;omega
 split
 ·simp;omega
 split
 ·simp;omega
 ·omega
mutual
theorem pK {G : Gh} : ∀ {v : V} {c : VC},V.rep G v c → v.out.length + 1 ≤ 2 * v.tot
 | .nd w x t ks,c,h=>by
  rw [V.rep] at h
  obtain ⟨_,_,⟨_,h3⟩,_,cs,_,h6⟩:=h
  have h1:=nU h6
  have h2:=fF 44 (V.outs ks)
  rw [jf] at h2
  have h4:=rA (w:=w) (x:=x) (e:=ks.isEmpty) (j:=aV 44 (V.outs ks)) h3.2
  have h5:=d9 ks
  rw [V.out,V.tot]
  omega
theorem nU {G : Gh} : ∀ {ks : List V} {cs : List VC},V.reps G ks cs → di (V.outs ks) + ks.length ≤ 2 * V.tots ks
 | [],cs,h=>by simp [V.outs,di]
 | v :: r,cs,h=>by
  rw [V.reps] at h
  obtain ⟨c,cs',_,h1,h2⟩:=h
  have h3:=pK h1
  have h4:=nU h2
  simp only [V.outs,di,List.map_cons,List.sum_cons,V.tots,List.length_cons] at *
  omega
end
def eT (cs : ac8) (c : Nat) : Bool:=cs.any fun d=>d.toNat == c
def du (p : Nat → Bool) : ac8 → ac8
 | []=>[]
 | c :: r=>if p c.toNat = true then du p r else c :: r
def eX (p : Nat → Bool) (s : ac8) : ac8:=(du p s.reverse).reverse
abbrev oC : TypeId:=192
theorem gK {b : Nat} {p : Nat → Bool} {c : Nat} (h : c < 256) : bM ac7 175 [Pt b 0,U8 c] G [.blk b (.cells (cA p).toArray oC (0,0))] (fun v L'=>v = Bo (p c) ∧ L' = [.blk b (.cells (cA p).toArray oC (0,0))]):=by
 refine jH [(0,_),(1,_)] Tryz.func175 Tryz.ntmps175 fun B hB hW=>?_
 repeat' (first | refine jR ?_ | (refine jo ?_;first | refine jV (rR F F oM) ?_ | refine jV (aaC F F F aS) ?_))
 refine aP (vs:=[_]) F ⟨F,trivial⟩ F (List.Sublist.refl _) ⟨F,F,F⟩
theorem kr {b : Nat} {p : Nat → Bool} {s : ac8} : bM ac7 146 [S s,Pt b 0] G [.blk b (.cells (cA p).toArray oC (0,0))] (fun v L'=>v = S (du p s) ∧ L' = [.blk b (.cells (cA p).toArray oC (0,0))]):=by
 refine jH [(0,_),(1,_)] Tryz.func146 Tryz.ntmps146 fun B hB hW=>?_
 repeat' (refine jR ?_)
 refine aT (ι:=ac8) (fun t=>du p t = du p s) (fun t=>[(0,S t),(1,Pt b 0)]) (fun _=>G) (fun t=>[.blk b (.cells (cA p).toArray oC (0,0))]) (fun t=>t.length) s ?_ tU F aZ (fun t Ht=>?_)
 ·rfl
 match t,Ht with
 | [],Ht =>
  repeat' (first | refine jR ?_ | refine ad F F ?_)
  refine aP (vs:=[_]) F ⟨F,trivial⟩ F (List.Sublist.refl _) ⟨F,by rw [← Ht];rfl,rfl⟩
 | c :: r,Ht =>
  have hlt : bt (c :: r) (Int.toNat 0) < 256:=gN _ _
  have e0 : bt (c :: r) (Int.toNat 0) = c.toNat:=bi c r
  have hcons : (c :: r).length = r.length + 1:=rfl
  rw [du] at Ht
  by_cases hp : p (bt (c :: r) (Int.toNat 0)) = true
  ·have hp2 : (!p (bt (c :: r) (Int.toNat 0))) = false:=by rw [hp];rfl
   repeat' (first | refine jM ?_ | (refine jo ?_;(refine af F F F (gK (by (repeat (assumption));done)) rfl ?_;rintro _ _ ⟨rfl,rfl⟩;dsimp only [zA,fA])) | refine ac F (ay oM) ?_ | refine ad F ‹_› ?_)
   refine aY r (by rw [← Ht,← e0,if_pos hp]) oM tU F aZ
  ·have hp2 : (!p (bt (c :: r) (Int.toNat 0))) = true:=by simpa using hp
   repeat' (first | refine jM ?_ | (refine jo ?_;(refine af F F F (gK (by (repeat (assumption));done)) rfl ?_;rintro _ _ ⟨rfl,rfl⟩;dsimp only [zA,fA])) | (refine ac F (by first | assumption | (refine decide_eq_true ?_;(omega))) ?_))
   refine aP (vs:=[_]) F ⟨F,trivial⟩ F (List.Sublist.refl _) ⟨F,by rw [← Ht,← e0,if_neg hp];rfl,rfl⟩
theorem qh (p : Nat → Bool) : ∀ s : ac8,(du p s).length ≤ s.length
 | []=>Nat.le_refl _
 | c :: r=>by
  unfold du
  split
  ·have:=qh p r;simp;omega
  ·exact Nat.le_refl _
theorem vp (p : Nat → Bool) (s : ac8) : (eX p s).length ≤ s.length:=by have:=qh p s.reverse;simpa [eX] using this
theorem up (p : Nat → Bool) (s : ac8) (c : UInt8) : eX p (s ++ [c]) = if p c.toNat = true then eX p s else s ++ [c]:=by
 unfold eX
 rw [List.reverse_append]
 simp only [List.reverse_cons,List.reverse_nil,List.nil_append,List.singleton_append,du]
 split <;> simp
theorem oh {b : Nat} {p : Nat → Bool} {s : ac8} (hs : s.length ≤ 1000000000) : bM ac7 147 [S s,Pt b 0] G [.blk b (.cells (cA p).toArray oC (0,0))] (fun v L'=>v = S (eX p s) ∧ L' = [.blk b (.cells (cA p).toArray oC (0,0))]):=by
 refine jH [(0,_),(1,_)] Tryz.func147 Tryz.ntmps147 fun B hB hW=>?_
 repeat' (refine jR ?_)
 refine aT (ι:=ac8) (fun t=>t.length ≤ 1000000000 ∧ eX p t = eX p s) (fun t=>[(0,S t),(1,Pt b 0)]) (fun _=>G) (fun t=>[.blk b (.cells (cA p).toArray oC (0,0))]) (fun t=>t.length) s ?_ tU F aZ (fun t Ht=>?_)
 ·exact ⟨hs,F⟩
 have hcase : t = [] ∨ ∃ r c,t = r ++ [c]:=by
  rcases List.eq_nil_or_concat t with h | ⟨r,c,h⟩
  ·exact .inl h
  ·exact .inr ⟨r,c,by rw [h,List.concat_eq_append]⟩
 rcases hcase with rfl | ⟨r,c,rfl⟩
 ·repeat' (first | refine jR ?_ | refine ad F F ?_)
  refine aP (vs:=[_]) F ⟨F,trivial⟩ F (List.Sublist.refl _) ⟨F,by rw [← Ht.2];rfl,rfl⟩
 ·have hcons : (r ++ [c]).length = r.length + 1:=by simp
  have e1 : (((r ++ [c]).length : Nat) : Int) - 1 = (r.length : Nat):=oM
  have e2 : ((((r ++ [c]).length : Nat) : Int) - 1).toNat = r.length:=oM
  have e0 : bt (r ++ [c]) ((((r ++ [c]).length : Nat) : Int) - 1).toNat = c.toNat:=by rw [e2];simp [bt,List.getD]
  have hlt : bt (r ++ [c]) ((((r ++ [c]).length : Nat) : Int) - 1).toNat < 256:=gN _ _
  have e3 : (r ++ [c]).take ((((r ++ [c]).length : Nat) : Int) - 1).toNat = r:=by rw [e2];simp
  have Ht2:=Ht.2
  rw [up] at Ht2
  have hne : r ++ [c] ≠ []:=by simp
  by_cases hp : p (bt (r ++ [c]) ((((r ++ [c]).length : Nat) : Int) - 1).toNat) = true
  ·have hp2 : (!p (bt (r ++ [c]) ((((r ++ [c]).length : Nat) : Int) - 1).toNat)) = false:=by rw [hp];rfl
   repeat' (first | refine jM ?_ | (refine jo ?_;(refine af F F F (gK (by (repeat (assumption));done)) rfl ?_;rintro _ _ ⟨rfl,rfl⟩;dsimp only [zA,fA])) | refine ac F (ay oM) ?_ | refine ad F ‹_› ?_)
   refine aY r ⟨oM,by rw [← Ht2,← e0,if_pos hp]⟩ oM ?_ F aZ
   rw [e3];repeat (first | exact trivial | refine ⟨F,?_⟩)
  ·have hp2 : (!p (bt (r ++ [c]) ((((r ++ [c]).length : Nat) : Int) - 1).toNat)) = true:=by simpa using hp
   repeat' (first | refine jM ?_ | (refine jo ?_;(refine af F F F (gK (by (repeat (assumption));done)) rfl ?_;rintro _ _ ⟨rfl,rfl⟩;dsimp only [zA,fA])) | (refine ac F (by first | assumption | (refine decide_eq_true ?_;(omega))) ?_))
   refine aP (vs:=[_]) F ⟨F,trivial⟩ F (List.Sublist.refl _) ⟨F,by rw [← Ht2,← e0,if_neg hp];rfl,rfl⟩
theorem w4 (cs : ac8) (i : Nat) (h : i < cs.length) : (fun x=>eT (cs.take i) x || x == bt cs i) = eT (cs.take (i + 1)):=by
 funext x
 have e : bt cs i = (cs[i]).toNat:=by simp [bt,List.getD,List.getElem?_eq_getElem h]
 have e2 : (x == (cs[i]).toNat) = ((cs[i]).toNat == x):=by rw [Bool.eq_iff_iff,beq_iff_eq,beq_iff_eq];exact eq_comm
 rw [List.take_succ_eq_append_getElem h,e,e2]
 simp only [eT,List.any_append,List.any_cons,List.any_nil,Bool.or_false]
theorem wH {cs : ac8} (h : cs.all (fun c=>decide (c.toNat < 128)) = true) : ∀ i,i < cs.length → bt cs i < 128:=fun i hi=>by
 have e : bt cs i = (cs[i]).toNat:=by simp [bt,List.getD,List.getElem?_eq_getElem hi]
 rw [List.all_eq_true] at h
 rw [e]
 simpa using h cs[i] (List.getElem_mem hi)
theorem kT {cs : ac8} (hc : ∀ i,i < cs.length → bt cs i < 128) (hl : cs.length ≤ 1000) : an ac7 145 [S cs] G (· = Tu [Ag (cA (eT cs)),Bo true]):=by
 refine jE [(0,_)] Tryz.func145 Tryz.ntmps145 fun B hB=>?_
 repeat' (first | refine jR ?_ | (refine jo ?_;refine sM F F fun _=>?_))
 rename_i x
 refine aT (ι:=Nat) (fun i=>i ≤ cs.length) (fun i=>[(0,S cs),(2,Pt x 0),(4,I i)]) (fun _=>G) (fun i=>[.blk x (.cells (cA (eT (cs.take i))).toArray oC (0,0))]) (fun i=>cs.length - i) 0 ?_ tU F aZ (fun i Hi=>?_)
 ·exact Nat.zero_le _
 by_cases hi : i < cs.length
 ·have h1 : bt cs ((i : Int).toNat) < 128:=hc i hi
  have h2 : bt cs ((i : Int).toNat) < 256:=oM
  repeat' (first | refine jM ?_ | (refine jo ?_;first | refine aaZ F F F F aS ?_ | refine jV (rR F F oM) ?_) | refine ac F (ay oM) ?_ | refine ad F (aC oM) ?_)
  refine aY (i + 1) oM oM tU F (by rw [← w4 cs i hi];repeat (exact List.Sublist.refl _))
 ·have ei : i = cs.length:=oM
  subst ei
  repeat' (first | refine jR ?_ | (refine jo ?_;first | refine jV (aaB F F F F) ?_ | refine sq F F F F ?_) | refine ad F (aC oM) ?_)
  refine jZ (vs:=[_,_]) F ⟨abC F F F F,F,trivial⟩ F ⟨F,F,?_⟩
  rw [List.take_length];rfl
theorem wB {s cs : ac8} (h2 : Nat.ble 2 cs.length = true) (hc : cs.all (fun c=>decide (c.toNat < 128)) = true) (hl : Nat.ble cs.length 1000 = true) (hs : s.length ≤ 2000000) : an ac7 107 [S s,S cs] G (· = S (du (eT cs) (eX (eT cs) s))):=by
 have h2:=Nat.le_of_ble_eq_true h2
 have hl:=Nat.le_of_ble_eq_true hl
 have cx_mkas:=kT (G:=G) (wH hc) hl
 by_cases h0 : s = []
 ·subst h0
  refine jE [(0,_),(1,_)] Tryz.func107 Tryz.ntmps107 fun B hB=>?_
  repeat' (first | refine jR ?_ | (refine jo ?_;refine aG F ?_) | refine ax F F F ?_ | refine ac F F ?_)
  all_goals refine jY (vs:=[_]) ?_
  all_goals rfl
 have hn : ¬ cs = []:=by rintro rfl;simp at h2
 have hr:=vp (eT cs) s
 refine jE [(0,_),(1,_)] Tryz.func107 Tryz.ntmps107 fun B hB=>?_
 repeat' (first | refine jR ?_ | (refine jo ?_;first | refine ar F ?_ | refine sM F F fun _=>?_ | refine sq F F F F ?_ | refine ab F F F cx_mkas F ?_ | (refine af F F F (oh oM) F ?_;rintro _ _ ⟨rfl,rfl⟩;dsimp only [zA,fA]) | (refine af F F F kr F ?_;rintro _ _ ⟨rfl,rfl⟩;dsimp only [zA,fA])) | (refine ak F F (by refine decide_eq_false ?_;first | assumption | omega) ?_) | refine ac F F ?_ | (refine ad F (by first | rfl | (refine decide_eq_false ?_;(assumption))) ?_))
 all_goals refine jY (vs:=[_]) ?_
 all_goals rfl
theorem lO {s cs : ac8} (h2 : Nat.ble 2 cs.length = true) (hc : cs.all (fun c=>decide (c.toNat < 128)) = true) (hl : Nat.ble cs.length 1000 = true) : an ac7 123 [S s,S cs] G (· = S (du (eT cs) s)):=by
 have h2:=Nat.le_of_ble_eq_true h2
 have hl:=Nat.le_of_ble_eq_true hl
 have cx_mkas:=kT (G:=G) (wH hc) hl
 by_cases h0 : s = []
 ·subst h0
  refine jE [(0,_),(1,_)] Tryz.func123 Tryz.ntmps123 fun B hB=>?_
  repeat' (first | refine jR ?_ | (refine jo ?_;refine aG F ?_) | refine ax F F F ?_ | refine ac F F ?_)
  all_goals refine jY (vs:=[_]) ?_
  all_goals rfl
 have hn : ¬ cs = []:=by rintro rfl;simp at h2
 refine jE [(0,_),(1,_)] Tryz.func123 Tryz.ntmps123 fun B hB=>?_
 repeat' (first | refine jR ?_ | (refine jo ?_;first | refine ar F ?_ | refine sM F F fun _=>?_ | refine sq F F F F ?_ | refine ab F F F cx_mkas F ?_ | (refine af F F F kr F ?_;rintro _ _ ⟨rfl,rfl⟩;dsimp only [zA,fA])) | (refine ak F F (by refine decide_eq_false ?_;first | assumption | omega) ?_) | refine ac F F ?_ | (refine ad F (by first | rfl | (refine decide_eq_false ?_;(assumption))) ?_))
 all_goals refine jY (vs:=[_]) ?_
 all_goals rfl
theorem qf {p : Nat → Bool} : ∀ {s : ac8},du p s = [] ↔ ∀ c ∈ s,p c.toNat = true
 | []=>by simp [du]
 | c :: r=>by
  unfold du
  by_cases h : p c.toNat = true
  ·rw [if_pos h,qf];simp [h]
  ·rw [if_neg h];simp [h]
theorem vn {p : Nat → Bool} {s : ac8} : (∀ c ∈ eX p s,p c.toNat = true) ↔ ∀ c ∈ s,p c.toNat = true:=by
 have key : ∀ l : ac8,(∀ c ∈ du p l,p c.toNat = true) ↔ ∀ c ∈ l,p c.toNat = true:=by
  intro l
  induction l with
  | nil=>simp [du]
  | cons c r ih =>
   unfold du
   by_cases h : p c.toNat = true
   ·rw [if_pos h,ih];simp [h]
   ·rw [if_neg h]
 unfold eX
 have:=key s.reverse
 simpa using this
theorem rk {p : Nat → Bool} {s : ac8} : du p (eX p s) = [] ↔ ∀ c ∈ s,p c.toNat = true:=by rw [qf,vn]
def uj : ac8:=[97,98,99,100,101,102,103,104,105,106,107,108,109,110,111,112,113,114,115,116,117,118,119,120,121,122]
def rj : ac8:=uj ++ [48,49,50,51,52,53,54,55,56,57,32]
theorem acn (c : UInt8) : eT uj c.toNat = ka c:=by
 have : ∀ n : Nat,n < 256 → eT uj n = decide (97 ≤ n ∧ n ≤ 122):=by decide +kernel
 rw [this _ c.toNat_lt];rfl
theorem abu (c : UInt8) : eT rj c.toNat = decide (iK c.toNat):=by
 have : ∀ n : Nat,n < 256 → eT rj n = decide (iK n):=by decide +kernel
 exact this _ c.toNat_lt
theorem zD (s : ac8) : du (eT uj) (eX (eT uj) s) = [] ↔ s.all ka = true:=by
 rw [rk,List.all_eq_true]
 exact forall_congr' fun c=>forall_congr' fun _=>by rw [acn]
theorem dg {s : ac8} (h : s.length ≤ 2000000) : an ac7 66 [S s] G (· = Bo (ce s)):=by
 have cx_trim:=wB (G:=G) (s:=s) (cs:=uj) rfl kR rfl h
 by_cases hl : 1 ≤ s.length ∧ s.length ≤ 3
 ·refine jE [(0,_)] Tryz.func66 Tryz.ntmps66 fun B hB=>?_
  repeat' (first | refine jR ?_ | (refine jo ?_;first | refine ar F ?_ | refine ab F F F cx_trim F ?_) | refine ak F F (aC oM) ?_ | refine ad F (aC oM) ?_)
  all_goals refine jY (vs:=[_]) ?_
  have:=zD s
  unfold ce
  rw [decide_eq_true hl,Bool.and_true]
  refine congrArg Bo ?_
  rw [Bool.eq_iff_iff]
  simpa using this
 ·have e : ce s = false:=by unfold ce;rw [decide_eq_false hl,Bool.and_false]
  rw [e]
  refine jE [(0,_)] Tryz.func66 Tryz.ntmps66 fun B hB=>?_
  repeat' (first | refine jR ?_ | (refine jo ?_;first | refine aG F ?_ | refine ar F ?_) | refine dN F F (fun _=>?_) (fun _=>?_) | (refine ac F (by first | rfl | (refine decide_eq_true ?_;(omega))) ?_))
  all_goals refine jY (vs:=[_]) ?_
  all_goals rfl
theorem uT (s : ac8) : br s = du (eT [91,63]) s:=by
 induction s with
 | nil=>rfl
 | cons c r ih =>
  have e : eT [91,63] c.toNat = decide (c.toNat = 91 ∨ c.toNat = 63):=by
   have : ∀ n : Nat,n < 256 → eT [91,63] n = decide (n = 91 ∨ n = 63):=by decide +kernel
   exact this _ c.toNat_lt
  unfold br du
  rw [e]
  by_cases h : c.toNat = 91 ∨ c.toNat = 63
  ·simp only [h,if_true,decide_true];exact ih
  ·simp [h]
theorem rL : ∀ {s : ac8},d1 (br s) = d1 s
 | []=>rfl
 | c :: r=>by
  unfold br
  split
  ·rename_i h;rw [rL];conv=>{ rhs;unfold d1 };rw [if_pos h]
  ·rfl
def ew (s : ac8) : List Value:=[S (sg s),S (bs s),S (nm s)]
def wI (s : ac8) (v : Value) : Prop:=∃ a b c,v = Tu [Ag [S a,S b,S c],Bo (bB s)] ∧ (bB s = true → a = sg s ∧ b = bs s ∧ c = nm s)
theorem sP {s p : ac8} (hp : p.length ≤ 1000000000) (hs : s.length ≤ 1000000000) : an ac7 165 [S s,S p] G (· = Bo (decide (p.length ≤ s.length ∧ s.drop (s.length - p.length) = p))):=by
 by_cases h : p.length ≤ s.length
 ·have e : (((s.length : Nat) : Int) - ((p.length : Nat) : Int)).toNat = s.length - p.length:=oM
  refine jE [(0,_),(1,_)] Tryz.func165 Tryz.ntmps165 fun B hB=>?_
  repeat' (first | refine jM ?_ | (refine jo ?_;refine aG F ?_) | refine ax F F (ay oM) ?_)
  all_goals refine jY (vs:=[_]) ?_
  all_goals (rw [e];simp [h];try rfl)
 ·refine jE [(0,_),(1,_)] Tryz.func165 Tryz.ntmps165 fun B hB=>?_
  repeat' (first | refine jR ?_ | (refine jo ?_;refine ar F ?_) | refine ak F F (aC oM) ?_)
  all_goals refine jY (vs:=[_]) ?_
  all_goals (simp [h];try rfl)
theorem nH {s p : ac8} (hp : p.length ≤ 1000000000) (hs : s.length ≤ 1000000000) : an ac7 125 [S s,S p] G (· = Bo (decide (p.length ≤ s.length ∧ s.drop (s.length - p.length) = p))):=by
 refine jE [(0,_),(1,_)] Tryz.func125 Tryz.ntmps125 fun B hB=>?_
 repeat' (first | refine jR ?_ | (refine jo ?_;refine ab F F F (sP oM oM) F ?_))
 all_goals refine jY (vs:=[_]) ?_
 all_goals rfl
theorem zZ {c : UInt8} {r : ac8} : (1 ≤ (c :: r).length ∧ (c :: r).drop ((c :: r).length - 1) = [59]) ↔ bt (c :: r) r.length = 59:=by
 have hl : (c :: r).length - 1 = r.length:=by simp
 rw [hl]
 have hlt : r.length < (c :: r).length:=by simp
 obtain ⟨d,h1,h2⟩:=fS hlt
 rw [h1,h2]
 have h3 : (c :: r).drop (r.length + 1) = []:=by simp
 rw [h3]
 constructor
 ·rintro ⟨_,h⟩;simp only [List.cons.injEq,and_true] at h;rw [h];rfl
 ·intro h;exact ⟨by simp,by rw [show d = 59 from UInt8.toNat_inj.1 h]⟩
theorem mH : ∀ {s : ac8} {c : UInt8} {r : ac8},br s = c :: r → ¬ (c.toNat = 91 ∨ c.toNat = 63)
 | [],c,r,h=>by simp [br] at h
 | d :: s,c,r,h=>by
  unfold br at h
  split at h
  ·exact mH h
  ·rename_i hd
   simp only [List.cons.injEq] at h
   rw [← h.1];exact hd
theorem s9 {s t : ac8} (h : s.length ≤ 12) (ht : br s = t) : an ac7 88 [S s] G (wI s):=by
 have cx_triml : an ac7 123 [S s,S [91,63]] G (· = S t):=by
  rw [← ht,uT]
  exact lO F kR F
 have hcl:=lC s
 rw [ht] at hcl
 have ek : bB s = d1 t:=by unfold bB;rw [decide_eq_true h,Bool.true_and,← ht,rL]
 have esg : s.take (((s.length : Nat) : Int) - ((t.length : Nat) : Int)).toNat = sg s:=by
  unfold sg;rw [ht];congr 1;omega
 have ebs : bs s = px t:=by unfold bs;rw [ht]
 have enm : nm s = (bJ t).getD []:=by unfold nm;rw [ht]
 have hns : ∀ c r,t = c :: r → ¬ (c.toNat = 91 ∨ c.toNat = 63):=fun c r e=>mH (ht.trans e)
 clear ht
 match t,hcl,ek,ebs,enm,cx_triml,esg,hns with
 | [],hcl,ek,ebs,enm,cx_triml,esg,hns =>
  have hno : bB s = false:=by rw [ek];rfl
  have cx_suf:=nH (G:=G) (s:=[]) (p:=[59]) (by simp) (by simp)
  refine jE [(0,_)] Tryz.func88 Tryz.ntmps88 fun B hB=>?_
  repeat' (first | refine jM ?_ | (refine jo ?_;first | refine jL fun _=>?_ | refine jV (al F F) ?_ | refine jC F F F ?_ | refine ar F ?_ | refine ab F F F cx_triml F ?_ | refine ab F F F f2 F ?_) | refine ak F F F ?_ | (refine ad F (by first | rfl | (refine decide_eq_false ?_;(omega))) ?_))
  all_goals refine jZ (vs:=[_,_]) F ⟨aF F F F F,F,trivial⟩ F ⟨F,F,?_⟩
  all_goals exact ⟨[],[],[],by rw [hno];rfl,fun h=>by rw [hno] at h;cases h⟩
 | c :: r,hcl,ek,ebs,enm,cx_triml,esg,hns =>
  by_cases hA : c :: r = [110] ∨ c :: r = [116] ∨ c :: r = [102]
  ·rcases hA with hA | hA | hA
   all_goals (simp only [List.cons.injEq] at hA;obtain ⟨rfl,rfl⟩:=hA)
   all_goals have hyes : bB s = true:=by rw [ek];rfl
   all_goals refine jE [(0,_)] Tryz.func88 Tryz.ntmps88 fun B hB=>?_
   all_goals repeat' (first | refine jM ?_ | (refine jo ?_;first | refine jL fun _=>?_ | refine jV (al F F) ?_ | refine jD F F F ?_ | refine jC F F F ?_ | refine aG F ?_ | refine ar F ?_ | refine aB F ?_ | refine ab F F F cx_triml F ?_) | refine ax F F F ?_ | refine ak F F F ?_ | refine ac F F ?_ | refine ad F (aC oM) ?_)
   all_goals refine jZ (vs:=[_,_]) F ⟨aF F F F F,F,trivial⟩ F ⟨F,F,?_⟩
   all_goals exact ⟨_,_,_,by rw [hyes];rfl,fun _=>⟨esg,by rw [ebs];rfl,by rw [enm];rfl⟩⟩
  simp only [not_or] at hA
  obtain ⟨hA1,hA2,hA3⟩:=hA
  by_cases hc : c = 64
  case neg =>
   have hc' : ¬ c.toNat = 64:=fun h=>hc (UInt8.toNat_inj.1 h)
   have hno : bB s = false:=by
    rw [ek,d1,if_neg (hns c r rfl),if_neg hc']
    by_cases hr : r = []
    ·subst hr
     have n1 : ¬ c.toNat = 110:=fun h=>hA1 (by rw [show c = 110 from UInt8.toNat_inj.1 h])
     have n2 : ¬ c.toNat = 116:=fun h=>hA2 (by rw [show c = 116 from UInt8.toNat_inj.1 h])
     have n3 : ¬ c.toNat = 102:=fun h=>hA3 (by rw [show c = 102 from UInt8.toNat_inj.1 h])
     simp [n1,n2,n3]
    ·simp [hr]
   have hp : ([64] : ac8).isPrefixOf (c :: r) = false:=by simp [List.isPrefixOf];exact fun h=>hc h.symm
   refine jE [(0,_)] Tryz.func88 Tryz.ntmps88 fun B hB=>?_
   repeat' (first | refine jM ?_ | (refine jo ?_;first | refine jL fun _=>?_ | refine jV (al F F) ?_ | refine jC F F F ?_ | refine ar F ?_ | refine ab F F F cx_triml F ?_ | refine ab F F F f2 F ?_) | (refine ak F F (by first | assumption | (refine decide_eq_false ?_;(assumption))) ?_) | (refine ad F (by first | rfl | (refine decide_eq_false ?_;first | assumption | omega)) ?_))
   all_goals refine jZ (vs:=[_,_]) F ⟨aF F F F F,F,trivial⟩ F ⟨F,F,?_⟩
   all_goals exact ⟨[],[],[],by rw [hno];rfl,fun h=>by rw [hno] at h;cases h⟩
  subst hc
  have hp : ([64] : ac8).isPrefixOf (64 :: r) = true:=by simp [List.isPrefixOf]
  have hsuf:=nH (G:=G) (s:=64 :: r) (p:=[59]) (by simp) (by simp at hcl ⊢;omega)
  have ek2 : bB s = (decide (bt (64 :: r) r.length = 59) && ce (r.take (r.length - 1))):=by
   rw [ek,d1,if_neg dC,if_pos dC]
   congr 1
   refine decide_eq_decide.2 ?_
   omega
  have hsb:=zZ (c:=64) (r:=r)
  by_cases hb : bt (64 :: r) r.length = 59
  case neg =>
   have cx_suf : an ac7 125 [S (64 :: r),S [59]] G (· = Bo false):=by
    have e : decide (([59] : ac8).length ≤ (64 :: r : ac8).length ∧ (64 :: r : ac8).drop ((64 :: r : ac8).length - ([59] : ac8).length) = [59]) = false:=decide_eq_false fun h=>hb (hsb.1 h)
    rwa [e] at hsuf
   have hno : bB s = false:=by rw [ek2,decide_eq_false hb,Bool.false_and]
   refine jE [(0,_)] Tryz.func88 Tryz.ntmps88 fun B hB=>?_
   repeat' (first | refine jM ?_ | (refine jo ?_;first | refine jL fun _=>?_ | refine jV (al F F) ?_ | refine jC F F F ?_ | refine aG F ?_ | refine ar F ?_ | refine ab F F F cx_triml F ?_ | refine ab F F F f2 F ?_ | refine ab F F F cx_suf F ?_) | refine ax F F F ?_ | refine ak F F F ?_ | (refine ad F (by first | rfl | (refine decide_eq_false ?_;(omega))) ?_))
   all_goals refine jZ (vs:=[_,_]) F ⟨aF F F F F,F,trivial⟩ F ⟨F,F,?_⟩
   all_goals exact ⟨[],[],[],by rw [hno];rfl,fun h=>by rw [hno] at h;cases h⟩
  have cx_suf : an ac7 125 [S (64 :: r),S [59]] G (· = Bo true):=by
   have e : decide (([59] : ac8).length ≤ (64 :: r : ac8).length ∧ (64 :: r : ac8).drop ((64 :: r : ac8).length - ([59] : ac8).length) = [59]) = true:=decide_eq_true (hsb.2 hb)
   rwa [e] at hsuf
  have hr : 1 ≤ r.length:=by
   cases r with
   | nil=>exact absurd hb dC
   | cons=>simp
  have hl2 : (64 :: r : ac8).length = r.length + 1:=rfl
  have e1 : ((64 :: r : ac8).take ((((64 :: r : ac8).length : Nat) : Int) - 1).toNat).drop (Int.toNat 1) = r.take (r.length - 1):=by
   have e2 : ((((64 :: r : ac8).length : Nat) : Int) - 1).toNat = (r.length - 1) + 1:=oM
   rw [e2,List.take_succ_cons];rfl
  have hyes : bB s = ce (r.take (r.length - 1)):=by rw [ek2,decide_eq_true hb,Bool.true_and]
  have cx_isnm : an ac7 66 [S (((64 :: r : ac8).take ((((64 :: r : ac8).length : Nat) : Int) - 1).toNat).drop (Int.toNat 1))] G (· = Bo (ce (r.take (r.length - 1)))):=by
   rw [e1];exact dg (by simp at hcl ⊢;omega)
  refine jE [(0,_)] Tryz.func88 Tryz.ntmps88 fun B hB=>?_
  repeat' (first | refine jM ?_ | (refine jo ?_;first | refine jL fun _=>?_ | refine jV (al F F) ?_ | refine jD F F F ?_ | refine jC F F F ?_ | refine aG F ?_ | refine ar F ?_ | refine ab F F F cx_triml F ?_ | refine ab F F F f2 F ?_ | refine ab F F F cx_suf F ?_) | refine ax F F F ?_ | refine ak F F F ?_ | refine ac F F ?_ | (refine ad F (by first | rfl | (refine decide_eq_false ?_;(omega))) ?_) | (refine aj (dY (id:=11) (tt:=2) F ai ?_);refine jW 5 [1] (aa 6 2) ?_;(refine jG (aa 6 3) 0 F (bD F F F F) ?_);(refine jG (aa 6 7) 2 F (aq F F F) ?_);refine jA 3 F ?_;(refine ab F F F cx_isnm F ?_);refine jK (aa 6 15) ?_;refine jA 4 F ?_;(refine jC F F F ?_);refine jK (aa 6 31) ?_;refine jW 0 [5] (aa 6 63) ?_;refine jQ ?_))
  all_goals refine jZ (vs:=[_,_]) F ⟨aF F F F F,F,trivial⟩ F ⟨F,F,?_⟩
  all_goals exact ⟨_,_,_,by rw [hyes];rfl,fun _=>⟨esg,by rw [ebs];rfl,by rw [enm,e1];rfl⟩⟩
theorem lJ {s : ac8} (h : s.length ≤ 2000000) : an ac7 88 [S s] G (wI s):=by
 by_cases hl : s.length ≤ 12
 ·exact s9 hl F
 have e : bB s = false:=by unfold bB;rw [decide_eq_false hl,Bool.false_and]
 refine jE [(0,_)] Tryz.func88 Tryz.ntmps88 fun B hB=>?_
 repeat' (first | refine jR ?_ | (refine jo ?_;first | refine jL fun _=>?_ | refine jV (al F F) ?_ | refine jC F F F ?_) | refine ac F (ay oM) ?_)
 all_goals refine jZ (vs:=[_,_]) F ⟨aF F F F F,F,trivial⟩ F ⟨F,F,?_⟩
 all_goals exact ⟨[],[],[],by rw [e];rfl,fun h=>by rw [e] at h;cases h⟩
theorem vk {c : UInt8} (h : 48 ≤ c.toNat) : u8 (48 + ((c.toNat : Int) - 48)) = c:=by
 apply UInt8.toNat_inj.1
 have h2:=c.toNat_lt
 have:=ep (a:=48 + ((c.toNat : Int) - 48)) oM
 omega
theorem sf : ∀ {s : ac8} {n m : Int},1 ≤ n → c8 n s = some m → bz m = bz n ++ s ∧ n ≤ m
 | [],n,m,h0,h=>by simp only [c8,Option.some.injEq] at h;subst h;simp
 | c :: r,n,m,h0,h=>by
  unfold c8 at h
  split at h
  ·rename_i hc
   have ih:=sf (s:=r) oM h
   refine ⟨?_,oM⟩
   have e1 : (10 * n + ((c.toNat : Int) - 48)) / 10 = n:=oM
   have e2 : (10 * n + ((c.toNat : Int) - 48)) % 10 = (c.toNat : Int) - 48:=oM
   rw [ih.1,iY (n:=10 * n + ((c.toNat : Int) - 48)) oM,e1,e2,vk hc.1];simp
  ·cases h
theorem mF : ∀ (k : Nat) {m : Int},m.toNat ≤ k → 1 ≤ m → ∃ c r,bz m = c :: r ∧ c.toNat ≠ 48
 | 0,m,h,h1=>by omega
 | k + 1,m,h,h1=>by
  by_cases hm : m < 10
  ·refine ⟨_,[],dH hm oM,?_⟩
   have:=ep (a:=48 + m) oM
   omega
  ·obtain ⟨c,r,e,hc⟩:=mF k (m:=m / 10) oM oM
   exact ⟨c,r ++ [u8 (48 + m % 10)],by rw [iY hm,e];rfl,hc⟩
theorem pZ : ∀ {s : ac8} {n m : Int},0 ≤ n → c8 n s = some m → 0 ≤ m
 | [],n,m,h0,h=>by simp only [c8,Option.some.injEq] at h;omega
 | c :: r,n,m,h0,h=>by
  unfold c8 at h
  split at h
  ·exact pZ (s:=r) oM h
  ·cases h
theorem tT {c : UInt8} {r : ac8} {m : Int} (h : c8 0 (c :: r) = some m) : c :: r = bz m ↔ ¬ (c.toNat = 48 ∧ r ≠ []):=by
 have h':=h
 unfold c8 at h
 split at h
 ·rename_i hc
  by_cases h0 : c.toNat = 48
  ·have e0 : (10 * 0 + ((c.toNat : Int) - 48)) = 0:=oM
   rw [e0] at h
   constructor
   ·rintro e ⟨_,hr⟩
    have hm:=pZ (Int.le_refl 0) h
    rcases Int.lt_or_le m 1 with h1 | h1
    ·have : m = 0:=oM
     subst this
     rw [dH oM oM] at e
     simp only [List.cons.injEq] at e
     exact hr e.2
    ·obtain ⟨d,t,e2,hd⟩:=mF m.toNat (Nat.le_refl _) h1
     rw [e2] at e
     simp only [List.cons.injEq] at e
     exact hd (by rw [← e.1];exact h0)
   ·intro hn
    have hr : r = []:=by
     by_cases hr : r = []
     ·exact hr
     ·exact absurd ⟨h0,hr⟩ hn
    subst hr
    simp only [c8,Option.some.injEq] at h
    subst h
    rw [dH oM oM]
    congr 1
    apply UInt8.toNat_inj.1
    have:=ep (a:=48 + 0) oM
    omega
  ·have:=sf oM h
   rw [this.1,dH oM oM]
   have e : (10 * 0 + ((c.toNat : Int) - 48)) = (c.toNat : Int) - 48:=oM
   rw [e,vk hc.1]
   simp [h0]
 ·cases h
theorem g9 {s : ac8} {top : Int} (h : s.length ≤ 100000000) : an ac7 135 [S s,I top] G (fun v=>∃ n,v = Tu [I n,Bo (aR s top).isSome] ∧ (∀ m,aR s top = some m → n = m) ∧ 0 ≤ n ∧ n ≤ 999999):=by
  by_cases hl : 1 ≤ s.length ∧ s.length ≤ 6
  case neg =>
    have hno : aR s top = none:=by
      unfold aR
      by_cases h6 : s.length ≤ 6
      · have : s = []:=List.length_eq_zero_iff.1 oM
        subst this
        rw [if_pos (by simp)]
        simp [c8,dH]
      · rw [if_neg h6]
    refine jE [(0,_),(1,_)] Tryz.func135 Tryz.ntmps135 fun B hB=>?_
    repeat' (first | refine jR ?_ | (refine jo ?_;first | refine aG F ?_ | refine ar F ?_) | (refine ax F F (by first | rfl | (refine decide_eq_true ?_;(omega))) ?_) | refine dN F F (fun _=>?_) (fun _=>?_) | refine ac F F ?_)
    all_goals refine jY (vs:=[_,_]) ?_
    all_goals exact ⟨_,by rw [hno];rfl,fun m hm=>(by rw [hno] at hm;cases hm),by decide,by decide⟩
  by_cases hz : bt s 0 = 48 ∧ 1 < s.length
  · have hz0 : bt s (Int.toNat 0) = 48:=hz.1
    have hno : aR s top = none:=by
      match s,hz,hl with
      | c :: r,hz,hl =>
        unfold aR
        rw [if_pos hl.2]
        split
        · rename_i n hn
          rw [if_neg]
          rintro ⟨e,_⟩
          rw [bi] at hz
          exact (tT hn).1 e ⟨hz.1,by rintro rfl;simp at hz⟩
        · rfl
    refine jE [(0,_),(1,_)] Tryz.func135 Tryz.ntmps135 fun B hB=>?_
    repeat' (first | refine jM ?_ | (refine jo ?_;first | refine aG F ?_ | refine ar F ?_) | refine ax F F (ay oM) ?_ | refine ak F F (aC oM) ?_ | refine ac F (ay oM) ?_)
    all_goals refine jY (vs:=[_,_]) ?_
    all_goals exact ⟨_,by rw [hno];rfl,fun m hm=>(by rw [hno] at hm;cases hm),by decide,by decide⟩
  have hz0 : ¬ (bt s (Int.toNat 0) = 48 ∧ 1 < s.length):=hz
  have key : aR s top = match c8 0 s with
      | some n=>if n ≤ top then some n else none
      | none=>none:=by
    match s,hz,hl with
    | c :: r,hz,hl =>
      unfold aR
      rw [if_pos hl.2]
      cases hd : c8 0 (c :: r) with
      | some n =>
        have hn:=hd
        have : c :: r = bz n:=(tT hn).2 (by rw [bi] at hz;rintro ⟨h1,h2⟩;exact hz ⟨h1,by have:=List.length_pos_iff.2 h2;simp;omega⟩)
        dsimp only
        rw [← this]
        simp
      | none=>rfl
  refine jE [(0,_),(1,_)] Tryz.func135 Tryz.ntmps135 fun B hB=>?_
  repeat' (first | refine jM ?_ | (refine jo ?_;first | refine aG F ?_ | refine ar F ?_) | refine ak F F (aC oM) ?_ | refine dN F F (fun _=>?_) (fun _=>?_) | (refine ad F (by first | rfl | (refine decide_eq_false ?_;(omega))) ?_))
  all_goals (refine aT (ι:=Nat × Int) (fun i=>(i.1 ≤ s.length ∧ i.1 ≤ 6) ∧ (0 ≤ i.2 ∧ i.2 + 1 ≤ 10 ^ i.1) ∧ c8 i.2 (s.drop i.1) = c8 0 s) (fun i=>[(0,S s),(1,I top),(6,I i.2),(27,I s.length),(28,I i.1)]) (fun _=>G) (fun i=>[]) (fun i=>s.length - i.1) (0,0) ?_ tU F aZ (fun i Hi=>?_))
  all_goals (first | exact ⟨⟨by dsimp only;omega,by dsimp only;omega⟩,⟨by dsimp only;omega,by dsimp only;decide⟩,rfl⟩ | skip)
  all_goals obtain ⟨i,n⟩:=i
  all_goals dsimp only at Hi ⊢
  all_goals by_cases hi : i < s.length
  all_goals first
    | (obtain ⟨c,hc1,hc2⟩:=fS hi
       have hc3 : bt s ((i : Int).toNat) = c.toNat:=hc2
       have hd:=Hi.2.2
       rw [hc1,c8] at hd
       have h5 : i ≤ 5:=oM
       have hp:=wW i h5
       by_cases hdig : 48 ≤ c.toNat ∧ c.toNat ≤ 57
       · rw [if_pos hdig] at hd
         repeat' (first | refine jM ?_ | (refine jo ?_;refine ar F ?_) | refine ak F F (aC oM) ?_ | refine ac F (ay oM) ?_ | refine ad F (aC oM) ?_)
         refine aY (i + 1,10 * n + ((c.toNat : Int) - 48)) ⟨⟨by dsimp only;omega,by dsimp only;omega⟩,⟨by dsimp only;omega,by dsimp only;rw [hp.1];omega⟩,hd⟩ (by dsimp only;omega) ?_ rfl aZ
         rw [← hc2];repeat (first | exact trivial | refine ⟨F,?_⟩)
       · rw [if_neg hdig] at hd
         have hno : aR s top = none:=by rw [key,← hd]
         repeat' (first | refine jM ?_ | (refine jo ?_;first | refine aG F ?_ | refine ar F ?_) | refine dN F F (fun _=>?_) (fun _=>?_) | (refine ac F (by first | rfl | (refine decide_eq_true ?_;(omega))) ?_))
         all_goals refine jY (vs:=[_,_]) ?_
         all_goals exact ⟨_,by rw [hno];rfl,fun m hm=>(by rw [hno] at hm;cases hm),by decide,by decide⟩)
    | (have ei : i = s.length:=oM
       have hd:=Hi.2.2
       rw [ei,List.drop_length,c8] at hd
       have hno : aR s top = if n ≤ top then some n else none:=by rw [key,← hd]
       repeat' (first | refine jR ?_ | refine ad F (aC oM) ?_)
       refine jY (vs:=[_,_]) ?_
       have hp6 : ∀ i : Nat,i ≤ 6 → (10 : Int) ^ i ≤ 1000000:=by decide
       have hp7:=hp6 i oM
       have hlo:=Hi.2.1.1
       have hhi:=Hi.2.1.2
       refine ⟨n,?_,fun m hm=>?_,oM,oM⟩
       · rw [hno,dM]
         by_cases ht : n ≤ top
         · rw [if_pos ht,decide_eq_true ht];rfl
         · rw [if_neg ht,decide_eq_false ht];rfl
       · rw [hno] at hm
         split at hm
         · exact Option.some.inj hm
         · cases hm)
theorem fj {s : ac8} {top : Int} (h : s.length ≤ 100000000) : an ac7 135 [S s,I top] G (fun v=>∃ n,v = Tu [I n,Bo (aR s top).isSome] ∧ (∀ m,aR s top = some m → n = m)):=by
 refine (g9 (G:=G) h).mono ?_
 rintro v G' L' ⟨h1,h2,n,h3,h4,_⟩
 exact ⟨h1,h2,n,h3,h4⟩
theorem wu : ∀ (k : Nat) {n : Int},n.toNat ≤ k → 0 ≤ n ∧ n ≤ 9223372036854775807 → an ac7 91 [I n] G (· = S (bz n)):=by
 intro k
 induction k with
 | zero =>
  intro n hk hn
  have h1 : n < 10:=oM
  refine jE [(0,_)] Tryz.func91 Tryz.ntmps91 fun B hB=>?_
  repeat' (first | refine jM ?_ | (refine jo ?_;first | refine jF fun _=>?_ | refine jV (cX F F (by (repeat (first | exact BL.nil | apply BL.cons));done)) ?_) | refine ac F (ay ‹_›) ?_)
  refine jY (vs:=[_]) ?_
  rw [aw,dH h1 hn.1]
 | succ k ih =>
  intro n hk hn
  have hl:=gi (n:=n / 10) oM
  have hl2:=gi (n:=n % 10) oM
  by_cases h1 : n < 10
  ·refine jE [(0,_)] Tryz.func91 Tryz.ntmps91 fun B hB=>?_
   repeat' (first | refine jM ?_ | (refine jo ?_;first | refine jF fun _=>?_ | refine jV (cX F F (by (repeat (first | exact BL.nil | apply BL.cons));done)) ?_) | refine ac F (ay ‹_›) ?_)
   refine jY (vs:=[_]) ?_
   rw [aw,dH h1 hn.1]
  ·refine jE [(0,_)] Tryz.func91 Tryz.ntmps91 fun B hB=>?_
   repeat' (first | refine jM ?_ | (refine jo ?_;(refine ab F F F (ih oM ?_) F ?_;focus omega)) | refine ad F (aC ‹_›) ?_)
   all_goals refine jY (vs:=[_]) ?_
   all_goals rw [aw,iY (n:=n) h1,dH (n:=n % 10) oM oM]
theorem fV {n : Int} (hn : 0 ≤ n ∧ n ≤ 9223372036854775807) : an ac7 91 [I n] G (· = S (bz n)):=wu n.toNat (Nat.le_refl _) hn
theorem lB (c : UInt8) : ∀ s acc : ac8,(dI c.toNat acc s).length = s.count c + 1
 | [],acc=>by simp [dI]
 | d :: r,acc=>by
  unfold dI
  by_cases h : d = c
  ·subst h
   rw [if_pos rfl,List.length_cons,lB d r []];simp
  ·have h2 : ¬ d.toNat = c.toNat:=fun e=>h (UInt8.toNat_inj.1 e)
   rw [if_neg h2,lB c r _,List.count_cons];simp [h]
theorem zz {s : ac8} {c : UInt8} : an ac7 211 [S s,S [c]] G (· = I (((bc c.toNat s).length : Int) - 1)):=by
 have hx : ∀ w,(callFunc 219 [S s,U8 (bt [c] (Int.toNat 0))].toArray).run ac7 w = .ok (.value (I (((bc c.toNat s).length : Int) - 1))) w:=fun w=>by
  rw [show bt [c] (Int.toNat 0) = c.toNat from bi c []]
  rw [run_callFunc_extern Tryz.func219 kR kR kR (e:=Extern.BytealgCount.count) kR]
  have:=Lib.run_countString (P:=ac7) ⟨s.toArray⟩ (c.toNat : Int) w
  rw [this]
  simp only [Result.andThen]
  have e : (bc c.toNat s).length = s.count c + 1:=lB c s []
  rw [e]
  simp [Lib.countByte]
 refine jE [(0,_),(1,_)] Tryz.func211 Tryz.ntmps211 fun B hB=>?_
 repeat' (first | refine jX ?_ | refine ac F F ?_ | refine ad F F ?_)
 refine uG F (kx (nZ F F F hx) F F ?_)
 repeat' (refine jR ?_)
 refine jY (vs:=[_]) ?_
 rfl
theorem u6 {s : ac8} {c : UInt8} (hs : s.length ≤ 100000000) : bn ac7 188 [S s,S [c],I 0,I (-1)] G (fun v G'=>be G' v 1 (bc c.toNat s).length (aE dG (bc c.toNat s))):=by
 have hlen:=kj (k:=c.toNat) (s:=s)
 have hpos:=dU (k:=c.toNat) (s:=s)
 have emin : min (((bc c.toNat s).length : Int) - 1 + 1) ((s.length : Int) + 1) = ((bc c.toNat s).length : Nat):=oM
 refine jB [(0,_),(1,_),(2,_),(3,_)] Tryz.func188 Tryz.ntmps188 fun B hok hB hW=>?_
 repeat' (first | refine jM ?_ | (refine jo ?_;first | refine jV (uK F F) ?_ | refine ab F F F zz F ?_) | refine ac F F ?_ | refine ad F F ?_)
 rw [emin]
 repeat' (first | refine jM ?_ | (refine jo ?_;refine acV F F F F oM (fun _=>?_)))
 rename_i x
 refine aT (ι:=List ac8 × ac8) (fun i=>i.1.length + i.2.length ≤ s.length ∧ i.1.length < (bc c.toNat s).length ∧ i.1 ++ bc c.toNat i.2 = bc c.toNat s) (fun i=>[(0,S i.2),(1,S [c]),(2,I 0),(3,I (((bc c.toNat s).length : Int) - 1)),(9,.slice (some ⟨x,0,none⟩) (bc c.toNat s).length (bc c.toNat s).length),(10,I (i.1.length : Nat))]) (fun _=>G) (fun i=>[.blk x (.cells (aE dG i.1 ++ bT [S []] ((bc c.toNat s).length - i.1.length)).toArray ky (0,0))]) (fun i=>(bc c.toNat s).length - i.1.length) ([],s) ?_ tU F aZ (fun i Hi=>?_)
 ·exact ⟨by simp,hpos,F⟩
 obtain ⟨xs,t⟩:=i
 dsimp only at Hi ⊢
 obtain ⟨hl,hlt,he⟩:=Hi
 have hel:=congrArg List.length he
 rw [List.length_append] at hel
 rcases pa c.toNat t with ⟨h1,h2⟩ | ⟨m,h1,h3,h2⟩
 ·have hc1 : bc c.toNat t = [t]:=by rw [lA,h2];rfl
  rw [hc1] at he hel
  simp only [List.length_cons,List.length_nil] at hel
  have hm : (bc c.toNat s).length - xs.length = 1:=oM
  rw [hm]
  repeat' (first | refine jM ?_ | (refine jo ?_;first | refine jV (aA F F oM) ?_ | (refine wa F F F oM ?_ ?_;focus omega) | refine jV (rP F F oM) ?_) | refine ad F (aC oM) ?_)
  refine Nx.sealC (b:=x) fun G' hle hseg=>?_
  refine jZ (vs:=[_]) F ⟨F,trivial⟩ F ⟨hle,F,?_⟩
  have e1 : (((xs.length : Nat) : Int) + 1).toNat = (bc c.toNat s).length:=oM
  have e2 : aE dG (xs ++ [t]) ++ bT [S []] (1 - 1) = aE dG (bc c.toNat s):=by rw [he];simp [bT]
  rw [aw,e1]
  rw [e2] at hseg
  exact ⟨by rw [rq],.inr ⟨_,_,_,F,Nat.le_refl _,hseg⟩⟩
 ·have hc1 : bc c.toNat t = t.take m :: bc c.toNat (t.drop (m + 1)):=by rw [lA,h2];rfl
  rw [hc1] at he hel
  have hp2:=dU (k:=c.toNat) (s:=t.drop (m + 1))
  simp only [List.length_cons] at hel
  have cx_ix : an ac7 187 [S t,S [c]] G (· = I (m : Int)):=by have:=ug (G:=G) (s:=t) (c:=c);rwa [h1] at this
  obtain ⟨k,hk⟩ : ∃ k,(bc c.toNat s).length - xs.length = k + 1:=⟨(bc c.toNat s).length - xs.length - 1,oM⟩
  have hk2 : (bc c.toNat s).length = xs.length + k + 1:=oM
  rw [hk]
  generalize (bc c.toNat s).length = N at *
  repeat' (first | refine jX ?_ | (refine jo ?_;first | refine jV (aA F F oM) ?_ | (refine wa F F F oM ?_ ?_;focus omega) | refine ab F F F cx_ix F ?_) | refine ac F (ay oM) ?_ | refine ad F F ?_)
  have e1 : aE dG (xs ++ [t.take ((m : Int) + 0).toNat]) ++ bT [S []] (k + 1 - 1) = aE dG (xs ++ [t.take m]) ++ bT [S []] (N - (xs ++ [t.take m]).length):=by
   have e2 : N - (xs ++ [t.take m]).length = k + 1 - 1:=by simp;omega
   rw [e2]
   have e3 : ((m : Int) + 0).toNat = m:=oM
   rw [e3]
  have e4 : ((m : Int) + (([c] : ac8).length : Nat)).toNat = m + 1:=by simp only [List.length_cons,List.length_nil];omega
  have e5 : ((xs.length : Nat) : Int) + 1 = ((xs ++ [t.take m]).length : Nat):=by simp
  rw [e1,e4,e5]
  refine aY (xs ++ [t.take m],t.drop (m + 1)) ⟨by simp;omega,by simp;omega,by simpa using he⟩ (by simp;omega) tU rfl aZ
theorem zx {s : ac8} {c : UInt8} (hs : s.length ≤ 100000000) : bn ac7 162 [S s,S [c]] G (fun v G'=>be G' v 1 (bc c.toNat s).length (aE dG (bc c.toNat s))):=by
 have cx_gs:=u6 (G:=G) (c:=c) hs
 refine jB [(0,_),(1,_)] Tryz.func162 Tryz.ntmps162 fun B hok hB hW=>?_
 repeat' (first | refine jR ?_ | (refine jo ?_;(refine aK F F F cx_gs F ?_;rintro _ G hle hspl;skip)))
 all_goals refine jZ (vs:=[_]) F ⟨F,trivial⟩ F ⟨hle,F,?_⟩
 all_goals exact hspl
def jl (f : Fld) : List Value:=[I f.tag,S f.name,S (sg f.kind),S (bs f.kind),S (nm f.kind),S f.stand]
instance : RowF jl 6:=⟨fun _=>rfl⟩
theorem yo (s : ac8) : du (eT rj) (eX (eT rj) s) = [] ↔ ∀ c ∈ s,iK c.toNat:=by
 rw [rk]
 exact forall_congr' fun c=>forall_congr' fun _=>by rw [abu];simp
def mv (s : ac8) : Bool:=decide (s.length ≤ 12) && s.all fun c=>decide (iK c.toNat)
theorem ju {s : ac8} (h : s.length ≤ 2000000) : an ac7 137 [S s] G (· = Bo (mv s)):=by
 have cx_trim:=wB (G:=G) (s:=s) (cs:=rj) rfl kR rfl h
 have key:=yo s
 have e : mv s = (decide (s.length ≤ 12) && decide (du (eT rj) (eX (eT rj) s) = [])):=by
  unfold mv
  congr 1
  rw [Bool.eq_iff_iff,List.all_eq_true,decide_eq_true_eq,key]
  simp
 rw [e]
 by_cases hl : s.length ≤ 12
 ·rw [decide_eq_true hl,Bool.true_and]
  refine jE [(0,_)] Tryz.func137 Tryz.ntmps137 fun B hB=>?_
  repeat' (first | refine jR ?_ | (refine jo ?_;first | refine aG F ?_ | refine ab F F F cx_trim F ?_) | refine ax F F (ay oM) ?_)
  all_goals refine jY (vs:=[_]) ?_
  all_goals rfl
 ·rw [decide_eq_false hl,Bool.false_and]
  refine jE [(0,_)] Tryz.func137 Tryz.ntmps137 fun B hB=>?_
  repeat' (first | refine jR ?_ | (refine jo ?_;refine ar F ?_) | refine ak F F (aC oM) ?_)
  all_goals refine jY (vs:=[_]) ?_
  all_goals rfl
theorem tI {s : ac8} : (df s && decide (s ≠ [39,39])) = (decide (2 < s.length) && (decide (bt s 0 = 39) && (decide (bt s (s.length - 1) = 39) && mv ((s.take (s.length - 1)).drop 1)))):=by
 rw [Bool.eq_iff_iff]
 simp only [Bool.and_eq_true,decide_eq_true_eq,df,mv,List.all_eq_true]
 constructor
 ·rintro ⟨⟨h1,h2,h3,h4⟩,h5⟩
  have hl : 2 < s.length:=by
   rcases Nat.lt_or_ge 2 s.length with h6 | h6
   ·exact h6
   ·exfalso
    match s,h1,h6,h2,h3 with
    | [a,b],_,_,h2,h3 =>
     rw [bi] at h2
     simp only [List.length_cons,List.length_nil] at h3
     rw [show (0 + 1 + 1 - 1) = 0 + 1 from rfl,dW,bi] at h3
     have e1 : a = 39:=UInt8.toNat_inj.1 h2
     have e2 : b = 39:=UInt8.toNat_inj.1 h3
     subst e1;subst e2;exact h5 F
  refine ⟨hl,h2,h3,by simp;omega,fun c hc=>?_⟩
  obtain ⟨i,hi,rfl⟩:=List.mem_iff_getElem.1 hc
  simp only [List.length_drop,List.length_take] at hi
  have e : bt s (i + 1) = (((s.take (s.length - 1)).drop 1)[i]'(by simp;omega)).toNat:=by
   simp [bt,List.getD,List.getElem?_eq_getElem (show i + 1 < s.length by omega)]
  rw [← e]
  rcases h4 (i + 1) oM with h6 | h6
  ·omega
  ·exact h6
 ·rintro ⟨hl,h2,h3,h4,h5⟩
  simp only [List.length_drop,List.length_take] at h4
  refine ⟨⟨oM,h2,h3,fun i hi=>?_⟩,fun e=>by subst e;simp at hl⟩
  rcases Nat.eq_zero_or_pos i with h6 | h6
  ·exact .inl h6
  ·refine .inr ?_
   have e : bt s i = (((s.take (s.length - 1)).drop 1)[i - 1]'(by simp;omega)).toNat:=by
    have e1 : i - 1 + 1 = i:=oM
    simp [bt,List.getD,List.getElem?_eq_getElem (show i < s.length by omega),e1]
   rw [e]
   exact h5 _ (List.getElem_mem _)
theorem pn {b v : ac8} (h : v.length ≤ 2000000) : an ac7 189 [S b,S v] G (· = Bo (bK b v)):=by
 by_cases h1 : b = [110]
 ·have e : bK b v = ((aR v 999999).isSome && decide (v ≠ [48])):=by rw [bK,if_pos h1]
  rw [e]
  rcases hn : aR v 999999 with _ | m
  ·refine jE [(0,_),(1,_)] Tryz.func189 Tryz.ntmps189 fun B hB=>?_
   repeat' (first | refine jR ?_ | (refine jo ?_;first | refine ar F ?_ | (refine cN F F F (fj oM) F ?_;rintro _ ⟨n,rfl,hnum⟩)) | (refine ak F F ?_ ?_;(focus ((simp [*];done);done))) | refine ac F (ay ‹_›) ?_)
   all_goals refine jY (vs:=[_]) ?_
   all_goals (simp [*])
  ·have hm:=ee hn
   have h0 : 0 ≤ m:=by
    unfold aR at hn
    split at hn
    ·split at hn
     ·rename_i hd
      split at hn
      ·simp only [Option.some.injEq] at hn;subst hn;exact pZ (Int.le_refl 0) hd
      ·cases hn
     ·cases hn
    ·cases hn
   have ev : decide (v ≠ [48]) = decide (0 < m):=by
    refine decide_eq_decide.2 ?_
    rw [hm.2.1]
    constructor
    ·intro h2
     rcases Int.lt_or_le 0 m with h3 | h3
     ·exact h3
     ·have : m = 0:=oM
      subst this
      exact absurd (by rw [dH oM oM];rfl) h2
    ·intro h2 h3
     obtain ⟨c,r,e2,hc⟩:=mF m.toNat (Nat.le_refl _) oM
     rw [e2] at h3
     simp only [List.cons.injEq] at h3
     exact hc (by rw [h3.1];rfl)
   have cx_pnum : an ac7 135 [S v,I 999999] G (· = Tu [I m,Bo true]):=by
    refine (fj (G:=G) (top:=999999) (s:=v) oM).mono ?_
    rintro w G' L' ⟨h2,h3,n,rfl,h4⟩
    exact ⟨h2,h3,by rw [hn,h4 m hn];rfl⟩
   rw [ev]
   refine jE [(0,_),(1,_)] Tryz.func189 Tryz.ntmps189 fun B hB=>?_
   repeat' (first | refine jR ?_ | (refine jo ?_;first | refine aG F ?_ | refine ab F F F cx_pnum F ?_) | refine ax F F F ?_ | refine ac F (ay ‹_›) ?_)
   all_goals refine jY (vs:=[_]) ?_
   all_goals (simp [*])
 by_cases h2 : b = [116]
 ·have e : bK b v = (df v && decide (v ≠ [39,39])):=by rw [bK,if_neg h1,if_pos h2]
  rw [e,tI]
  have e4 : (((v.length : Nat) : Int) - 1).toNat = v.length - 1:=oM
  by_cases hl : 2 < v.length
  case neg =>
   rw [decide_eq_false hl,Bool.false_and]
   refine jE [(0,_),(1,_)] Tryz.func189 Tryz.ntmps189 fun B hB=>?_
   repeat' (first | refine jR ?_ | (refine jo ?_;refine ar F ?_) | (refine ak F F (by first | rfl | (refine decide_eq_false ?_;(omega))) ?_) | refine ac F (ay ‹_›) ?_ | refine ad F (aC ‹_›) ?_)
   all_goals refine jY (vs:=[_]) ?_
   all_goals rfl
  rw [decide_eq_true hl,Bool.true_and]
  by_cases hq : bt v 0 = 39
  case neg =>
   have hq2 : ¬ bt v (Int.toNat 0) = 39:=hq
   rw [decide_eq_false hq,Bool.false_and]
   refine jE [(0,_),(1,_)] Tryz.func189 Tryz.ntmps189 fun B hB=>?_
   repeat' (first | refine jM ?_ | (refine jo ?_;first | refine aG F ?_ | refine ar F ?_) | refine ax F F (ay oM) ?_ | (refine ak F F (by first | rfl | (refine decide_eq_false ?_;(omega))) ?_) | refine ac F (ay ‹_›) ?_ | refine ad F (aC ‹_›) ?_)
   all_goals refine jY (vs:=[_]) ?_
   all_goals rfl
  have hq2 : bt v (Int.toNat 0) = 39:=hq
  rw [decide_eq_true hq,Bool.true_and]
  by_cases hr : bt v (v.length - 1) = 39
  case neg =>
   have hr2 : ¬ bt v (((v.length : Nat) : Int) - 1).toNat = 39:=by rw [e4];exact hr
   rw [decide_eq_false hr,Bool.false_and]
   refine jE [(0,_),(1,_)] Tryz.func189 Tryz.ntmps189 fun B hB=>?_
   repeat' (first | refine jM ?_ | (refine jo ?_;first | refine aG F ?_ | refine ar F ?_) | refine ax F F (ay oM) ?_ | refine ak F F (aC oM) ?_ | refine ac F (ay ‹_›) ?_ | refine ad F (aC ‹_›) ?_)
   all_goals refine jY (vs:=[_]) ?_
   all_goals rfl
  have hr2 : bt v (((v.length : Nat) : Int) - 1).toNat = 39:=by rw [e4];exact hr
  rw [decide_eq_true hr,Bool.true_and]
  refine jE [(0,_),(1,_)] Tryz.func189 Tryz.ntmps189 fun B hB=>?_
  repeat' (first | refine jM ?_ | (refine jo ?_;first | refine aG F ?_ | (refine ab F F F (ju ?_) F ?_;(focus ((simp;omega);done)))) | refine ax F F (ay oM) ?_ | refine ac F (ay ‹_›) ?_ | refine ad F (aC ‹_›) ?_)
  all_goals refine jY (vs:=[_]) ?_
  all_goals rw [e4];rfl
 ·have e : bK b v = (decide (b = [102]) && decide (v = [121,101,115])):=by
   rw [bK,if_neg h1,if_neg h2]
   by_cases h3 : b = [102]
   ·rw [if_pos h3,decide_eq_true h3,Bool.true_and]
   ·rw [if_neg h3,decide_eq_false h3,Bool.false_and]
  rw [e]
  refine jE [(0,_),(1,_)] Tryz.func189 Tryz.ntmps189 fun B hB=>?_
  repeat' (first | refine jR ?_ | (refine jo ?_;first | refine aG F ?_ | refine ar F ?_) | refine dN F F (fun _=>?_) (fun _=>?_) | refine ad F (aC ‹_›) ?_)
  all_goals refine jY (vs:=[_]) ?_
  all_goals (simp [*])
theorem wN {c v : ac8} (h : bB c = true) : (decide (sg c = []) && bK (bs c) v) = bK c v:=by
 match c,h with
 | x :: r,h =>
  by_cases h1 : x.toNat = 91 ∨ x.toNat = 63
  ·have hs : sg (x :: r) ≠ []:=by
    unfold sg
    rw [br,if_pos h1]
    have:=lC r
    intro e
    have e2:=congrArg List.length e
    simp only [List.length_take,List.length_cons,List.length_nil] at e2
    omega
   rw [decide_eq_false hs,Bool.false_and]
   unfold bK
   rw [if_neg,if_neg,if_neg]
   all_goals (intro e;simp only [List.cons.injEq] at e;have:=congrArg UInt8.toNat e.1;revert this;rcases h1 with h1 | h1 <;> rw [h1] <;> decide)
  ·have hc : br (x :: r) = x :: r:=by rw [br,if_neg h1]
   have hs : sg (x :: r) = []:=by unfold sg;rw [hc];simp
   rw [decide_eq_true hs,Bool.true_and]
   by_cases h2 : x.toNat = 64
   ·have hb : bs (x :: r) = [64]:=by unfold bs;rw [hc];simp [px,h2]
    rw [hb]
    have e1 : bK [64] v = false:=by unfold bK;simp
    rw [e1]
    unfold bK
    rw [if_neg,if_neg,if_neg]
    all_goals (intro e;simp only [List.cons.injEq] at e;have:=congrArg UInt8.toNat e.1;revert this;rw [h2];decide)
   ·have hb : bs (x :: r) = x :: r:=by unfold bs;rw [hc];simp [px,h2]
    rw [hb]
def pz (s : ac8) (k : Nat) (v : Value) (_ : Gh) : Prop:=∃ f ok,v = Tu [Ag (jl f),Bo ok] ∧ bU s k = if ok = true then some f else none
theorem lI {s : ac8} {xs : List ac8} {k : Nat} {c : UInt8} (n : Nat) (h : s.length ≤ 100000000) (hc : c.toNat = k) (e : bc k s = xs) (hn : xs.length = n) (h0 : 0 < n) :
  bn ac7 162 [S s,S [c]] G (fun v G'=>∃ b o cap,v = .slice (some ⟨b,o,none⟩) n cap ∧ b7 G' b o (aE dG xs)):=by
 subst hn;subst e;subst hc
 refine (zx (G:=G) (s:=s) (c:=c) h).mono ?_
 rintro v G' L' ⟨h1,h2,h3⟩
 obtain ⟨b,o,cap,rfl,hs⟩:=h3.expl h0
 exact ⟨h1,h2,b,o,cap,F,hs⟩
theorem ud {s : ac8} (h : s.length ≤ 2000000) (e : bB s = true) : an ac7 88 [S s] G (· = Tu [Ag (ew s),Bo true]):=by
 refine (lJ (G:=G) h).mono ?_
 rintro v G' L' ⟨h1,h2,a,b,c,rfl,h3⟩
 obtain ⟨rfl,rfl,rfl⟩:=h3 e
 exact ⟨h1,h2,by rw [e];rfl⟩
theorem t3 {s : ac8} {top m : Int} (h : s.length ≤ 100000000) (e : aR s top = some m) : an ac7 135 [S s,I top] G (· = Tu [I m,Bo true]):=by
 refine (fj (G:=G) (top:=top) h).mono ?_
 rintro v G' L' ⟨h1,h2,n,rfl,h3⟩
 exact ⟨h1,h2,by rw [e,h3 m e];rfl⟩
theorem t4 {s : ac8} {top : Int} (h : s.length ≤ 100000000) (e : aR s top = none) : an ac7 135 [S s,I top] G (fun v=>∃ n,v = Tu [I n,Bo false]):=by
 refine (fj (G:=G) (top:=top) h).mono ?_
 rintro v G' L' ⟨h1,h2,n,rfl,h3⟩
 exact ⟨h1,h2,n,by rw [e];rfl⟩
theorem mI {s : ac8} {k : Nat} (h : s.length ≤ 1000) (e : (bc 58 (aH 61 s).1).length ≠ if k = 69 then 2 else 3) : bn ac7 163 [S s,U8 k] G (pz s k):=by
 have hcl:=jm (k:=61) (s:=s)
 have cx_cut : an ac7 120 [S s,S [61]] G (· = Tu [S (aH 61 s).1,S (aH 61 s).2.1,Bo (aH 61 s).2.2]):=pw (c:=61) oM
 have cx_split:=lI (G:=G) (c:=58) (k:=58) _ (s:=(aH 61 s).1) oM rfl rfl rfl dU
 have hno : bU s k = none:=by
  rw [← pS]
  unfold mA
  split
  ·rename_i e2
   rw [e2] at e
   split
   ·rename_i hk;simp [hk.1] at e
   ·rfl
  ·rename_i e2
   rw [e2] at e
   split
   ·rfl
   ·rename_i hk;simp [hk] at e
  ·rfl
 have hpos:=dU (k:=58) (s:=(aH 61 s).1)
 generalize hn : (bc 58 (aH 61 s).1).length = n at *
 by_cases hk : k = 69
 ·rw [if_pos hk] at e
  refine jB [(0,_),(1,_)] Tryz.func163 Tryz.ntmps163 fun B hok hB hW=>?_
  repeat' (first | refine jR ?_ | (refine jo ?_;first | refine jL fun _=>?_ | refine jV (av F) ?_ | refine jV (al F F) ?_ | refine jC F F F ?_ | refine ab F F F cx_cut F ?_ | (refine aK F F F cx_split F ?_;rintro _ G hle ⟨b1,o1,cap1,rfl,hseg⟩;skip)) | refine ac F (ay oM) ?_)
  all_goals refine jZ (vs:=[_,_]) F ⟨aF F F F F,F,trivial⟩ F ⟨hle,F,?_⟩
  all_goals exact ⟨default,false,F,by rw [hno];rfl⟩
 ·rw [if_neg hk] at e
  refine jB [(0,_),(1,_)] Tryz.func163 Tryz.ntmps163 fun B hok hB hW=>?_
  repeat' (first | refine jR ?_ | (refine jo ?_;first | refine jL fun _=>?_ | refine jV (av F) ?_ | refine jV (al F F) ?_ | refine jC F F F ?_ | refine ab F F F cx_cut F ?_ | (refine aK F F F cx_split F ?_;rintro _ G hle ⟨b1,o1,cap1,rfl,hseg⟩;skip)) | refine ac F (ay oM) ?_ | refine ad F (aC oM) ?_)
  all_goals refine jZ (vs:=[_,_]) F ⟨aF F F F F,F,trivial⟩ F ⟨hle,F,?_⟩
  all_goals exact ⟨default,false,F,by rw [hno];rfl⟩
theorem su {s a b : ac8} (h : s.length ≤ 1000) (e : bc 58 (aH 61 s).1 = [a,b]) : bn ac7 163 [S s,U8 (69 : Nat)] G (pz s 69):=by
  have hcl:=jm (k:=61) (s:=s)
  have cx_cut : an ac7 120 [S s,S [61]] G (· = Tu [S (aH 61 s).1,S (aH 61 s).2.1,Bo (aH 61 s).2.2]):=pw (c:=61) oM
  have cx_split:=lI (G:=G) (c:=58) (k:=58) 2 (s:=(aH 61 s).1) oM rfl e rfl oM
  have ha : a.length ≤ 1000:=by have:=dn (k:=58) (s:=(aH 61 s).1) (x:=a) (by rw [e];simp);omega
  have hb : b.length ≤ 1000:=by have:=dn (k:=58) (s:=(aH 61 s).1) (x:=b) (by rw [e];simp);omega
  have hall : bU s 69 = if (aH 61 s).2.2 = false then match aR a 200 with
      | some n=>if 1 ≤ n ∧ ce b = true then some ⟨n,b,[],[]⟩ else none
      | none=>none else none:=by
    rw [← pS];unfold mA;rw [e];simp <;> rfl
  generalize hto : (aH 61 s).2.2 = told at *
  generalize hva : (aH 61 s).2.1 = val at *
  rcases hm : aR a 200 with _ | m
  · have hno : bU s 69 = none:=by rw [hall,hm];simp
    have cx_pn : ∀ G,an ac7 135 [S a,I 200] G (fun v=>∃ n,v = Tu [I n,Bo false]):=fun G=>t4 oM hm
    refine jB [(0,_),(1,_)] Tryz.func163 Tryz.ntmps163 fun B hok hB hW=>?_
    repeat' (first | refine jR ?_ | (refine jo ?_;first | refine jL fun _=>?_ | refine jV (av F) ?_ | refine jV (al F F) ?_ | refine jC F F F ?_ | refine jV (aN F F oM) ?_ | refine jV (aL F F aS F F) ?_ | refine aG F ?_ | refine ab F F F cx_cut F ?_ | (refine aK F F F cx_split F ?_;rintro _ G hle ⟨b1,o1,cap1,rfl,hseg⟩;skip) | (refine cN F F F (cx_pn _) F ?_;rintro _ ⟨n,rfl⟩)) | refine ax F F F ?_ | refine ac F F ?_ | refine ad F F ?_)
    all_goals refine jZ (vs:=[_,_]) F ⟨aF F F F F,F,trivial⟩ F ⟨hle,F,?_⟩
    all_goals exact ⟨default,false,F,by rw [hno];rfl⟩
  have cx_pq : ∀ G,an ac7 135 [S a,I 200] G (· = Tu [I m,Bo true]):=fun G=>t3 oM hm
  rw [hm] at hall
  dsimp only at hall
  by_cases hg : 1 ≤ m ∧ ce b = true
  · rw [if_pos hg] at hall
    have hg1:=hg.1
    have hg2 : (!ce b) = false:=by rw [hg.2];rfl
    cases told with
    | true =>
      refine jB [(0,_),(1,_)] Tryz.func163 Tryz.ntmps163 fun B hok hB hW=>?_
      repeat' (first | refine jR ?_ | (refine jo ?_;first | refine jL fun _=>?_ | refine jV (av F) ?_ | refine jV (al F F) ?_ | refine jC F F F ?_ | refine jV (aN F F oM) ?_ | refine ah F ?_ | refine jV (aL F F aS F F) ?_ | refine aG F ?_ | refine ar F ?_ | refine ab F F F cx_cut F ?_ | (refine aK F F F cx_split F ?_;rintro _ G hle ⟨b1,o1,cap1,rfl,hseg⟩;skip) | refine ab F F F (cx_pq _) F ?_ | refine ab F F F (dg oM) F ?_) | refine ax F F F ?_ | (refine ak F F (by first | rfl | (refine decide_eq_false ?_;(omega))) ?_) | refine ac F F ?_ | (refine ad F (by first | rfl | assumption) ?_))
      all_goals refine jZ (vs:=[_,_]) F ⟨aF F F F F,F,trivial⟩ F ⟨hle,F,?_⟩
      all_goals exact ⟨default,false,F,by rw [hall];rfl⟩
    | false =>
      have hv : val = []:=by have:=eU hto;rw [this] at hva;exact hva.symm
      refine jB [(0,_),(1,_)] Tryz.func163 Tryz.ntmps163 fun B hok hB hW=>?_
      repeat' (first | refine jR ?_ | (refine jo ?_;first | refine jL fun _=>?_ | refine jV (av F) ?_ | refine jV (al F F) ?_ | refine jC F F F ?_ | refine jV (aN F F oM) ?_ | refine ah F ?_ | refine aB F ?_ | refine jV (aL F F aS F F) ?_ | refine ar F ?_ | refine ab F F F cx_cut F ?_ | (refine aK F F F cx_split F ?_;rintro _ G hle ⟨b1,o1,cap1,rfl,hseg⟩;skip) | refine ab F F F (cx_pq _) F ?_ | refine ab F F F (dg oM) F ?_) | (refine ak F F (by first | rfl | (refine decide_eq_false ?_;(omega))) ?_) | refine ac F F ?_ | (refine ad F (by first | rfl | assumption) ?_))
      all_goals refine jZ (vs:=[_,_]) F ⟨aF F F F F,F,trivial⟩ F ⟨hle,F,?_⟩
      all_goals exact ⟨⟨m,b,[],[]⟩,true,by rw [hv];rfl,by rw [hall];rfl⟩
  · rw [if_neg hg] at hall
    have hno : bU s 69 = none:=by rw [hall];simp
    by_cases h1 : m < 1
    case' neg => have hg2 : (!ce b) = true := by
                  cases hb2 : ce b with
                  | false=>rfl
                  | true=>exact absurd ⟨oM,hb2⟩ hg
    all_goals refine jB [(0,_),(1,_)] Tryz.func163 Tryz.ntmps163 fun B hok hB hW=>?_
    all_goals repeat' (first | refine jR ?_ | (refine jo ?_;first | refine jL fun _=>?_ | refine jV (av F) ?_ | refine jV (al F F) ?_ | refine jC F F F ?_ | refine jV (aN F F oM) ?_ | refine ah F ?_ | refine jV (aL F F aS F F) ?_ | refine aG F ?_ | refine ar F ?_ | refine ab F F F cx_cut F ?_ | (refine aK F F F cx_split F ?_;rintro _ G hle ⟨b1,o1,cap1,rfl,hseg⟩;skip) | refine ab F F F (cx_pq _) F ?_ | refine ab F F F (dg oM) F ?_) | refine ax F F (ay ‹_›) ?_ | (refine ak F F (by first | rfl | (refine decide_eq_false ?_;(assumption))) ?_) | (refine ac F (by first | rfl | assumption) ?_) | refine ad F F ?_)
    all_goals refine jZ (vs:=[_,_]) F ⟨aF F F F F,F,trivial⟩ F ⟨hle,F,?_⟩
    all_goals exact ⟨default,false,F,by rw [hno];rfl⟩
theorem sr {s a b c : ac8} {k : Nat} (h : s.length ≤ 1000) (hk : ¬ k = 69) (e : bc 58 (aH 61 s).1 = [a,b,c]) : bn ac7 163 [S s,U8 k] G (pz s k):=by
  have hcl:=jm (k:=61) (s:=s)
  have cx_cut : an ac7 120 [S s,S [61]] G (· = Tu [S (aH 61 s).1,S (aH 61 s).2.1,Bo (aH 61 s).2.2]):=pw (c:=61) oM
  have cx_split:=lI (G:=G) (c:=58) (k:=58) 3 (s:=(aH 61 s).1) oM rfl e rfl oM
  have ha : a.length ≤ 1000:=by have:=dn (k:=58) (s:=(aH 61 s).1) (x:=a) (by rw [e];simp);omega
  have hb : b.length ≤ 1000:=by have:=dn (k:=58) (s:=(aH 61 s).1) (x:=b) (by rw [e];simp);omega
  have hc : c.length ≤ 1000:=by have:=dn (k:=58) (s:=(aH 61 s).1) (x:=c) (by rw [e];simp);omega
  have hall : bU s k = match aR a 200 with
      | some n=>if (1 ≤ n ∧ ce b = true) ∧ bB c = true ∧ ((aH 61 s).2.2 = true → k = 82 ∧ bK c (aH 61 s).2.1 = true) then some ⟨n,b,c,(aH 61 s).2.1⟩ else none
      | none=>none:=by
    rw [← pS];unfold mA;rw [e];simp [hk] <;> rfl
  generalize hto : (aH 61 s).2.2 = told at *
  generalize hva : (aH 61 s).2.1 = val at *
  rcases hm : aR a 200 with _ | m
  · have hno : bU s k = none:=by rw [hall,hm]
    have cx_pn : ∀ G,an ac7 135 [S a,I 200] G (fun v=>∃ n,v = Tu [I n,Bo false]):=fun G=>t4 oM hm
    refine jB [(0,_),(1,_)] Tryz.func163 Tryz.ntmps163 fun B hok hB hW=>?_
    repeat' (first | refine jR ?_ | (refine jo ?_;first | refine jL fun _=>?_ | refine jV (av F) ?_ | refine jV (al F F) ?_ | refine jC F F F ?_ | refine jV (aN F F oM) ?_ | refine jV (aL F F aS F F) ?_ | refine aG F ?_ | refine ab F F F cx_cut F ?_ | (refine aK F F F cx_split F ?_;rintro _ G hle ⟨b1,o1,cap1,rfl,hseg⟩;skip) | (refine cN F F F (cx_pn _) F ?_;rintro _ ⟨n,rfl⟩)) | refine ax F F F ?_ | refine ac F F ?_ | (refine ad F (by first | rfl | (refine decide_eq_false ?_;(omega))) ?_))
    all_goals refine jZ (vs:=[_,_]) F ⟨aF F F F F,F,trivial⟩ F ⟨hle,F,?_⟩
    all_goals exact ⟨default,false,F,by rw [hno];rfl⟩
  have cx_pq : ∀ G,an ac7 135 [S a,I 200] G (· = Tu [I m,Bo true]):=fun G=>t3 oM hm
  rw [hm] at hall
  dsimp only at hall
  by_cases hg : 1 ≤ m ∧ ce b = true
  case neg =>
    have hno : bU s k = none:=by rw [hall,if_neg fun h=>hg h.1]
    by_cases h1 : m < 1
    case' neg => have hg2 : (!ce b) = true := by
                  cases hb2 : ce b with
                  | false=>rfl
                  | true=>exact absurd ⟨oM,hb2⟩ hg
    all_goals refine jB [(0,_),(1,_)] Tryz.func163 Tryz.ntmps163 fun B hok hB hW=>?_
    all_goals repeat' (first | refine jR ?_ | (refine jo ?_;first | refine jL fun _=>?_ | refine jV (av F) ?_ | refine jV (al F F) ?_ | refine jC F F F ?_ | refine jV (aN F F oM) ?_ | refine ah F ?_ | refine jV (aL F F aS F F) ?_ | refine aG F ?_ | refine ar F ?_ | refine ab F F F cx_cut F ?_ | (refine aK F F F cx_split F ?_;rintro _ G hle ⟨b1,o1,cap1,rfl,hseg⟩;skip) | refine ab F F F (cx_pq _) F ?_ | refine ab F F F (dg oM) F ?_) | refine ax F F (ay ‹_›) ?_ | (refine ak F F (by first | rfl | (refine decide_eq_false ?_;(assumption))) ?_) | (refine ac F (by first | rfl | assumption) ?_) | (refine ad F (by first | rfl | (refine decide_eq_false ?_;(omega))) ?_))
    all_goals refine jZ (vs:=[_,_]) F ⟨aF F F F F,F,trivial⟩ F ⟨hle,F,?_⟩
    all_goals exact ⟨default,false,F,by rw [hno];rfl⟩
  have hg1:=hg.1
  have hg2 : (!ce b) = false:=by rw [hg.2];rfl
  by_cases hkc : bB c = true
  case neg =>
    have hkc2 : bB c = false:=by simpa using hkc
    have hno : bU s k = none:=by rw [hall,if_neg fun h=>hkc h.2.1]
    have cx_kn : ∀ G,an ac7 88 [S c] G (fun v=>∃ x y z,v = Tu [Ag [S x,S y,S z],Bo false]):=fun G=>by
      refine (lJ (G:=G) (s:=c) oM).mono ?_
      rintro v G' L' ⟨h1,h2,x,y,z,rfl,_⟩
      exact ⟨h1,h2,x,y,z,by rw [hkc2]⟩
    refine jB [(0,_),(1,_)] Tryz.func163 Tryz.ntmps163 fun B hok hB hW=>?_
    repeat' (first | refine jR ?_ | (refine jo ?_;first | refine jL fun _=>?_ | refine jV (av F) ?_ | refine jV (al F F) ?_ | refine jC F F F ?_ | refine jV (aN F F oM) ?_ | refine ah F ?_ | refine jV (aL F F aS F F) ?_ | refine ar F ?_ | refine ab F F F cx_cut F ?_ | (refine aK F F F cx_split F ?_;rintro _ G hle ⟨b1,o1,cap1,rfl,hseg⟩;skip) | refine ab F F F (cx_pq _) F ?_ | refine ab F F F (dg oM) F ?_ | (refine cN F F F (cx_kn _) F ?_;rintro _ ⟨x,y,z,rfl⟩)) | (refine ak F F (by first | rfl | (refine decide_eq_false ?_;(omega))) ?_) | (refine ac F (by first | rfl | (refine decide_eq_true ?_;(omega))) ?_) | (refine ad F (by first | rfl | assumption | (refine decide_eq_false ?_;(omega))) ?_))
    all_goals refine jZ (vs:=[_,_]) F ⟨aF F F F F,F,trivial⟩ F ⟨hle,F,?_⟩
    all_goals exact ⟨default,false,F,by rw [hno];rfl⟩
  have cx_kq : ∀ G,an ac7 88 [S c] G (· = Tu [Ag [S (sg c),S (bs c),S (nm c)],Bo true]):=fun G=>ud oM hkc
  cases told with
  | false =>
    have hv : val = []:=by have:=eU hto;rw [this] at hva;exact hva.symm
    have hyes : bU s k = some ⟨m,b,c,val⟩:=by rw [hall,if_pos ⟨hg,hkc,fun h=>by cases h⟩]
    refine jB [(0,_),(1,_)] Tryz.func163 Tryz.ntmps163 fun B hok hB hW=>?_
    repeat' (first | refine jR ?_ | (refine jo ?_;first | refine jL fun _=>?_ | refine jV (av F) ?_ | refine jV (al F F) ?_ | refine jC F F F ?_ | refine jV (aN F F oM) ?_ | refine ah F ?_ | refine aB F ?_ | refine jV (aL F F aS F F) ?_ | refine ar F ?_ | refine ab F F F cx_cut F ?_ | (refine aK F F F cx_split F ?_;rintro _ G hle ⟨b1,o1,cap1,rfl,hseg⟩;skip) | refine ab F F F (cx_pq _) F ?_ | refine ab F F F (dg oM) F ?_ | refine ab F F F (cx_kq _) F ?_) | (refine ak F F (by first | rfl | (refine decide_eq_false ?_;(omega))) ?_) | refine ac F (ay oM) ?_ | (refine ad F (by first | rfl | assumption | (refine decide_eq_false ?_;(omega))) ?_))
    all_goals refine jZ (vs:=[_,_]) F ⟨aF F F F F,F,trivial⟩ F ⟨hle,F,?_⟩
    all_goals exact ⟨⟨m,b,c,val⟩,true,F,by rw [hyes];rfl⟩
  | true =>
    have hst:=wN (v:=val) hkc
    by_cases h82 : k = 82
    case neg =>
      have hno : bU s k = none:=by rw [hall,if_neg fun h=>h82 (h.2.2 rfl).1]
      have h83 : ¬ (k : Int) = 82:=oM
      refine jB [(0,_),(1,_)] Tryz.func163 Tryz.ntmps163 fun B hok hB hW=>?_
      repeat' (first | refine jR ?_ | (refine jo ?_;first | refine jL fun _=>?_ | refine jV (av F) ?_ | refine jV (al F F) ?_ | refine jC F F F ?_ | refine jV (aN F F oM) ?_ | refine ah F ?_ | refine jV (aL F F aS F F) ?_ | refine aG F ?_ | refine ar F ?_ | refine ab F F F cx_cut F ?_ | (refine aK F F F cx_split F ?_;rintro _ G hle ⟨b1,o1,cap1,rfl,hseg⟩;skip) | refine ab F F F (cx_pq _) F ?_ | refine ab F F F (dg oM) F ?_ | refine ab F F F (cx_kq _) F ?_) | (refine ax F F (by first | rfl | (refine decide_eq_true ?_;(assumption))) ?_) | (refine ak F F (by first | rfl | (refine decide_eq_false ?_;(omega))) ?_) | (refine ac F (by first | rfl | (refine decide_eq_true ?_;(omega))) ?_) | (refine ad F (by first | rfl | assumption | (refine decide_eq_false ?_;(omega))) ?_))
      all_goals refine jZ (vs:=[_,_]) F ⟨aF F F F F,F,trivial⟩ F ⟨hle,F,?_⟩
      all_goals exact ⟨default,false,F,by rw [hno];rfl⟩
    subst h82
    by_cases hsg : sg c = []
    · rw [decide_eq_true hsg,Bool.true_and] at hst
      by_cases hso : bK c val = true
      · have hyes : bU s 82 = some ⟨m,b,c,val⟩:=by rw [hall,if_pos ⟨hg,hkc,fun _=>⟨rfl,hso⟩⟩]
        have hso2 : (!bK (bs c) val) = false:=by rw [hst,hso];rfl
        refine jB [(0,_),(1,_)] Tryz.func163 Tryz.ntmps163 fun B hok hB hW=>?_
        repeat' (first | refine jR ?_ | (refine jo ?_;first | refine jL fun _=>?_ | refine jV (av F) ?_ | refine jV (al F F) ?_ | refine jC F F F ?_ | refine jV (aN F F oM) ?_ | refine ah F ?_ | refine aB F ?_ | refine jV (aL F F aS F F) ?_ | refine aG F ?_ | refine ar F ?_ | refine ab F F F cx_cut F ?_ | (refine aK F F F cx_split F ?_;rintro _ G hle ⟨b1,o1,cap1,rfl,hseg⟩;skip) | refine ab F F F (cx_pq _) F ?_ | refine ab F F F (dg oM) F ?_ | refine ab F F F (cx_kq _) F ?_ | refine ab F F F (pn oM) F ?_) | refine ax F F F ?_ | (refine ak F F ?_ ?_;(focus ((first | rfl | (refine decide_eq_false ?_;(omega)) | (simp [*];done));done))) | refine ac F F ?_ | (refine ad F (by first | rfl | assumption) ?_))
        all_goals refine jZ (vs:=[_,_]) F ⟨aF F F F F,F,trivial⟩ F ⟨hle,F,?_⟩
        all_goals exact ⟨⟨m,b,c,val⟩,true,F,by rw [hyes];rfl⟩
      · have hno : bU s 82 = none:=by rw [hall,if_neg fun h=>hso (h.2.2 rfl).2]
        have hso2 : (!bK (bs c) val) = true:=by rw [hst];simpa using hso
        refine jB [(0,_),(1,_)] Tryz.func163 Tryz.ntmps163 fun B hok hB hW=>?_
        repeat' (first | refine jR ?_ | (refine jo ?_;first | refine jL fun _=>?_ | refine jV (av F) ?_ | refine jV (al F F) ?_ | refine jC F F F ?_ | refine jV (aN F F oM) ?_ | refine ah F ?_ | refine jV (aL F F aS F F) ?_ | refine aG F ?_ | refine ar F ?_ | refine ab F F F cx_cut F ?_ | (refine aK F F F cx_split F ?_;rintro _ G hle ⟨b1,o1,cap1,rfl,hseg⟩;skip) | refine ab F F F (cx_pq _) F ?_ | refine ab F F F (dg oM) F ?_ | refine ab F F F (cx_kq _) F ?_ | refine ab F F F (pn oM) F ?_) | refine ax F F F ?_ | (refine ak F F ?_ ?_;(focus ((first | rfl | (refine decide_eq_false ?_;(omega)) | (simp [*];done));done))) | (refine ac F (by first | rfl | assumption) ?_) | (refine ad F (by first | rfl | assumption) ?_))
        all_goals refine jZ (vs:=[_,_]) F ⟨aF F F F F,F,trivial⟩ F ⟨hle,F,?_⟩
        all_goals exact ⟨default,false,F,by rw [hno];rfl⟩
    · rw [decide_eq_false hsg,Bool.false_and] at hst
      have hno : bU s 82 = none:=by rw [hall,if_neg fun h=>by rw [(h.2.2 rfl).2] at hst;cases hst]
      refine jB [(0,_),(1,_)] Tryz.func163 Tryz.ntmps163 fun B hok hB hW=>?_
      repeat' (first | refine jR ?_ | (refine jo ?_;first | refine jL fun _=>?_ | refine jV (av F) ?_ | refine jV (al F F) ?_ | refine jC F F F ?_ | refine jV (aN F F oM) ?_ | refine ah F ?_ | refine jV (aL F F aS F F) ?_ | refine aG F ?_ | refine ar F ?_ | refine ab F F F cx_cut F ?_ | (refine aK F F F cx_split F ?_;rintro _ G hle ⟨b1,o1,cap1,rfl,hseg⟩;skip) | refine ab F F F (cx_pq _) F ?_ | refine ab F F F (dg oM) F ?_ | refine ab F F F (cx_kq _) F ?_) | (refine ax F F (by first | rfl | (refine decide_eq_true ?_;(assumption))) ?_) | (refine ak F F (by first | rfl | (refine decide_eq_false ?_;(omega))) ?_) | refine ac F F ?_ | (refine ad F (by first | rfl | assumption) ?_))
      all_goals refine jZ (vs:=[_,_]) F ⟨aF F F F F,F,trivial⟩ F ⟨hle,F,?_⟩
      all_goals exact ⟨default,false,F,by rw [hno];rfl⟩
theorem ta {s : ac8} {k : Nat} (h : s.length ≤ 1000) : bn ac7 163 [S s,U8 k] G (pz s k):=by
 by_cases hk : k = 69
 ·subst hk
  by_cases h2 : (bc 58 (aH 61 s).1).length = 2
  ·match e : bc 58 (aH 61 s).1,h2 with
   | [a,b],_=>exact su h e
  ·exact mI h (by simpa using h2)
 ·by_cases h3 : (bc 58 (aH 61 s).1).length = 3
  ·match e : bc 58 (aH 61 s).1,h3 with
   | [a,b,c],_=>exact sr h hk e
  ·exact mI h (by simpa [hk] using h3)
theorem jv {s : ac8} {xs : List ac8} {k : Nat} (n : Nat) (h : s.length ≤ 100000000) (e : bc k s = xs) (hn : xs.length = n) (h0 : 0 < n) :
  bM ac7 114 [S s,U8 k] G [] (fun v L'=>∃ b cap,v = .slice (some ⟨b,0,none⟩) n cap ∧ L' = [.acc (.slice (some ⟨b,0,none⟩) n cap) ky 1 n (iG xs)]):=by
 subst hn;subst e
 refine (t9 (G:=G) (k:=k) h).mono ?_
 rintro v G' L' ⟨h1,h2,h3⟩
 obtain ⟨b,cap,rfl⟩:=h3.pos oM
 exact ⟨h1,b,cap,F,h2⟩
theorem sw {s : ac8} {top m : Int} (h : s.length ≤ 100000000) (e : aR s top = some m) : an ac7 151 [S s,I top] G (· = Tu [I m,Bo true]):=by
 refine (hO (G:=G) (top:=top) h).mono ?_
 rintro v G' L' ⟨h1,h2,n,rfl,h3⟩
 exact ⟨h1,h2,by rw [e,h3 m e];rfl⟩
abbrev kX (s : ac8) (k : Nat) (v : Value) : Prop:=∃ f ok,v = Tu [Ag (g5 f),Bo ok] ∧ bU s k = if ok then some f else none
theorem xa {s : ac8} {k : Nat} (h : (bc 58 s).length ≠ 2) (h' : (bc 58 s).length ≠ 3) : bU s k = none:=by
 unfold bU
 split
 ·rename_i e;rw [e] at h;simp at h
 ·rename_i e;rw [e] at h';simp at h'
 ·rfl
theorem qb {s : ac8} {k : Nat} (h : s.length ≤ 1000) (e : (bc 58 s).length ≠ 2) (e' : (bc 58 s).length ≠ 3) : an ac7 156 [S s,U8 k] G (kX s k):=by
 have e0 : 0 < (bc 58 s).length:=dU
 generalize hn : (bc 58 s).length = n at *
 have cx_cut1:=jv (G:=G) (k:=58) n oM rfl hn e0
 have hno : bU s k = none:=xa oM oM
 refine jE [(0,_),(1,_)] Tryz.func156 Tryz.ntmps156 fun B hB=>?_
 repeat' (first | refine jR ?_ | (refine jo ?_;first | refine jL fun _=>?_ | refine jV (av F) ?_ | refine aG F ?_ | refine ar F ?_ | refine jV (al F F) ?_ | refine jC F F F ?_ | (refine dl F F F cx_cut1 F ?_;rintro _ _ ⟨b1,cap1,rfl,rfl⟩;dsimp only [zA,fA])) | refine ax F F (ay oM) ?_ | refine dN F F (fun _=>?_) (fun _=>?_) | (refine ac F (by first | rfl | (refine decide_eq_true ?_;(omega))) ?_))
 all_goals refine jZ (vs:=[_,_]) F ⟨aF F F F F,F,trivial⟩ F ⟨F,F,?_⟩
 all_goals exact ⟨default,false,F,by rw [hno];rfl⟩
theorem p9 {s a b : ac8} {k : Nat} (h : s.length ≤ 1000) (e : bc 58 s = [a,b]) : an ac7 156 [S s,U8 k] G (kX s k):=by
 have ha : a.length ≤ 1000:=Nat.le_trans (dn (k:=58) (s:=s) (by rw [e];simp)) h
 have hb : b.length ≤ 1000:=Nat.le_trans (dn (k:=58) (s:=s) (by rw [e];simp)) h
 have cx_cut1:=jv (G:=G) (k:=58) 2 oM e rfl oM
 by_cases hk : k = 69
 case neg =>
  have hno : bU s k = none:=by unfold bU;rw [e];simp [hk]
  refine jE [(0,_),(1,_)] Tryz.func156 Tryz.ntmps156 fun B hB=>?_
  repeat' (first | refine jR ?_ | (refine jo ?_;first | refine jL fun _=>?_ | refine jV (av F) ?_ | refine aG F ?_ | refine jV (al F F) ?_ | refine jC F F F ?_ | (refine dl F F F cx_cut1 F ?_;rintro _ _ ⟨b1,cap1,rfl,rfl⟩;dsimp only [zA,fA])) | (refine ax F F (by first | rfl | (refine decide_eq_true ?_;(omega))) ?_) | refine ac F F ?_)
  all_goals refine jZ (vs:=[_,_]) F ⟨aF F F F F,F,trivial⟩ F ⟨F,F,?_⟩
  all_goals exact ⟨default,false,F,by rw [hno];rfl⟩
 subst hk
 rcases hm : aR a 200 with _ | m
 ·have hno : bU s 69 = none:=by unfold bU;rw [e];simp [hm]
  refine jE [(0,_),(1,_)] Tryz.func156 Tryz.ntmps156 fun B hB=>?_
  repeat' (first | refine jR ?_ | (refine jo ?_;first | refine jL fun _=>?_ | refine jV (av F) ?_ | refine aG F ?_ | refine ar F ?_ | refine jV (al F F) ?_ | refine jC F F F ?_ | refine jV (aN F F oM) ?_ | refine jV (f9 F F F) ?_ | refine aB F ?_ | (refine dl F F F cx_cut1 F ?_;rintro _ _ ⟨b1,cap1,rfl,rfl⟩;dsimp only [zA,fA]) | (refine cN F F F (hO oM) F ?_;rintro _ ⟨n,rfl,hnum⟩)) | (refine ax F F ?_ ?_;(focus ((first | rfl | (simp [*];done));done))) | refine ak F F F ?_ | refine ac F F ?_ | refine ad F F ?_)
  all_goals refine jZ (vs:=[_,_]) F ⟨aF F F F F,F,trivial⟩ F ⟨F,F,?_⟩
  all_goals exact ⟨⟨_,_,_,_⟩,false,F,by rw [hno];rfl⟩
 have cx_num:=sw (G:=G) oM hm
 have hyes : bU s 69 = if 1 ≤ m ∧ ce b = true then some ⟨m,b,[],[]⟩ else none:=by unfold bU;rw [e];simp [hm]
 refine jE [(0,_),(1,_)] Tryz.func156 Tryz.ntmps156 fun B hB=>?_
 repeat' (first | refine jR ?_ | (refine jo ?_;first | refine jL fun _=>?_ | refine jV (av F) ?_ | refine aG F ?_ | refine ar F ?_ | refine jV (al F F) ?_ | refine jC F F F ?_ | refine jV (aN F F oM) ?_ | refine ah F ?_ | refine jV (f9 F F F) ?_ | refine aB F ?_ | (refine dl F F F cx_cut1 F ?_;rintro _ _ ⟨b1,cap1,rfl,rfl⟩;dsimp only [zA,fA]) | refine ab F F F cx_num F ?_ | refine ab F F F (fa oM) F ?_) | refine ax F F F ?_ | refine ak F F F ?_ | refine dN F F (fun _=>?_) (fun _=>?_) | refine ac F F ?_ | refine ad F F ?_ | refine gX F (fun _=>?_) (fun _=>?_))
 all_goals refine jZ (vs:=[_,_]) F ⟨aF F F F F,F,trivial⟩ F ⟨F,F,?_⟩
 all_goals first | exact ⟨⟨m,b,[],[]⟩,true,F,by rw [hyes];simp_all;try omega⟩ | exact ⟨⟨m,b,[],[]⟩,false,F,by rw [hyes];simp_all;try omega⟩
theorem pq {s a b c d f : ac8} {k : Nat} {m : Int} (h : s.length ≤ 1000) (e : bc 58 s = [a,b,c]) (hk : ¬ k = 69) (hm : aR a 200 = some m) (hg1 : 1 ≤ m) (hg2 : ce b = true) (e2 : bc 61 c = [d,f]) : an ac7 156 [S s,U8 k] G (kX s k):=by
 have ha : a.length ≤ 1000:=Nat.le_trans (dn (k:=58) (s:=s) (by rw [e];simp)) h
 have hb : b.length ≤ 1000:=Nat.le_trans (dn (k:=58) (s:=s) (by rw [e];simp)) h
 have hc : c.length ≤ 1000:=Nat.le_trans (dn (k:=58) (s:=s) (by rw [e];simp)) h
 have cx_cut1:=jv (G:=G) (k:=58) 3 oM e rfl oM
 have cx_num:=sw (G:=G) oM hm
 have hyes : bU s k = if k = 82 ∧ bK d f = true then some ⟨m,b,d,f⟩ else none:=by
  unfold bU;rw [e];simp [hm,hg1,hg2,hk,e2]
 have hd : d.length ≤ 1000:=Nat.le_trans (dn (k:=61) (s:=c) (by rw [e2];simp)) hc
 have hf : f.length ≤ 1000:=Nat.le_trans (dn (k:=61) (s:=c) (by rw [e2];simp)) hc
 have cx_cut2:=jv (G:=G) (k:=61) 2 oM e2 rfl oM
 by_cases h82 : k = 82
 ·have h83 : (k : Int) = 82:=oM
  refine jE [(0,_),(1,_)] Tryz.func156 Tryz.ntmps156 fun B hB=>?_
  repeat' (first | refine jR ?_ | (refine jo ?_;first | refine jL fun _=>?_ | refine jV (av F) ?_ | refine aG F ?_ | refine ar F ?_ | refine jV (al F F) ?_ | refine jD F F F ?_ | refine jC F F F ?_ | refine jV (aN F F oM) ?_ | refine ah F ?_ | refine jV (f9 F F F) ?_ | (refine dl F F F cx_cut1 F ?_;rintro _ _ ⟨b1,cap1,rfl,rfl⟩;dsimp only [zA,fA]) | (refine dl F F F cx_cut2 F ?_;rintro _ _ ⟨b2,cap2,rfl,rfl⟩;dsimp only [zA,fA]) | refine ab F F F cx_num F ?_ | refine ab F F F (fa oM) F ?_) | refine ax F F F ?_ | (refine ak F F (by first | rfl | (refine decide_eq_false ?_;(omega))) ?_) | refine ac F F ?_ | (refine ad F ?_ ?_;(focus ((first | (refine decide_eq_false ?_;(omega)) | (simp [*];done));done))) | (refine aj (dY (id:=14) (tt:=4) F ai ?_);refine jW 9 [1,2,3] (aa 12 14) ?_;(try (refine Nx.re (d:=76) (v':=Bo true) F (congrArg Value.bool (ay ‹_›)) ?_));refine jW 7 [4,6] (aa 12 94) ?_;(refine jG (aa 12 95) 0 F (bD F F F F) ?_);(refine jG (aa 12 127) 5 F (aq F F F) ?_);(refine jG (aa 12 255) 7 F (aq F F F) ?_);((refine jA 8 F ?_;(refine ab F F F (wm oM) F ?_);refine jK (aa 12 511) ?_));((refine jG (aa 12 1023) 9 F (a6 F F ?_) ?_;(focus ((rfl);done))));refine jA 10 F ?_;(refine jC F F F ?_);refine jK (aa 12 2047) ?_;refine jW 0 [11] (aa 12 4095) ?_;refine jQ ?_))
  all_goals refine jZ (vs:=[_,_]) F ⟨aF F F F F,F,trivial⟩ F ⟨F,F,?_⟩
  all_goals exact ⟨⟨m,b,d,f⟩,bK d f,F,by rw [hyes];simp [h82]⟩
 ·have h83 : ¬ (k : Int) = 82:=oM
  refine jE [(0,_),(1,_)] Tryz.func156 Tryz.ntmps156 fun B hB=>?_
  repeat' (first | refine jR ?_ | (refine jo ?_;first | refine jL fun _=>?_ | refine jV (av F) ?_ | refine aG F ?_ | refine ar F ?_ | refine jV (al F F) ?_ | refine jD F F F ?_ | refine jC F F F ?_ | refine jV (aN F F oM) ?_ | refine ah F ?_ | refine jV (f9 F F F) ?_ | (refine dl F F F cx_cut1 F ?_;rintro _ _ ⟨b1,cap1,rfl,rfl⟩;dsimp only [zA,fA]) | (refine dl F F F cx_cut2 F ?_;rintro _ _ ⟨b2,cap2,rfl,rfl⟩;dsimp only [zA,fA]) | refine ab F F F cx_num F ?_ | refine ab F F F (fa oM) F ?_) | refine ax F F F ?_ | (refine ak F F (by first | rfl | (refine decide_eq_false ?_;(omega))) ?_) | refine ac F F ?_ | (refine ad F ?_ ?_;(focus ((first | (refine decide_eq_false ?_;(omega)) | (simp [*];done));done))) | (refine aj (dY (id:=14) (tt:=4) F ai ?_);refine jW 9 [1,2,3] (aa 12 14) ?_;(try (refine Nx.re (d:=76) (v':=Bo false) F (congrArg Value.bool (aC ‹_›)) ?_));refine jW 7 [4,6] (aa 12 94) ?_;(refine jG (aa 12 95) 0 F (bD F F F F) ?_);(refine jN (aa 12 127) 5 F ?_);(refine jN (aa 12 255) 7 F ?_);(refine jN (aa 12 511) 8 F ?_);((refine jG (aa 12 1023) 9 F (aJ F F ?_) ?_;(focus ((rfl);done))));refine jA 10 F ?_;(refine jC F F F ?_);refine jK (aa 12 2047) ?_;refine jW 0 [11] (aa 12 4095) ?_;refine jQ ?_))
  all_goals refine jZ (vs:=[_,_]) F ⟨aF F F F F,F,trivial⟩ F ⟨F,F,?_⟩
  all_goals exact ⟨⟨m,b,d,f⟩,false,F,by rw [hyes];simp [h82]⟩
theorem p8 {s a b c : ac8} {k : Nat} (h : s.length ≤ 1000) (e : bc 58 s = [a,b,c]) : an ac7 156 [S s,U8 k] G (kX s k):=by
 have ha : a.length ≤ 1000:=Nat.le_trans (dn (k:=58) (s:=s) (by rw [e];simp)) h
 have hb : b.length ≤ 1000:=Nat.le_trans (dn (k:=58) (s:=s) (by rw [e];simp)) h
 have hc : c.length ≤ 1000:=Nat.le_trans (dn (k:=58) (s:=s) (by rw [e];simp)) h
 have cx_cut1:=jv (G:=G) (k:=58) 3 oM e rfl oM
 by_cases hk : k = 69
 case pos =>
  subst hk
  have hno : bU s 69 = none:=by unfold bU;rw [e];simp
  refine jE [(0,_),(1,_)] Tryz.func156 Tryz.ntmps156 fun B hB=>?_
  repeat' (first | refine jR ?_ | (refine jo ?_;first | refine jL fun _=>?_ | refine jV (av F) ?_ | refine aG F ?_ | refine ar F ?_ | refine jV (al F F) ?_ | refine jC F F F ?_ | (refine dl F F F cx_cut1 F ?_;rintro _ _ ⟨b1,cap1,rfl,rfl⟩;dsimp only [zA,fA])) | refine ax F F F ?_ | refine ak F F F ?_ | refine ac F F ?_)
  all_goals refine jZ (vs:=[_,_]) F ⟨aF F F F F,F,trivial⟩ F ⟨F,F,?_⟩
  all_goals exact ⟨default,false,F,by rw [hno];rfl⟩
 rcases hm : aR a 200 with _ | m
 ·have hno : bU s k = none:=by unfold bU;rw [e];simp [hm]
  refine jE [(0,_),(1,_)] Tryz.func156 Tryz.ntmps156 fun B hB=>?_
  repeat' (first | refine jR ?_ | (refine jo ?_;first | refine jL fun _=>?_ | refine jV (av F) ?_ | refine aG F ?_ | refine ar F ?_ | refine jV (al F F) ?_ | refine jC F F F ?_ | refine jV (aN F F oM) ?_ | refine jV (f9 F F F) ?_ | refine aB F ?_ | (refine dl F F F cx_cut1 F ?_;rintro _ _ ⟨b1,cap1,rfl,rfl⟩;dsimp only [zA,fA]) | (refine cN F F F (hO oM) F ?_;rintro _ ⟨n,rfl,hnum⟩)) | (refine ax F F ?_ ?_;(focus ((first | rfl | (simp [*];done));done))) | refine ak F F F ?_ | refine ac F F ?_ | refine ad F (aC oM) ?_)
  all_goals refine jZ (vs:=[_,_]) F ⟨aF F F F F,F,trivial⟩ F ⟨F,F,?_⟩
  all_goals exact ⟨⟨_,_,_,_⟩,false,F,by rw [hno];rfl⟩
 have cx_num:=sw (G:=G) oM hm
 by_cases hg : 1 ≤ m ∧ ce b = true
 case neg =>
  have hno : bU s k = none:=by unfold bU;rw [e];simp [hm,hg]
  have hg' : m < 1 ∨ ce b = false:=by
   by_cases h1 : m < 1
   ·exact .inl h1
   ·cases hb2 : ce b with
    | false=>exact .inr F
    | true=>exact absurd ⟨oM,hb2⟩ hg
  rcases hg' with hg' | hg'
  all_goals refine jE [(0,_),(1,_)] Tryz.func156 Tryz.ntmps156 fun B hB=>?_
  all_goals repeat' (first | refine jR ?_ | (refine jo ?_;first | refine jL fun _=>?_ | refine jV (av F) ?_ | refine aG F ?_ | refine ar F ?_ | refine jV (al F F) ?_ | refine jC F F F ?_ | refine jV (aN F F oM) ?_ | refine ah F ?_ | refine jV (f9 F F F) ?_ | refine aB F ?_ | (refine dl F F F cx_cut1 F ?_;rintro _ _ ⟨b1,cap1,rfl,rfl⟩;dsimp only [zA,fA]) | refine ab F F F cx_num F ?_ | refine ab F F F (fa oM) F ?_) | (refine ax F F (by first | rfl | (refine decide_eq_true ?_;(assumption))) ?_) | refine ak F F F ?_ | refine dN F F (fun _=>?_) (fun _=>?_) | (refine ac F ?_ ?_;(focus ((first | rfl | (simp [*];done));done))) | refine ad F (aC oM) ?_)
  all_goals refine jZ (vs:=[_,_]) F ⟨aF F F F F,F,trivial⟩ F ⟨F,F,?_⟩
  all_goals exact ⟨⟨_,_,_,_⟩,false,F,by rw [hno];rfl⟩
 obtain ⟨hg1,hg2⟩:=hg
 have hyes : bU s k = match bc 61 c with
  | [d]=>if bB d = true then some ⟨m,b,d,[]⟩ else none
  | [d,e]=>if k = 82 ∧ bK d e = true then some ⟨m,b,d,e⟩ else none
  | _=>none:=by
  unfold bU;rw [e];simp only [hm,hg1,hg2,hk,if_false,if_true,and_self] <;> rfl
 have hp : 0 < (bc 61 c).length:=dU
 match e2 : bc 61 c,hp with
 | [d],_ =>
  rw [e2] at hyes
  have cx_cut2:=jv (G:=G) (k:=61) 1 oM e2 rfl oM
  refine jE [(0,_),(1,_)] Tryz.func156 Tryz.ntmps156 fun B hB=>?_
  repeat' (first | refine jR ?_ | (refine jo ?_;first | refine jL fun _=>?_ | refine jV (av F) ?_ | refine aG F ?_ | refine ar F ?_ | refine jV (al F F) ?_ | refine jD F F F ?_ | refine jC F F F ?_ | refine jV (aA F F oM) ?_ | refine jV (aN F F oM) ?_ | refine ah F ?_ | refine jV (f9 F F F) ?_ | (refine dl F F F cx_cut1 F ?_;rintro _ _ ⟨b1,cap1,rfl,rfl⟩;dsimp only [zA,fA]) | (refine dl F F F cx_cut2 F ?_;rintro _ _ ⟨b2,cap2,rfl,rfl⟩;dsimp only [zA,fA]) | refine ab F F F cx_num F ?_ | refine ab F F F (fa oM) F ?_) | refine ax F F F ?_ | (refine ak F F (by first | rfl | (refine decide_eq_false ?_;(omega))) ?_) | (refine ad F ?_ ?_;(focus ((first | rfl | (refine decide_eq_false ?_;(omega)) | (simp [*];done));done))) | (refine aj (dY (id:=15) (tt:=4) F ai ?_);refine jW 10 [1] (aa 11 2) ?_;(refine jG (aa 11 3) 0 F (bD F F F F) ?_);(refine jG (aa 11 7) 2 F (av F) ?_);refine jW 6 [3,4] (aa 11 31) ?_;(try (refine Nx.re (d:=87) (v':=Bo true) F (congrArg Value.bool F) ?_));refine jW 5 [5] (aa 11 63) ?_;(refine jG (aa 11 127) 6 F (aq F F F) ?_);(refine jA 7 F ?_;(refine ab F F F mK F ?_);refine jK (aa 11 255) ?_);((refine jG (aa 11 511) 8 F (a6 F F ?_) ?_;(focus ((rfl);done))));refine jA 9 F ?_;(refine jC F F F ?_);refine jK (aa 11 1023) ?_;refine jW 0 [10] (aa 11 2047) ?_;refine jQ ?_))
  all_goals refine jZ (vs:=[_,_]) F ⟨aF F F F F,F,trivial⟩ F ⟨F,F,?_⟩
  all_goals exact ⟨⟨m,b,d,[]⟩,bB d,F,hyes⟩
 | [d,f],_=>exact pq h e hk hm hg1 hg2 e2
 | d :: f :: g :: r,_ =>
  rw [e2] at hyes
  have cx_cut2:=jv (G:=G) (k:=61) (r.length + 3) oM e2 (by simp) oM
  refine jE [(0,_),(1,_)] Tryz.func156 Tryz.ntmps156 fun B hB=>?_
  repeat' (first | refine jR ?_ | (refine jo ?_;first | refine jL fun _=>?_ | refine jV (av F) ?_ | refine aG F ?_ | refine ar F ?_ | refine jV (al F F) ?_ | refine jD F F F ?_ | refine jC F F F ?_ | refine jV (aA F F oM) ?_ | refine jV (aN F F oM) ?_ | refine ah F ?_ | refine jV (f9 F F F) ?_ | (refine dl F F F cx_cut1 F ?_;rintro _ _ ⟨b1,cap1,rfl,rfl⟩;dsimp only [zA,fA]) | (refine dl F F F cx_cut2 F ?_;rintro _ _ ⟨b2,cap2,rfl,rfl⟩;dsimp only [zA,fA]) | refine ab F F F cx_num F ?_ | refine ab F F F (fa oM) F ?_) | refine ax F F F ?_ | (refine ak F F (by first | rfl | (refine decide_eq_false ?_;(omega))) ?_) | (refine ad F ?_ ?_;(focus ((first | rfl | (refine decide_eq_false ?_;(omega)) | (simp [*];done));done))) | (refine aj (dY (id:=15) (tt:=4) F ai ?_);refine jW 10 [1] (aa 11 2) ?_;(refine jG (aa 11 3) 0 F (bD F F F F) ?_);(refine jG (aa 11 7) 2 F (av F) ?_);refine jW 6 [3,4] (aa 11 31) ?_;(try (refine Nx.re (d:=87) (v':=Bo false) F (congrArg Value.bool F) ?_));refine jW 5 [5] (aa 11 63) ?_;(refine jN (aa 11 127) 6 F ?_);(refine jN (aa 11 255) 7 F ?_);((refine jG (aa 11 511) 8 F (aJ F F ?_) ?_;(focus ((rfl);done))));refine jA 9 F ?_;(refine jC F F F ?_);refine jK (aa 11 1023) ?_;refine jW 0 [10] (aa 11 2047) ?_;refine jQ ?_))
  all_goals refine jZ (vs:=[_,_]) F ⟨aF F F F F,F,trivial⟩ F ⟨F,F,?_⟩
  all_goals exact ⟨⟨m,b,d,[]⟩,false,F,hyes⟩
theorem lX {s : ac8} {k : Nat} (h : s.length ≤ 1000) : an ac7 156 [S s,U8 k] G (kX s k):=by
 by_cases h2 : (bc 58 s).length = 2
 ·match e : bc 58 s,h2 with
  | [a,b],_=>exact p9 h e
 by_cases h3 : (bc 58 s).length = 3
 ·match e : bc 58 s,h3 with
  | [a,b,c],_=>exact p8 h e
 exact qb h h2 h3
theorem sA {s : ac8} {k : Nat} (h : s.length ≤ 100000000) : bn ac7 114 [S s,U8 k] G (fun v G'=>be G' v 1 (bc k s).length (aE dG (bc k s))):=by
 refine bM.shutP ((t9 (G:=G) (k:=k) h).mono ?_)
 rintro v G' L' ⟨h1,h2,_⟩
 exact ⟨h1,v,_,_,_,_,h2,fun G' _ h3=>by rw [← vv];exact h3⟩
abbrev uv : TypeId:=112
abbrev qi : TypeId:=110
def abp (s : ac8) (v : Value) (G : Gh) : Prop:=∃ fv t ok,v = Tu [Ag [U8 (t : Ty).sort,S t.name,fv],Bo ok] ∧ (da s = if ok = true then some t else none) ∧ be G fv 4 t.fields.length (aE g5 t.fields)
theorem be.nil0 {G : Gh} {sz : Nat} : be G aI sz 0 []:=⟨by simp,.inl ⟨rfl,rfl⟩⟩
theorem r8 {α : Type} [Inhabited α] {xs : List α} {i : Nat} (h : i < xs.length) : xs.drop i = ae xs i :: xs.drop (i + 1):=by rw [aW h];exact (List.getElem_cons_drop (h:=h)).symm
theorem qW.sl {v : Value} {m : Nat} (h : qW v m) : ∃ a cap,v = .slice a m cap:=by
 rcases h with ⟨rfl,rfl⟩ | ⟨b,cap,rfl,_⟩
 ·exact ⟨none,0,F⟩
 ·exact ⟨_,cap,F⟩
theorem kY {c : UInt8} {r : ac8} (h : (aH 61 r).2.2 = false) : da (c :: r) = none:=by
 unfold da
 split
 ·rfl
 ·rename_i h1;cases h1
  split
  ·rename_i h2;rw [h2] at h;cases h
  ·rfl
theorem mU {c : UInt8} {r name rest : ac8} (h : aH 61 r = (name, rest, true)) : da (c :: r) = if ce name = true ∧ ec c.toNat then
        if rest = [] then (if c.toNat = 82 then some ⟨82,name,[]⟩ else none)
        else match cZ c.toNat (bc 44 rest) [] with
          | some fs=>if fs.length ≤ 8 then some ⟨c.toNat,name,fs⟩ else none
          | none=>none
      else none:=by
  unfold da
  simp only [h];rfl
theorem sy {s : ac8} (h : s.length ≤ 1000) : bn ac7 115 [S s] G (abp s):=by
  refine jB [(0,_)] Tryz.func115 Tryz.ntmps115 fun B hok hB hW=>?_
  repeat' (first | refine jR ?_ | (refine jo ?_;refine jL fun _=>?_))
  rename_i x
  refine aT (ι:=Nat) (fun i=>i ≤ s.length ∧ ∀ k,k < i → bt s k ≠ 61) (fun i=>[(0,S s),(2,Pt x 0),(4,I i)]) (fun _=>G) (fun i=>[.blk x (.cells [U8 0,S [],aI].toArray qi (0,0))]) (fun i=>s.length - i) 0 ?_ tU F aZ (fun i Hi=>?_)
  · exact ⟨oM,fun k hk=>absurd hk oM⟩
  by_cases hi : i < s.length ∧ bt s i ≠ 61
  · repeat' (first | refine jM ?_ | (refine jo ?_;refine aG F ?_) | refine ax F F (ay oM) ?_ | (refine ac F ?_ ?_;(focus ((simp;omega);done))))
    refine aY (i + 1) ⟨oM,fun k hk=>?_⟩ oM tU F aZ
    rcases Nat.lt_or_ge k i with h3 | h3
    · exact Hi.2 k h3
    · have : k = i:=oM
      subst this;exact hi.2
  rcases Nat.lt_or_ge i s.length with hlt | hge
  case inr =>
    have hno : da s = none:=by
      match s,Hi,hge with
      | [],_,_=>rfl
      | c :: r,Hi,hge =>
        refine kY ?_
        rw [p6 fun j hj=>by have:=Hi.2 (j + 1) (by simp at hge;omega);rwa [dW] at this]
    repeat' (first | refine jR ?_ | (refine jo ?_;first | refine aG F ?_ | refine ar F ?_ | refine jV (al F F) ?_ | refine jC F F F ?_) | refine ak F F (aC oM) ?_ | refine dN F F (fun _=>?_) (fun _=>?_) | (refine ac F (by first | rfl | (refine decide_eq_true ?_;(omega))) ?_) | refine ad F F ?_)
    all_goals refine jZ (vs:=[_,_]) F ⟨aF F F F F,F,trivial⟩ F ⟨Gh.le.refl _,F,?_⟩
    all_goals exact ⟨aI,default,false,F,by rw [hno];rfl,be.nil0⟩
  have h61 : bt s i = 61:=by
    rcases Nat.lt_or_ge (bt s i) 61 with h1 | h1
    · exact absurd ⟨hlt,oM⟩ hi
    · rcases Nat.lt_or_ge 61 (bt s i) with h2 | h2
      · exact absurd ⟨hlt,oM⟩ hi
      · omega
  match s,i,Hi,hlt,h61,h with
  | c :: r,0,Hi,hlt,h61,h =>
    have hno : da (c :: r) = none:=by
      rw [bi] at h61
      cases ht : (aH 61 r).2.2 with
      | false=>exact kY ht
      | true =>
        rw [mU (c:=c) (r:=r) (name:=(aH 61 r).1) (rest:=(aH 61 r).2.1) (by rw [← ht])]
        rw [if_neg]
        rintro ⟨_,h2⟩
        unfold ec at h2;omega
    have h62 : bt (c :: r) ((0 : Nat) : Int).toNat = 61:=h61
    repeat' (first | refine jM ?_ | (refine jo ?_;first | refine aG F ?_ | refine jV (al F F) ?_ | refine jC F F F ?_) | (refine ax F F (by first | rfl | (refine decide_eq_true ?_;(omega))) ?_) | refine ac F F ?_ | refine ad F (aC oM) ?_)
    all_goals refine jZ (vs:=[_,_]) F ⟨aF F F F F,F,trivial⟩ F ⟨Gh.le.refl _,F,?_⟩
    all_goals exact ⟨aI,default,false,F,by rw [hno];rfl,be.nil0⟩
  | c :: r,j + 1,Hi,hlt,h61,h =>
    have hj : j < r.length:=by simpa using hlt
    have hcut1 : aH 61 r = (r.take j,r.drop (j + 1),true):=m9 hj (fun k hk=>by have:=Hi.2 (k + 1) oM;rwa [dW] at this) (by rwa [dW] at h61)
    have hty:=mU (c:=c) hcut1
    have h62 : bt (c :: r) ((j + 1 : Nat) : Int).toNat = 61:=h61
    have e0 : bt (c :: r) (Int.toNat 0) = c.toNat:=bi c r
    have hnl : (r.take j).length ≤ 1000:=by simp at h ⊢;omega
    have cx_nm:=fa (G:=G) (s:=r.take j) oM
    by_cases hg : ce (r.take j) = true ∧ ec c.toNat
    case neg =>
      have hno : da (c :: r) = none:=by rw [hty,if_neg hg]
      by_cases hn : ce (r.take j) = true
      · have hn2 : (!ce (r.take j)) = false:=by rw [hn];rfl
        have hns : ¬ ec c.toNat:=fun h=>hg ⟨hn,h⟩
        unfold ec at hns
        repeat' (first | refine jM ?_ | (refine jo ?_;first | refine aG F ?_ | refine ar F ?_ | refine jC F F F ?_ | refine ah F ?_ | refine aB F ?_ | refine ab F F F cx_nm F ?_) | refine ax F F (ay oM) ?_ | (refine ak F F (by first | rfl | assumption) ?_) | refine ac F (ay oM) ?_ | refine ad F (aC oM) ?_ | (refine aj (am (id:=6) _ (fun _ h=>h) ai ?_);refine jW 3 [0,1,2,3,4] (aa 8 31) ?_;(refine jG (aa 8 63) 5 F (al F F) ?_);refine jA 6 F ?_;(refine jL fun _=>?_);refine jK (aa 8 127) ?_;refine jA 7 F ?_;(refine jC F F F ?_);refine jK (aa 8 255) ?_;refine jQ ?_))
        all_goals refine jZ (vs:=[_,_]) F ⟨aF F F F F,F,trivial⟩ F ⟨Gh.le.refl _,F,?_⟩
        all_goals exact ⟨aI,⟨_,_,[]⟩,false,F,by rw [hno];rfl,be.nil0⟩
      · have hn2 : (!ce (r.take j)) = true:=by simpa using hn
        repeat' (first | refine jM ?_ | (refine jo ?_;first | refine aG F ?_ | refine ar F ?_ | refine jC F F F ?_ | refine ah F ?_ | refine aB F ?_ | refine ab F F F cx_nm F ?_) | (refine ax F F (by first | assumption | (refine decide_eq_true ?_;(omega))) ?_) | refine ak F F F ?_ | refine ac F F ?_ | refine ad F (aC oM) ?_ | (refine aj (am (id:=6) _ (fun _ h=>h) ai ?_);refine jW 3 [0,1,2,3,4] (aa 8 31) ?_;(refine jG (aa 8 63) 5 F (al F F) ?_);refine jA 6 F ?_;(refine jL fun _=>?_);refine jK (aa 8 127) ?_;refine jA 7 F ?_;(refine jC F F F ?_);refine jK (aa 8 255) ?_;refine jQ ?_))
        all_goals refine jZ (vs:=[_,_]) F ⟨aF F F F F,F,trivial⟩ F ⟨Gh.le.refl _,F,?_⟩
        all_goals exact ⟨aI,⟨_,_,[]⟩,false,F,by rw [hno];rfl,be.nil0⟩
    have hn2 : (!ce (r.take j)) = false:=by rw [hg.1];rfl
    have hs2:=hg.2
    unfold ec at hs2
    rw [if_pos hg] at hty
    by_cases hrest : r.drop (j + 1) = []
    · rw [if_pos hrest] at hty
      by_cases h82 : c.toNat = 82
      · rw [if_pos h82] at hty
        have e82 : bt (c :: r) (Int.toNat 0) = 82:=oM
        repeat' (first | refine jM ?_ | (refine jo ?_;first | refine aG F ?_ | refine ar F ?_ | refine ah F ?_ | refine ab F F F cx_nm F ?_) | refine ax F F (ay oM) ?_ | (refine ak F F (by first | rfl | assumption | (refine decide_eq_false ?_;(omega))) ?_) | refine ac F (ay ‹_›) ?_ | (refine ad F (by first | rfl | (refine decide_eq_false ?_;(omega))) ?_) | (refine aj (am (id:=6) _ (fun _ h=>h) ai ?_);refine jW 3 [0,1,2,3,4] (aa 8 31) ?_;(refine jG (aa 8 63) 5 F (al F F) ?_);refine jA 6 F ?_;(refine jL fun _=>?_);refine jK (aa 8 127) ?_;refine jA 7 F ?_;(refine jC F F F ?_);refine jK (aa 8 255) ?_;refine jQ ?_) | (refine aj (dY (id:=10) (tt:=2) F ai ?_);refine jW 5 [1] (aa 6 2) ?_;(refine jG (aa 6 3) 0 F (bD F F F F) ?_);(refine jG (aa 6 7) 2 F (aq F F F) ?_);refine jW 2 [3] (aa 6 15) ?_;refine jA 4 F ?_;(refine jC F F F ?_);refine jK (aa 6 31) ?_;refine jW 0 [5] (aa 6 63) ?_;refine jQ ?_))
        all_goals refine jZ (vs:=[_,_]) F ⟨aF F F F F,F,trivial⟩ F ⟨Gh.le.refl _,F,?_⟩
        all_goals refine ⟨aI,⟨82,r.take j,[]⟩,true,?_,hty,be.nil0⟩
        all_goals show Tu [Ag [U8 (bt (c :: r) (Int.toNat 0) : Nat),S (r.take j),aI],Bo (decide (((bt (c :: r) (Int.toNat 0) : Nat) : Int) = 82))] = _
        all_goals (rw [e82];rfl)
      · rw [if_neg h82] at hty
        have e82 : ¬ bt (c :: r) (Int.toNat 0) = 82:=oM
        have e83 : decide (((bt (c :: r) (Int.toNat 0) : Nat) : Int) = 82) = false:=decide_eq_false oM
        repeat' (first | refine jM ?_ | (refine jo ?_;first | refine aG F ?_ | refine ar F ?_ | refine ah F ?_ | refine ab F F F cx_nm F ?_) | refine ax F F (ay oM) ?_ | (refine ak F F (by first | rfl | assumption) ?_) | refine dN F F (fun _=>?_) (fun _=>?_) | refine ac F (ay ‹_›) ?_ | (refine ad F (by first | rfl | (refine decide_eq_false ?_;(omega))) ?_) | (refine aj (am (id:=6) _ (fun _ h=>h) ai ?_);refine jW 3 [0,1,2,3,4] (aa 8 31) ?_;(refine jG (aa 8 63) 5 F (al F F) ?_);refine jA 6 F ?_;(refine jL fun _=>?_);refine jK (aa 8 127) ?_;refine jA 7 F ?_;(refine jC F F F ?_);refine jK (aa 8 255) ?_;refine jQ ?_) | (refine aj (dY (id:=10) (tt:=2) F ai ?_);refine jW 5 [1] (aa 6 2) ?_;(refine jG (aa 6 3) 0 F (bD F F F F) ?_);(refine jG (aa 6 7) 2 F (aq F F F) ?_);refine jW 2 [3] (aa 6 15) ?_;refine jA 4 F ?_;(refine jC F F F ?_);refine jK (aa 6 31) ?_;refine jW 0 [5] (aa 6 63) ?_;refine jQ ?_))
        all_goals refine jZ (vs:=[_,_]) F ⟨aF F F F F,F,trivial⟩ F ⟨Gh.le.refl _,F,?_⟩
        all_goals refine ⟨aI,⟨bt (c :: r) (Int.toNat 0),r.take j,[]⟩,false,?_,hty,be.nil0⟩
        all_goals show Tu [Ag [U8 (bt (c :: r) (Int.toNat 0) : Nat),S (r.take j),aI],Bo (decide (((bt (c :: r) (Int.toNat 0) : Nat) : Int) = 82))] = _
        all_goals (rw [e83])
    rw [if_neg hrest] at hty
    have hrl : (r.drop (j + 1)).length ≤ 1000:=by simp at h ⊢;omega
    have hcl:=kj (k:=44) (s:=r.drop (j + 1))
    have cx_cutS:=sA (G:=G) (s:=r.drop (j + 1)) (k:=44) oM
    have hall : ∀ y ∈ bc 44 (r.drop (j + 1)),y.length ≤ 1000:=fun y hy=>Nat.le_trans (dn hy) hrl
    generalize hxs : bc 44 (r.drop (j + 1)) = xs at *
    rcases hs2 with h1 | h1 | h1
    all_goals repeat' (first | refine jM ?_ | (refine jo ?_;first | refine aG F ?_ | refine ar F ?_ | refine ah F ?_ | refine ab F F F cx_nm F ?_ | (refine aK F F F cx_cutS F ?_;rintro _ G hle hcut;skip)) | refine ax F F (ay oM) ?_ | (refine ak F F (by first | rfl | assumption | (refine decide_eq_false ?_;(omega))) ?_) | (refine ad F (by first | rfl | (refine decide_eq_false ?_;first | assumption | omega)) ?_) | (refine aj (am (id:=6) _ (fun _ h=>h) ai ?_);refine jW 3 [0,1,2,3,4] (aa 8 31) ?_;(refine jG (aa 8 63) 5 F (al F F) ?_);refine jA 6 F ?_;(refine jL fun _=>?_);refine jK (aa 8 127) ?_;refine jA 7 F ?_;(refine jC F F F ?_);refine jK (aa 8 255) ?_;refine jQ ?_))
    all_goals rename_i y v
    all_goals refine Nx.addNil uv 4 ?_
    all_goals refine aT (ι:=Value × List Fld × Nat) (fun i=>i.2.2 ≤ xs.length ∧ i.2.1.length ≤ i.2.2 ∧ cZ c.toNat (xs.drop i.2.2) i.2.1 = cZ c.toNat xs []) (fun i=>[(2,Pt x 0),(5,Pt y 0),(6,v),(7,I i.2.2)]) (fun _=>G) (fun i=>[.acc i.1 uv 4 i.2.1.length (aE g5 i.2.1),.blk y (.cells [U8 (bt (c :: r) (Int.toNat 0) : Nat),S (r.take j),i.1].toArray qi (0,0)),.blk x (.cells [U8 0,S [],aI].toArray qi (0,0))]) (fun i=>xs.length - i.2.2) (aI,[],0) ?_ tU F aZ (fun i Hi=>?_)
    all_goals (first | exact ⟨Nat.zero_le _,Nat.le_refl _,F⟩ | skip)
    all_goals obtain ⟨u,fs,i⟩:=i
    all_goals dsimp only at Hi ⊢
    all_goals obtain ⟨hi1,hi2,hi3⟩:=Hi
    all_goals refine Nx.shp (v:=u) (.head _) fun hsh=>?_
    all_goals (have hsh2:=hsh;obtain ⟨au,cu,rfl⟩:=hsh.sl)
    all_goals by_cases hix : i < xs.length
    all_goals try (rw [r8 hix,cZ] at hi3;obtain ⟨bv,ov,cv,rfl,hsv⟩:=hcut.expl oM;have hx:=hall _ (bP hix))
    all_goals repeat' (first | refine jR ?_ | (refine jo ?_;first | refine jC F F F ?_ | refine aB F ?_ | refine jV (av F) ?_ | refine jV (d2 F aS) ?_) | refine ac F (ay oM) ?_ | refine ad F (aC oM) ?_ | refine gX F (fun _=>?_) (fun _=>?_) | (refine aj (am (id:=15) _ (fun _ h=>h) ai ?_);refine jT 10 [0,1,4] (aa 13 19) ?_;(refine jG (aa 13 23) 2 F (aA F F oM) ?_);((refine jG (aa 13 31) 3 F (it F F aS ?_) ?_;focus omega));(refine jG (aa 13 63) 5 F (aq F F F) ?_);refine bA [6,10] kR dC ⟨?_,?_,trivial⟩;(focus (refine aM F F ?_;(refine cN F F F (lX oM) F ?_;rintro _ ⟨f,ok,rfl,hfld⟩);refine jK (aa 13 127) ?_;refine jW 3 [7,8,9] (aa 13 1023) ?_;refine jA 10 F ?_;(refine jL fun _=>?_);refine jK (aa 13 2047) ?_;refine jA 11 F ?_;(refine jC F F F ?_);refine jK (aa 13 4095) ?_;refine jW 0 [12] (aa 13 8191) ?_;refine jQ ?_));rotate_left 1;(focus (refine aM F F ?_;(refine jL fun _=>?_);refine jK (aa 13 1087) ?_;refine jA 6 F ?_;(refine cN F F F (lX oM) F ?_;rintro _ ⟨f,ok,rfl,hfld⟩);refine jK (aa 13 1151) ?_;refine jW 2 [7,8,9] (aa 13 2047) ?_;refine jA 11 F ?_;(refine jC F F F ?_);refine jK (aa 13 4095) ?_;refine jW 0 [12] (aa 13 8191) ?_;refine jQ ?_));rotate_left 1) | (refine aj (dY (id:=24) (tt:=2) F ai ?_);refine jW 6 [1] (aa 7 2) ?_;(refine jG (aa 7 3) 0 F (bD F F F F) ?_);(refine jG (aa 7 7) 2 F (aq F F F) ?_);(refine jG (aa 7 15) 3 F (av F) ?_);refine jW 2 [4] (aa 7 31) ?_;refine jA 5 F ?_;(refine jC F F F ?_);refine jK (aa 7 63) ?_;refine jW 0 [6] (aa 7 127) ?_;refine jQ ?_))
    all_goals first
      | (rename_i z hq
         have hq2 : ok = false:=by simpa using hq
         subst hq2
         have hf0 : bU (ae xs i) c.toNat = none:=hfld
         have hno : da (c :: r) = none:=by rw [hf0] at hi3;rw [hty,← hi3]
         refine Nx.sealS (v:=.slice au fs.length cu) fun G' hle2 hsl=>?_
         refine jZ (vs:=[_,_]) F ⟨aF F F F F,F,trivial⟩ F ⟨hle.trans hle2,F,?_⟩
         exact ⟨.slice au fs.length cu,⟨bt (c :: r) (Int.toNat 0),r.take j,fs⟩,false,F,by rw [hno];rfl,hsl⟩)
      | (have ei : i = xs.length:=oM
         have hyes : da (c :: r) = if fs.length ≤ 8 then some ⟨c.toNat,r.take j,fs⟩ else none:=by
           rw [ei,List.drop_length,cZ] at hi3
           rw [hty,← hi3]
         refine Nx.sealS (v:=.slice au fs.length cu) fun G' hle2 hsl=>?_
         refine jZ (vs:=[_,_]) F ⟨aF F F F F,F,trivial⟩ F ⟨hle.trans hle2,F,?_⟩
         refine ⟨.slice au fs.length cu,⟨c.toNat,r.take j,fs⟩,decide (fs.length ≤ 8),?_,by rw [hyes];simp,hsl⟩
         rw [dM,e0]
         refine congrArg (fun x=>Tu [_,Bo x]) (decide_eq_decide.2 ?_)
         omega)
      | (rename_i z hq
         have hq2 : ok = true:=by simpa using hq
         subst hq2
         have hf1 : bU (ae xs i) c.toNat = some f:=hfld
         rw [hf1] at hi3
         dsimp only at hi3
         refine aT (ι:=Nat) (fun k=>k ≤ fs.length ∧ ∀ m,m < k → (ae fs m).tag < f.tag ∧ (ae fs m).name ≠ f.name) (fun k=>[(2,Pt x 0),(5,Pt y 0),(6,.slice (some ⟨bv,ov,none⟩) xs.length cv),(7,I i),(8,Pt z 0),(10,I k)]) (fun _=>G) (fun k=>[.blk z (.cells (g5 f).toArray uv (0,0)),.acc (.slice au fs.length cu) uv 4 fs.length (aE g5 fs),.blk y (.cells [U8 (bt (c :: r) (Int.toNat 0) : Nat),S (r.take j),.slice au fs.length cu].toArray qi (0,0)),.blk x (.cells [U8 0,S [],aI].toArray qi (0,0))]) (fun k=>fs.length - k) 0 ?_ tU F aZ (fun k Hk=>?_)
         · exact ⟨Nat.zero_le _,fun m hm=>absurd hm oM⟩
         by_cases hk : k < fs.length
         · obtain ⟨bu,cu2,eu⟩:=hsh2.pos oM
           simp only [Value.slice.injEq] at eu
           obtain ⟨rfl,-,rfl⟩:=eu
           by_cases hbad : (ae fs k).tag < f.tag ∧ (ae fs k).name ≠ f.name
           · obtain ⟨hb1,hb2⟩:=hbad
             repeat' (first | refine jM ?_ | (refine jo ?_;first | refine ah F ?_ | refine jV (av F) ?_) | refine ac F (ay oM) ?_ | refine ad F (aC ‹_›) ?_ | (refine aj (am (id:=21) _ (fun _ h=>h) ai ?_);refine jT 17 [0,2,6] (aa 20 69) ?_;(refine jG (aa 20 71) 1 F (aq F F F) ?_);(refine jG (aa 20 79) 3 F (aA F F oM) ?_);refine jT 14 [4] (aa 20 95) ?_;(refine jG (aa 20 127) 5 F (m8 F F F oM F F) ?_);(refine jG (aa 20 255) 7 F (aq F F F) ?_);refine jT 10 [8,9] (aa 20 1023) ?_;(try ((refine Nx.re (d:=107) (v':=Bo false) F (congrArg Value.bool (aC oM)) ?_)));refine jT 7 [10,12,16] (aa 20 71679) ?_;(refine jG (aa 20 73727) 11 F (aq F F F) ?_);(refine jG (aa 20 81919) 13 F (aA F F oM) ?_);refine jT 4 [14] (aa 20 98303) ?_;(refine jG (aa 20 131071) 15 F (m8 F F F oM F F) ?_);(refine jG (aa 20 262143) 17 F (aq F F F) ?_);refine jT 1 [18] (aa 20 524287) ?_;(refine jG (aa 20 1048575) 19 F (aJ F F F) ?_);refine jQ ?_))
             refine aY (k + 1) ⟨oM,fun m hm=>?_⟩ oM tU F aZ
             rcases Nat.lt_or_ge m k with h3 | h3
             · exact Hk.2 m h3
             · have : m = k:=oM
               subst this;exact ⟨hb1,hb2⟩
           · have hfr : fresh f fs = false:=by
               unfold fresh
               rw [List.all_eq_false]
               exact ⟨ae fs k,bP hk,by simpa using hbad⟩
             have hno : da (c :: r) = none:=by
               rw [hfr,if_neg (by simp)] at hi3
               rw [hty,← hi3]
             by_cases htag : f.tag ≤ (ae fs k).tag
             case' neg => have hnm : (ae fs k).name = f.name := by
                           by_cases h6 : (ae fs k).name = f.name
                           · exact h6
                           · exact absurd ⟨oM,h6⟩ hbad
             all_goals repeat' (first | refine jR ?_ | (refine jo ?_;first | refine jC F F F ?_ | refine ah F ?_ | refine aB F ?_ | refine jV (av F) ?_) | (refine ac F (by first | rfl | (refine decide_eq_true ?_;first | assumption | omega)) ?_) | (refine aj (am (id:=21) _ (fun _ h=>h) ai ?_);refine jT 17 [0,2,6] (aa 20 69) ?_;(refine jG (aa 20 71) 1 F (aq F F F) ?_);(refine jG (aa 20 79) 3 F (aA F F oM) ?_);refine jT 14 [4] (aa 20 95) ?_;(refine jG (aa 20 127) 5 F (m8 F F F oM F F) ?_);(refine jG (aa 20 255) 7 F (aq F F F) ?_);refine jT 10 [8,9] (aa 20 1023) ?_;(try (first | (refine Nx.re (d:=107) (v':=Bo true) F (congrArg Value.bool (ay ‹_›)) ?_) | (refine Nx.re (d:=107) (v':=Bo false) F (congrArg Value.bool (aC ‹_›)) ?_)));refine jT 7 [10,12,16] (aa 20 71679) ?_;(first | refine jG (aa 20 73727) 11 F (aq F F F) ?_ | refine jN (aa 20 73727) 11 F ?_);(first | refine jG (aa 20 81919) 13 F (aA F F oM) ?_ | refine jN (aa 20 81919) 13 F ?_);refine jT 4 [14] (aa 20 98303) ?_;(first | refine jG (aa 20 131071) 15 F (m8 F F F oM F F) ?_ | refine jN (aa 20 131071) 15 F ?_);(first | refine jG (aa 20 262143) 17 F (aq F F F) ?_ | refine jN (aa 20 262143) 17 F ?_);refine jT 1 [18] (aa 20 524287) ?_;(first | refine jG (aa 20 1048575) 19 F (a6 F F F) ?_ | refine jG (aa 20 1048575) 19 F (aJ F F F) ?_);refine jQ ?_))
             all_goals refine Nx.sealS (v:=.slice (some ⟨bu,0,none⟩) fs.length cu) fun G' hle2 hsl=>?_
             all_goals refine jZ (vs:=[_,_]) F ⟨aF F F F F,F,trivial⟩ F ⟨hle.trans hle2,F,?_⟩
             all_goals exact ⟨.slice (some ⟨bu,0,none⟩) fs.length cu,⟨bt (c :: r) (Int.toNat 0),r.take j,fs⟩,false,F,by rw [hno];rfl,hsl⟩
         · have hfr : fresh f fs = true:=by
             unfold fresh
             rw [List.all_eq_true]
             intro g hg
             obtain ⟨m,hm,rfl⟩:=m6 hg
             simpa using Hk.2 m oM
           rw [hfr,if_pos rfl] at hi3
           have hxl : xs.length ≤ 1001:=oM
           repeat' (first | refine jR ?_ | (refine jo ?_;first | refine ah F ?_ | refine aB F ?_ | refine jV (av F) ?_ | refine jF fun _=>?_ | refine ng F F F F F F F F oM fun _=>?_) | refine ad F (aC oM) ?_)
           rename_i u2
           refine Nx.shp (v:=u2) (.head _) fun hs4=>?_
           obtain ⟨a4,c4,rfl⟩:=hs4.sl
           repeat' (first | refine jM ?_ | (refine jo ?_;refine jD F F F ?_))
           refine aY (.slice a4 (fs.length + 1) c4,fs ++ [f],i + 1) ⟨by dsimp only;omega,by simp;omega,hi3⟩ (by dsimp only;omega) tU rfl (by dsimp only;simp only [co,List.length_append,List.length_cons,List.length_nil,Nat.zero_add];repeat (first | exact List.Sublist.refl _ | apply List.Sublist.cons_cons | apply List.Sublist.cons)))
def iD (G : Gh) (b : Nat) (t : Ty) : Prop:=∃ fv ln,b7 G b 0 [U8 t.sort,S t.name,fv,S ln] ∧ be G fv 6 t.fields.length (aE jl t.fields)
theorem iD.mono {G G' : Gh} {b : Nat} {t : Ty} (h : iD G b t) (hl : Gh.le G G') : iD G' b t:=by
 obtain ⟨fv,ln,h1,h2⟩:=h
 exact ⟨fv,ln,h1.mono hl,h2.mono hl⟩
def abq (s : ac8) (v : Value) (G : Gh) : Prop:=(da s = none ∧ ∃ p,v = Tu [p,Bo false]) ∨ ∃ b t,v = Tu [Pt b 0,Bo true] ∧ da s = some t ∧ iD G b t
abbrev vu : TypeId:=134
abbrev tTi : TypeId:=132
theorem mC {k : Nat} : ∀ {xs : List ac8} {fs gs : List Fld},cZ k xs fs = some gs → gs.length = fs.length + xs.length
 | [],fs,gs,h=>by simp only [cZ,Option.some.injEq] at h;subst h;simp
 | x :: xs,fs,gs,h=>by
  unfold cZ at h
  split at h
  ·cases h
  ·split at h
   ·have:=mC h;simp at this ⊢;omega
   ·cases h
theorem rue (c : UInt8) : decide (0 ≤ fw c.toNat [82,85,69]) = decide (ec c.toNat):=by
 have h : ∀ n : Nat,n < 256 → decide (0 ≤ fw n [82,85,69]) = decide (ec n):=by decide +kernel
 exact h _ c.toNat_lt
theorem po {s : ac8} (h : s.length ≤ 1000) : bn ac7 121 [S s] G (abq s):=by
  match s,h with
  | [],h =>
    refine jB [(0,_)] Tryz.func121 Tryz.ntmps121 fun B hok hB hW=>?_
    repeat' (first | refine jR ?_ | (refine jo ?_;refine aG F ?_) | refine ax F F F ?_ | refine ac F F ?_)
    all_goals refine jZ (vs:=[_,_]) F ⟨F,F,trivial⟩ F ⟨Gh.le.refl _,F,?_⟩
    all_goals exact .inl ⟨F,_,F⟩
  | c :: r,h =>
    have cx_cont : an ac7 161 [S [82,85,69],S [c]] G (· = Bo (decide (ec c.toNat))):=by rw [← rue];exact va
    by_cases hs : ec c.toNat
    case neg =>
      have hno : da (c :: r) = none:=by
        cases ht : (aH 61 r).2.2 with
        | false=>exact kY ht
        | true=>rw [mU (c:=c) (r:=r) (name:=(aH 61 r).1) (rest:=(aH 61 r).2.1) (by rw [← ht]),if_neg fun h=>hs h.2]
      have hs2 : (!decide (ec c.toNat)) = true:=by simpa using hs
      refine jB [(0,_)] Tryz.func121 Tryz.ntmps121 fun B hok hB hW=>?_
      repeat' (first | refine jX ?_ | (refine jo ?_;first | refine ar F ?_ | refine ab F F F cx_cont F ?_) | refine ak F F F ?_ | refine ac F ‹_› ?_)
      all_goals refine jZ (vs:=[_,_]) F ⟨F,F,trivial⟩ F ⟨Gh.le.refl _,F,?_⟩
      all_goals exact .inl ⟨hno,_,F⟩
    have hs2 : (!decide (ec c.toNat)) = false:=by simpa using hs
    have hcl:=jm (k:=61) (s:=r)
    have hrl : r.length ≤ 1000:=by simp at h;omega
    have cx_cut : an ac7 120 [S r,S [61]] G (· = Tu [S (aH 61 r).1,S (aH 61 r).2.1,Bo (aH 61 r).2.2]):=pw (c:=61) oM
    cases ht : (aH 61 r).2.2 with
    | false =>
      rw [ht] at cx_cut
      refine jB [(0,_)] Tryz.func121 Tryz.ntmps121 fun B hok hB hW=>?_
      repeat' (first | refine jX ?_ | (refine jo ?_;first | refine aG F ?_ | refine ar F ?_ | refine ab F F F cx_cont F ?_ | refine ab F F F cx_cut F ?_) | refine ax F F F ?_ | refine ak F F F ?_ | refine ac F F ?_ | refine ad F ‹_› ?_)
      all_goals refine jZ (vs:=[_,_]) F ⟨F,F,trivial⟩ F ⟨Gh.le.refl _,F,?_⟩
      all_goals exact .inl ⟨kY ht,_,F⟩
    | true =>
      have hty:=mU (c:=c) (r:=r) (name:=(aH 61 r).1) (rest:=(aH 61 r).2.1) (by rw [← ht])
      rw [ht] at cx_cut
      generalize (aH 61 r).1 = name at *
      generalize (aH 61 r).2.1 = rest at *
      have e0 : bt (c :: r) (Int.toNat 0) = c.toNat:=bi c r
      by_cases hn : ce name = true
      case neg =>
        have hn2 : (!ce name) = true:=by simpa using hn
        have hno : da (c :: r) = none:=by rw [hty,if_neg fun h=>hn h.1]
        refine jB [(0,_)] Tryz.func121 Tryz.ntmps121 fun B hok hB hW=>?_
        repeat' (first | refine jX ?_ | (refine jo ?_;first | refine ar F ?_ | refine ab F F F cx_cont F ?_ | refine ab F F F cx_cut F ?_ | refine ab F F F (dg oM) F ?_) | refine ak F F F ?_ | refine ac F ‹_› ?_ | refine ad F ‹_› ?_)
        all_goals refine jZ (vs:=[_,_]) F ⟨F,F,trivial⟩ F ⟨Gh.le.refl _,F,?_⟩
        all_goals exact .inl ⟨hno,_,F⟩
      have hn2 : (!ce name) = false:=by rw [hn];rfl
      rw [if_pos ⟨hn,hs⟩] at hty
      by_cases hr : rest = []
      · rw [if_pos hr] at hty
        by_cases h82 : c.toNat = 82
        · rw [if_pos h82] at hty
          have e82 : bt (c :: r) (Int.toNat 0) = 82:=oM
          refine jB [(0,_)] Tryz.func121 Tryz.ntmps121 fun B hok hB hW=>?_
          repeat' (first | refine jX ?_ | (refine jo ?_;first | refine ar F ?_ | refine jV (al F F) ?_ | refine jO fun _=>?_ | refine ab F F F cx_cont F ?_ | refine ab F F F cx_cut F ?_ | refine ab F F F (dg oM) F ?_) | refine ak F F F ?_ | refine ac F (ay ‹_›) ?_ | refine ad F ‹_› ?_ | (refine aj (am (id:=8) _ (fun _ h=>h) ai ?_);refine jT 3 [0,1,2,3,6] (aa 8 79) ?_;(refine jG (aa 8 95) 4 F (aq F F F) ?_);refine jT 0 [5,7] (aa 8 255) ?_;refine jQ ?_))
          rename_i x
          refine Nx.sealC (b:=x) fun G' hle hseg=>?_
          refine jZ (vs:=[_,_]) F ⟨F,F,trivial⟩ F ⟨hle,F,?_⟩
          rw [e82] at hseg
          refine .inr ⟨x,⟨82,name,[]⟩,?_,hty,_,_,hseg,be.nil0⟩
          show Tu [Pt x 0,Bo (decide (((bt (c :: r) (Int.toNat 0) : Nat) : Int) = 82))] = _
          rw [e82];rfl
        · rw [if_neg h82] at hty
          have e82 : ¬ bt (c :: r) (Int.toNat 0) = 82:=oM
          refine jB [(0,_)] Tryz.func121 Tryz.ntmps121 fun B hok hB hW=>?_
          repeat' (first | refine jX ?_ | (refine jo ?_;first | refine ar F ?_ | refine jV (al F F) ?_ | refine jO fun _=>?_ | refine ab F F F cx_cont F ?_ | refine ab F F F cx_cut F ?_ | refine ab F F F (dg oM) F ?_) | refine ak F F F ?_ | refine ac F (ay ‹_›) ?_ | refine ad F ‹_› ?_ | (refine aj (am (id:=8) _ (fun _ h=>h) ai ?_);refine jT 3 [0,1,2,3,6] (aa 8 79) ?_;(refine jG (aa 8 95) 4 F (aq F F F) ?_);refine jT 0 [5,7] (aa 8 255) ?_;refine jQ ?_))
          all_goals refine jZ (vs:=[_,_]) F ⟨F,F,trivial⟩ F ⟨Gh.le.refl _,F,?_⟩
          all_goals exact .inl ⟨hty,_,by rw [dM,decide_eq_false (show ¬ ((bt (c :: r) (Int.toNat 0) : Nat) : Int) = 82 by omega)]⟩
      · rw [if_neg hr] at hty
        have hall : ∀ y ∈ bc 44 rest,y.length ≤ 1000:=fun y hy=>Nat.le_trans (dn hy) oM
        have hcnt:=kj (k:=44) (s:=rest)
        have cx_split : bn ac7 162 [S rest,S [44]] G (fun v G'=>∃ b o cap,v = .slice (some ⟨b,o,none⟩) (bc 44 rest).length cap ∧ b7 G' b o (aE dG (bc 44 rest))):=lI (c:=44) _ oM rfl rfl rfl dU
        generalize bc 44 rest = xs at *
        refine jB [(0,_)] Tryz.func121 Tryz.ntmps121 fun B hok hB hW=>?_
        repeat' (first | refine jX ?_ | (refine jo ?_;first | refine ar F ?_ | refine jV (al F F) ?_ | refine jO fun _=>?_ | refine jV (av F) ?_ | refine ab F F F cx_cont F ?_ | refine ab F F F cx_cut F ?_ | refine ab F F F (dg oM) F ?_ | (refine aK F F F cx_split F ?_;rintro _ G hle ⟨b1,o1,cap1,rfl,hseg⟩;skip)) | refine ak F F F ?_ | (refine ad F (by first | assumption | (refine decide_eq_false ?_;(assumption))) ?_))
        rename_i x
        have hle0:=hle
        refine Nx.addNil vu 6 ?_
        refine aT (ι:=Value × List Fld × Nat × Gh) (fun i=>((i.2.2.1 ≤ xs.length ∧ i.2.1.length ≤ i.2.2.1) ∧ i.2.1.length ≤ 8) ∧ cZ c.toNat (xs.drop i.2.2.1) i.2.1 = cZ c.toNat xs [] ∧ Gh.le G i.2.2.2) (fun i=>[(7,Pt x 0),(51,.slice (some ⟨b1,o1,none⟩) xs.length cap1),(52,I xs.length),(53,I i.2.2.1)]) (fun i=>i.2.2.2) (fun i=>[.acc i.1 vu 6 i.2.1.length (aE jl i.2.1),.blk x (.cells [U8 (bt (c :: r) (Int.toNat 0) : Nat),S name,i.1,S (c :: r)].toArray tTi (0,0))]) (fun i=>xs.length - i.2.2.1) (aI,[],0,G) ?_ tU F aZ (fun i Hi=>?_)
        · exact ⟨⟨⟨Nat.zero_le _,Nat.le_refl _⟩,by simp⟩,F,Gh.le.refl _⟩
        obtain ⟨u,fs,i,Gk⟩:=i
        dsimp only at Hi ⊢
        obtain ⟨⟨⟨hi1,hi2⟩,hi8⟩,hi3,hgk⟩:=Hi
        have hsk:=hseg.mono hgk
        refine Nx.shp (v:=u) (.head _) fun hsh=>?_
        have hsh2:=hsh
        obtain ⟨au,cu,rfl⟩:=hsh.sl
        by_cases hix : i < xs.length
        case neg =>
          have ei : i = xs.length:=oM
          rw [ei,List.drop_length,cZ] at hi3
          have hyes : da (c :: r) = some ⟨c.toNat,name,fs⟩:=by rw [hty,← hi3];exact if_pos hi8
          repeat' (first | refine jR ?_ | refine ad F (aC oM) ?_)
          refine Nx.sealS (v:=.slice au fs.length cu) fun G1 hle1 hsl=>?_
          refine Nx.sealC (b:=x) fun G2 hle2 hsg2=>?_
          refine jZ (vs:=[_,_]) F ⟨F,F,trivial⟩ F ⟨((hle.trans hgk).trans hle1).trans hle2,F,?_⟩
          exact .inr ⟨x,⟨c.toNat,name,fs⟩,F,hyes,_,_,hsg2,hsl.mono hle2⟩
        rw [r8 hix,cZ] at hi3
        have hx:=hall _ (bP hix)
        repeat' (first | refine jR ?_ | (refine jo ?_;first | refine aG F ?_ | refine ar F ?_ | refine ah F ?_ | (refine jV (it F F aS ?_) ?_;focus omega) | refine jV (av F) ?_ | refine jV (aA F F oM) ?_ | refine jL fun _=>?_ | refine jC F F F ?_ | (refine aK F F F (ta oM) F ?_;rintro _ G hle ⟨f,ok,rfl,hfld⟩;skip)) | refine jj F F (fun _=>?_) (fun _=>?_) | (refine ac F (by first | rfl | (refine decide_eq_true ?_;(omega))) ?_) | refine cB F (fun _=>?_) (fun _=>?_))
        all_goals first
          | (rename_i z hq h8
             have hq2 : ok = true:=by simpa using hq
             subst hq2
             have hf1 : bU (ae xs i) c.toNat = some f:=hfld
             rw [hf1] at hi3
             dsimp only at hi3
             have h9 : fs.length = 8:=oM
             have hno : da (c :: r) = none:=by
               rw [hty]
               cases hgs : cZ c.toNat xs [] with
               | none=>rfl
               | some gs =>
                 rw [hgs] at hi3
                 split at hi3
                 · have:=mC hi3
                   simp at this
                   exact if_neg oM
                 · cases hi3
             refine jZ (vs:=[_,_]) F ⟨F,F,trivial⟩ F ⟨(hle0.trans hgk).trans hle,F,?_⟩
             exact .inl ⟨hno,_,F⟩)
          | (rename_i z hq
             have hq2 : ok = false:=by simpa using hq
             subst hq2
             have hf0 : bU (ae xs i) c.toNat = none:=hfld
             have hno : da (c :: r) = none:=by rw [hf0] at hi3;rw [hty,← hi3]
             refine jZ (vs:=[_,_]) F ⟨F,F,trivial⟩ F ⟨(hle0.trans hgk).trans hle,F,?_⟩
             exact .inl ⟨hno,_,F⟩)
          | (rename_i z hq h8
             have hq2 : ok = true:=by simpa using hq
             subst hq2
             have hf1 : bU (ae xs i) c.toNat = some f:=hfld
             rw [hf1] at hi3
             dsimp only at hi3
             have h9 : fs.length ≠ 8:=oM
             refine aT (ι:=Nat) (fun k=>k ≤ fs.length ∧ ∀ m,m < k → (ae fs m).tag < f.tag ∧ (ae fs m).name ≠ f.name) (fun k=>[(7,Pt x 0),(10,Pt z 0),(51,.slice (some ⟨b1,o1,none⟩) xs.length cap1),(52,I xs.length),(53,I i),(79,.slice au fs.length cu),(80,I fs.length),(81,I k)]) (fun _=>G) (fun k=>[.blk z (.cells (jl f).toArray vu (0,0)),.acc (.slice au fs.length cu) vu 6 fs.length (aE jl fs),.blk x (.cells [U8 (bt (c :: r) (Int.toNat 0) : Nat),S name,.slice au fs.length cu,S (c :: r)].toArray tTi (0,0))]) (fun k=>fs.length - k) 0 ?_ tU F aZ (fun k Hk=>?_)
             · exact ⟨Nat.zero_le _,fun m hm=>absurd hm oM⟩
             by_cases hk : k < fs.length
             · obtain ⟨bu,cu2,eu⟩:=hsh2.pos oM
               simp only [Value.slice.injEq] at eu
               obtain ⟨rfl,-,rfl⟩:=eu
               by_cases hbad : (ae fs k).tag < f.tag ∧ (ae fs k).name ≠ f.name
               · obtain ⟨hb1,hb2⟩:=hbad
                 repeat' (first | refine jM ?_ | (refine jo ?_;first | refine ar F ?_ | refine ah F ?_ | refine jV (vN F F F oM) ?_ | refine jV (aA F F oM) ?_ | refine jL fun _=>?_ | refine jC F F F ?_) | refine ak F F (aC ‹_›) ?_ | refine ac F (ay oM) ?_ | refine ad F (aC oM) ?_)
                 refine aY (k + 1) ⟨oM,fun m hm=>?_⟩ oM tU F sB
                 rcases Nat.lt_or_ge m k with h3 | h3
                 · exact Hk.2 m h3
                 · have : m = k:=oM
                   subst this;exact ⟨hb1,hb2⟩
               · have hfr : fresh f fs = false:=by
                   unfold fresh
                   rw [List.all_eq_false]
                   exact ⟨ae fs k,bP hk,by simpa using hbad⟩
                 have hno : da (c :: r) = none:=by
                   rw [hfr,if_neg (by simp)] at hi3
                   rw [hty,← hi3]
                 by_cases hnm : (ae fs k).name = f.name
                 case' neg => have htag : f.tag ≤ (ae fs k).tag := by
                               rcases Int.lt_or_le (ae fs k).tag f.tag with h6 | h6
                               · exact absurd ⟨h6,hnm⟩ hbad
                               · exact h6
                 all_goals repeat' (first | refine jR ?_ | (refine jo ?_;first | refine aG F ?_ | refine ar F ?_ | refine ah F ?_ | refine jV (vN F F F oM) ?_ | refine jV (aA F F oM) ?_ | refine jL fun _=>?_ | refine jC F F F ?_) | refine ax F F (ay ‹_›) ?_ | refine ak F F (aC ‹_›) ?_ | (refine ac F (by first | rfl | (refine decide_eq_true ?_;first | assumption | omega)) ?_))
                 all_goals refine jZ (vs:=[_,_]) F ⟨F,F,trivial⟩ F ⟨(hle0.trans hgk).trans hle,F,?_⟩
                 all_goals exact .inl ⟨hno,_,F⟩
             · have hfr : fresh f fs = true:=by
                 unfold fresh
                 rw [List.all_eq_true]
                 intro g hg
                 obtain ⟨m,hm,rfl⟩:=m6 hg
                 simpa using Hk.2 m oM
               rw [hfr,if_pos rfl] at hi3
               have hxl : xs.length ≤ 1001:=oM
               repeat' (first | refine jR ?_ | refine ad F (aC oM) ?_)
               (refine aj (am (id:=21) [.blk z (.cells (jl f).toArray vu (0,0))] (by intro y hy;simp only [List.mem_cons,List.not_mem_nil,or_false] at hy ⊢;simp [hy]) ai ?_);refine jW 7 [0,1,2,3] (aa 11 15) ?_;(refine jG (aa 11 47) 5 F (bD F F F F) ?_);refine bA [4,6] kR dC ⟨?_,?_,trivial⟩;(focus (refine aM F F ?_;(refine ah F ?_);refine jK (aa 11 63) ?_;refine jA 6 F ?_;(refine jF fun _=>?_);refine jK (aa 11 127) ?_;refine jA 7 F ?_;((refine bY F F F F F F F F F ?_ fun _ _=>?_;focus omega));refine jK (aa 11 255) ?_;refine jW 1 [8,9] (aa 11 1023) ?_;refine jA 10 F ?_;(refine jD F F F ?_);refine jK (aa 11 2047) ?_;refine jQ ?_));rotate_left 1;(focus (refine aM F F ?_;(refine jF fun _=>?_);refine jK (aa 11 111) ?_;refine jA 4 F ?_;(refine ah F ?_);refine jK (aa 11 127) ?_;refine jA 7 F ?_;((refine bY F F F F F F F F F ?_ fun _ _=>?_;focus omega));refine jK (aa 11 255) ?_;refine jW 1 [8,9] (aa 11 1023) ?_;refine jA 10 F ?_;(refine jD F F F ?_);refine jK (aa 11 2047) ?_;refine jQ ?_));rotate_left 1)
               all_goals rename_i w b2 c2
               all_goals repeat' (refine jM ?_)
               all_goals refine aY (.slice (some ⟨b2,0,none⟩) (fs.length + 1) c2,fs ++ [f],i + 1,G) ⟨⟨⟨by dsimp only;omega,by simp;omega⟩,by simp;omega⟩,hi3,hgk.trans hle⟩ (by dsimp only;omega) tU rfl (by dsimp only;simp only [co,List.length_append,List.length_cons,List.length_nil,Nat.zero_add];repeat (first | exact List.Sublist.refl _ | apply List.Sublist.cons_cons | apply List.Sublist.cons)))
abbrev bS:=(Option Addr × Nat) × Ty
def gn (x : bS) : Value:=.slice x.1.1 x.2.fields.length x.1.2
def i6 (x : bS) : List Value:=[U8 x.2.sort,S x.2.name,gn x]
instance : RowF i6 3:=⟨fun _=>rfl⟩
def zT : bS:=((none,0),⟨0,[],[]⟩)
theorem be.sl {G : Gh} {v : Value} {sz m : Nat} {xs : List Value} (h : be G v sz m xs) : ∃ a cap,v = .slice a m cap:=by
 obtain ⟨_,⟨rfl,rfl⟩ | ⟨b,o,cap,rfl,_⟩⟩:=h
 ·exact ⟨none,0,F⟩
 ·exact ⟨_,cap,F⟩
structure SchR (G : Gh) (u : Value) (vs : List bS) : Prop where
 sl : be G u 3 vs.length (aE i6 vs)
 fl : ∀ x ∈ vs,be G (gn x) 4 x.2.fields.length (aE g5 x.2.fields)
theorem SchR.mono {G G' : Gh} {u : Value} {vs : List bS} (h : SchR G u vs) (hl : Gh.le G G') : SchR G' u vs:=⟨h.sl.mono hl,fun x hx=>(h.fl x hx).mono hl⟩
def ag (vs : List bS) : List Ty:=vs.map (·.2)
def fz (vs : List bS) (n : ac8) : Option bS:=vs.find? fun x=>decide (x.2.name = n)
def dX (vs : List bS) (k : ac8) : Option bS:=(bJ k).bind (fz vs)
theorem rX (vs : List bS) (n : ac8) : (fz vs n).map (·.2) = gF (ag vs) n:=by
 unfold fz gF ag
 induction vs with
 | nil=>rfl
 | cons x vs ih =>
  simp only [List.map_cons,List.find?_cons]
  split <;> simp_all
theorem vT {vs : List bS} {n : ac8} {x : bS} (h : fz vs n = some x) : x ∈ vs ∧ x.2.name = n:=by
 unfold fz at h
 exact ⟨List.mem_of_find?_eq_some h,by simpa using List.find?_some h⟩
theorem xb {vs : List bS} {n : ac8} {i : Nat} (hi : i < vs.length) (h : ∀ k,k < i → (ae vs k).2.name ≠ n) (h2 : (ae vs i).2.name = n) : fz vs n = some (ae vs i):=by
 unfold fz
 rw [List.find?_eq_some_iff_getElem]
 rw [aW hi] at h2 ⊢
 refine ⟨by simpa using h2,i,hi,F,fun j hj=>?_⟩
 have:=h j hj
 rw [aW oM] at this
 simpa using this
theorem uO {vs : List bS} {n : ac8} (h : ∀ k,k < vs.length → (ae vs k).2.name ≠ n) : fz vs n = none:=by
 unfold fz
 rw [List.find?_eq_none]
 intro x hx
 obtain ⟨i,hi,rfl⟩:=List.mem_iff_getElem.1 hx
 have:=h i hi
 rw [aW hi] at this
 simpa using this
theorem sG {u : Value} {vs : List bS} {n : ac8} (h : SchR G u vs) (hn : vs.length ≤ 1000000) : an ac7 102 [u,S n] G (· = Tu [Ag (i6 ((fz vs n).getD zT)),Bo (fz vs n).isSome]):=by
 have hsl:=h.sl
 refine jE [(0,_),(1,_)] Tryz.func102 Tryz.ntmps102 fun B hB=>?_
 repeat' (first | refine jR ?_ | (refine jo ?_;refine jL fun _=>?_))
 rename_i x
 refine aT (ι:=Nat) (fun i=>i ≤ vs.length ∧ ∀ k,k < i → (ae vs k).2.name ≠ n) (fun i=>[(0,u),(1,S n),(4,Pt x 0),(6,I i)]) (fun _=>G) (fun i=>[.blk x (.cells [U8 0,S [],aI].toArray qi (0,0))]) (fun i=>vs.length - i) 0 ?_ tU F aZ (fun i Hi=>?_)
 ·exact ⟨oM,fun k hk=>absurd hk oM⟩
 by_cases hi : i < vs.length
 ·obtain ⟨b,o,cap,rfl,hs⟩:=hsl.expl oM
  repeat' (first | refine jM ?_ | (refine jo ?_;first | refine jV (av F) ?_ | refine jV (aA F F oM) ?_ | (refine jV (cM F F aS ?_) ?_;focus omega) | (refine jV (bO F F aS ?_ F F) ?_;focus omega) | refine jC F F F ?_) | refine ac F (ay oM) ?_ | refine cB F (fun _=>?_) (fun _=>?_))
  ·rename_i he
   refine jZ (vs:=[_,_]) F ⟨aF F F F F,F,trivial⟩ F ⟨F,F,?_⟩
   rw [xb hi Hi.2 he];rfl
  ·rename_i he
   refine aY (i + 1) ⟨oM,fun k hk=>?_⟩ oM tU F aZ
   rcases Nat.lt_or_ge k i with h3 | h3
   ·exact Hi.2 k h3
   ·have : k = i:=oM
    subst this;exact he
 ·repeat' (first | refine jR ?_ | (refine jo ?_;first | refine jV (d2 F aS) ?_ | refine jC F F F ?_ | refine jV (al F F) ?_) | refine ad F (aC oM) ?_)
  refine jZ (vs:=[_,_]) F ⟨aF F F F F,F,trivial⟩ F ⟨F,F,?_⟩
  rw [uO fun k hk=>Hi.2 k oM];rfl
theorem lM {s : ac8} (h : d1 s = true) (hl : s.length ≤ 1000000) : an ac7 100 [S s] G (· = Tu [S ((bJ s).getD []),Bo (bJ s).isSome]):=by
 match s,h with
 | c :: r,h =>
  by_cases hr : r = []
  ·have hc : ¬ c.toNat = 64:=by
    intro hc
    subst hr
    rw [d1,if_neg oM,if_pos hc] at h
    simp [bi,hc] at h
   have e0:=lR c r
   have hq : bJ (c :: r) = none:=by simp [bJ,hc]
   rw [hq]
   refine jE [(0,_)] Tryz.func100 Tryz.ntmps100 fun B hB=>?_
   repeat' (first | refine jX ?_ | (refine ac F ?_ ?_;(focus ((simp;omega);done))))
   all_goals refine jY (vs:=[_,_]) ?_
   all_goals rfl
  ·have:=zt (G:=G) (c:=c) hr (by simp at hl;omega)
   refine this.mono ?_
   rintro v G' L' ⟨h1,h2,h3⟩
   refine ⟨h1,h2,h3.trans ?_⟩
   by_cases hc : c.toNat = 64 <;> simp [bJ,hc]
theorem gI {u : Value} {vs : List bS} {k : ac8} (h : SchR G u vs) (hn : vs.length ≤ 1000000) (hk : d1 k = true) (hl : k.length ≤ 1000000) : an ac7 141 [u,S k] G (· = Tu [Ag (i6 ((dX vs k).getD zT)),Bo (dX vs k).isSome]):=by
 rcases hr : bJ k with _ | n
 ·have e : dX vs k = none:=by simp [dX,hr]
  rw [e]
  have cx_ref : an ac7 100 [S k] G (· = Tu [S [],Bo false]):=by have:=lM (G:=G) hk hl;rwa [hr] at this
  refine jE [(0,_),(1,_)] Tryz.func141 Tryz.ntmps141 fun B hB=>?_
  repeat' (first | refine jR ?_ | (refine jo ?_;first | refine jL fun _=>?_ | refine jV (al F F) ?_ | refine jC F F F ?_ | refine ab F F F cx_ref F ?_) | refine ac F F ?_)
  all_goals refine jZ (vs:=[_,_]) F ⟨aF F F F F,F,trivial⟩ F ⟨F,F,?_⟩
  all_goals rfl
 ·have e : dX vs k = fz vs n:=by simp [dX,hr]
  rw [e]
  have cx_ref : an ac7 100 [S k] G (· = Tu [S n,Bo true]):=by have:=lM (G:=G) hk hl;rwa [hr] at this
  refine jE [(0,_),(1,_)] Tryz.func141 Tryz.ntmps141 fun B hB=>?_
  repeat' (first | refine jR ?_ | (refine jo ?_;first | refine jL fun _=>?_ | refine jC F F F ?_ | refine ab F F F cx_ref F ?_ | (refine ab F F F (sG (by (repeat (assumption));done) oM) rfl ?_)) | refine ad F F ?_)
  all_goals refine jZ (vs:=[_,_]) F ⟨aF F F F F,F,trivial⟩ F ⟨F,F,?_⟩
  all_goals rfl
end Go.E
