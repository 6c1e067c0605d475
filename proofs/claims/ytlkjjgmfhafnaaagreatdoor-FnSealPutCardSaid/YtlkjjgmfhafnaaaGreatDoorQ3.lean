/- Contracts and plain laws that the statement rests on, part 3. Conditions: as each says. -/
import Derived.Test.YtlkjjgmfhafnaaaGreatDoorQ2
set_option linter.unusedVariables false
set_option linter.unusedSimpArgs false
namespace Go.E
set_option maxRecDepth 20000
set_option maxHeartbeats 2000000
inductive RdK (ts : List Ty) (f : act → act → Option (V × act)) : act → act → V → act → Prop
 | lst0 (k r : act) : RdK ts f (91 :: k) (91 :: 93 :: r) (.nd 91 [] 0 []) r
 | lst (k s r : act) (vs : List V) : bc (f k) 20 s [] = some (vs,r) → RdK ts f (91 :: k) (91 :: s) (.nd 91 [] 0 vs) r
 | non (k r : act) : RdK ts f (63 :: k) (45 :: r) (.nd 63 [] 0 []) r
 | opt (k s r : act) (v : V) : f k s = some (v,r) → RdK ts f (63 :: k) (43 :: s) (.nd 63 [] 0 [v]) r
 | num (k s r : act) (n : Int) : aX ts (110 :: k) = none → cb 999999 s = some (n,r) → RdK ts f (110 :: k) s (.nd 110 (br n) 0 []) r
 | txt (k s r : act) (v : V) : aX ts (116 :: k) = none → dh s = some (v,r) → RdK ts f (116 :: k) s v r
 | flg (k s r : act) (v : V) : aX ts (102 :: k) = none → dW s = some (v,r) → RdK ts f (102 :: k) s v r
 | recd0 (k r : act) (t : Ty) : aX ts k = some t → t.sort = 82 → RdK ts f k (123 :: 125 :: r) (.nd 82 [] 0 []) r
 | recd (k s r : act) (t : Ty) (vs : List V) : aX ts k = some t → t.sort = 82 → bC ts f t (s.length + 1) 0 s [] = some (vs,r) → RdK ts f k (123 :: s) (.nd 82 [] 0 vs) r
 | enm (k s r : act) (t : Ty) (n : Int) : aX ts k = some t → t.sort = 69 → cb 200 s = some (n,r) → (bK t.fields n).isSome = true → RdK ts f k (35 :: s) (.nd 69 [] n []) r
 | uni (k s r : act) (t : Ty) (d : Fld) (v : V) : aX ts k = some t → t.sort ≠ 82 → t.sort ≠ 69 → aN f t s = some ((d,v),62 :: r) → RdK ts f k (60 :: s) (.nd 85 [] d.tag [v]) r
theorem pa {ts : List Ty} {f : act → act → Option (V × act)} : ∀ (k s : act) {x : V × act},eB ts f k s = some x → RdK ts f k s x.1 x.2
 | [],_,_,e=>by cases e
 | c :: k,s,x,e=>by
  unfold eB at e
  dsimp only at e
  by_cases h91 : c.toNat = 91
  ·simp only [if_pos h91] at e
   obtain rfl:=bn h91 dC
   cases s with
   | nil=>cases e
   | cons d s' =>
    dsimp only at e
    by_cases hd : d.toNat = 91
    ·simp only [if_pos hd] at e
     obtain rfl:=bn hd dC
     cases s' with
     | nil=>cases e
     | cons e' r =>
      dsimp only at e
      by_cases he : e'.toNat = 93
      ·simp only [if_pos he,Option.some.injEq] at e;subst e
       obtain rfl:=bn he dC
       exact .lst0 _ _
      ·simp only [if_neg he] at e
       cases hf : bc (f k) 20 (e' :: r) [] with
       | none=>rw [hf] at e;cases e
       | some y =>
        rw [hf] at e
        simp only [Option.map_some,Option.some.injEq] at e;subst e
        exact .lst _ _ _ _ hf
    ·simp only [if_neg hd] at e;cases e
  ·simp only [if_neg h91] at e
   by_cases h63 : c.toNat = 63
   ·simp only [if_pos h63] at e
    obtain rfl:=bn h63 dC
    cases s with
    | nil=>cases e
    | cons d s' =>
     dsimp only at e
     by_cases hd : d.toNat = 45
     ·simp only [if_pos hd,Option.some.injEq] at e;subst e
      obtain rfl:=bn hd dC
      exact .non _ _
     ·simp only [if_neg hd] at e
      by_cases hd2 : d.toNat = 43
      ·simp only [if_pos hd2] at e
       obtain rfl:=bn hd2 dC
       cases hf : f k s' with
       | none=>rw [hf] at e;cases e
       | some y =>
        rw [hf] at e
        simp only [Option.map_some,Option.some.injEq] at e;subst e
        exact .opt _ _ _ _ hf
      ·simp only [if_neg hd2] at e;cases e
   ·simp only [if_neg h63] at e
    cases hr : aX ts (c :: k) with
    | none =>
     rw [hr] at e
     dsimp only at e
     by_cases h1 : c.toNat = 110
     ·simp only [if_pos h1] at e
      obtain rfl:=bn h1 dC
      cases hn : cb 999999 s with
      | none=>rw [hn] at e;cases e
      | some y =>
       rw [hn] at e
       simp only [Option.map_some,Option.some.injEq] at e;subst e
       exact .num _ _ _ _ hr hn
     ·simp only [if_neg h1] at e
      by_cases h2 : c.toNat = 116
      ·simp only [if_pos h2] at e
       obtain rfl:=bn h2 dC
       exact .txt _ _ _ _ hr e
      ·simp only [if_neg h2] at e
       by_cases h3 : c.toNat = 102
       ·simp only [if_pos h3] at e
        obtain rfl:=bn h3 dC
        exact .flg _ _ _ _ hr e
       ·simp only [if_neg h3] at e;cases e
    | some t =>
     rw [hr] at e
     dsimp only at e
     unfold a6 at e
     cases s with
     | nil=>cases e
     | cons d s =>
      dsimp only at e
      by_cases h82 : t.sort = 82
      ·simp only [if_pos h82] at e
       by_cases hd : d.toNat = 123
       ·simp only [if_pos hd] at e
        obtain rfl:=bn hd dC
        cases s with
        | nil=>cases e
        | cons d' r =>
         dsimp only at e
         by_cases hd' : d'.toNat = 125
         ·simp only [if_pos hd',Option.some.injEq] at e;subst e
          obtain rfl:=bn hd' dC
          exact .recd0 _ _ t hr h82
         ·simp only [if_neg hd'] at e
          cases hf : bC ts f t ((d' :: r).length + 1) 0 (d' :: r) [] with
          | none=>rw [hf] at e;cases e
          | some y =>
           rw [hf] at e
           simp only [Option.map_some,Option.some.injEq] at e;subst e
           exact .recd _ _ _ t _ hr h82 hf
       ·simp only [if_neg hd] at e;cases e
      ·simp only [if_neg h82] at e
       by_cases h69 : t.sort = 69
       ·simp only [if_pos h69] at e
        by_cases hd : d.toNat = 35
        ·simp only [if_pos hd] at e
         obtain rfl:=bn hd dC
         cases hn : cb 200 s with
         | none=>rw [hn] at e;cases e
         | some y =>
          rw [hn] at e
          obtain ⟨n,r⟩:=y
          dsimp only at e
          split at e
          ·rename_i hs
           simp only [Option.some.injEq] at e;subst e
           exact .enm _ _ _ t _ hr h69 hn hs
          ·cases e
        ·simp only [if_neg hd] at e;cases e
       ·simp only [if_neg h69] at e
        by_cases hd : d.toNat = 60
        ·simp only [if_pos hd] at e
         obtain rfl:=bn hd dC
         cases hf : aN f t s with
         | none=>rw [hf] at e;cases e
         | some y =>
          rw [hf] at e
          obtain ⟨⟨fd,v⟩,r⟩:=y
          cases r with
          | nil=>cases e
          | cons c' r =>
           dsimp only at e
           by_cases hc' : c'.toNat = 62
           ·simp only [if_pos hc',Option.some.injEq] at e;subst e
            obtain rfl:=bn hc' dC
            exact .uni _ _ _ t _ _ hr h82 h69 hf
           ·simp only [if_neg hc'] at e;cases e
        ·simp only [if_neg hd] at e;cases e
mutual
def V.tot : V → Nat
 | .nd _ x _ ks=>20 + x.length + V.tots ks
def V.tots : List V → Nat
 | []=>0
 | v :: r=>V.tot v + V.tots r
end
theorem eP : ∀ (a b : List V),V.tots (a ++ b) = V.tots a + V.tots b
 | [],b=>by simp [V.tots]
 | v :: a,b=>by simp only [List.cons_append,V.tots,eP a b];omega
theorem iQ (v : V) : 20 ≤ v.tot:=by obtain ⟨w,x,t,ks⟩:=v;rw [V.tot];omega
theorem qM : ∀ {ks : List V} {v : V},v ∈ ks → V.tot v ≤ V.tots ks
 | u :: ks,v,h=>by
  rw [V.tots]
  rcases List.mem_cons.1 h with rfl | h
  ·omega
  ·have:=qM h;omega
theorem d6 : ∀ (ks : List V),20 * ks.length ≤ V.tots ks
 | []=>by simp [V.tots]
 | u :: ks=>by rw [V.tots,List.length_cons];have:=d6 ks;have:=iQ u;omega
theorem gX (n : Int) : 1 ≤ (br n).length:=by
 by_cases h : n < 10
 ·by_cases h0 : 0 ≤ n
  ·rw [dF h h0];simp
  ·have : n.toNat = (0 : Int).toNat:=oM
   have e : br n = br 0:=by unfold br;rw [this]
   rw [e,dF dC dC];simp
 ·rw [iV h];simp
theorem lQ {top : Int} {s r : act} {n : Int} (h : cb top s = some (n,r)) : (br n).length + r.length = s.length ∧ 1 ≤ (br n).length:=by
 have:=jt h
 exact ⟨by rw [this];simp,gX n⟩
theorem mR {f : act → Option (V × act)} (h : ∀ s y,f s = some y → y.1.tot + 100 * y.2.length ≤ 100 * s.length) : ∀ (m : Nat) (s : act) (acc : List V) {x : List V × act},bc f m s acc = some x → V.tots x.1 + 100 * (x.2.length + 1) ≤ V.tots acc + 100 * s.length
 | 0,_,_,_,e=>by cases e
 | m + 1,s,acc,x,e=>by
  unfold bc at e
  cases hf : f s with
  | none=>rw [hf] at e;cases e
  | some y =>
   rw [hf] at e
   have hy:=h s y hf
   obtain ⟨v,r⟩:=y
   cases r with
   | nil=>cases e
   | cons c r =>
    dsimp only at e hy
    have e2 : V.tots (acc ++ [v]) = V.tots acc + v.tot:=by simp [eP,V.tots]
    rw [List.length_cons] at hy
    split at e
    ·have:=mR h m r _ e
     omega
    ·split at e
     ·simp only [Option.some.injEq] at e;subst e
      dsimp only;omega
     ·cases e
theorem mV {f : act → act → Option (V × act)} (h : ∀ k s y,f k s = some y → y.1.tot + 100 * y.2.length ≤ 100 * s.length) {t : Ty} {s : act} {x : (Fld × V) × act} (e : aN f t s = some x) : x.1.2.tot + 100 * x.2.length + 200 ≤ 100 * s.length:=by
 unfold aN at e
 cases hn : cb 200 s with
 | none=>rw [hn] at e;cases e
 | some y =>
  rw [hn] at e
  obtain ⟨n,r⟩:=y
  obtain ⟨h1,h2⟩:=lQ hn
  dsimp only at e
  cases hd : bK t.fields n with
  | none=>rw [hd] at e;cases e
  | some d =>
   rw [hd] at e
   cases r with
   | nil=>cases e
   | cons c r' =>
    dsimp only at e
    rw [List.length_cons] at h1
    by_cases hc : c.toNat = 61
    ·rw [if_pos hc] at e
     cases hf : f d.kind r' with
     | none=>rw [hf] at e;cases e
     | some y =>
      rw [hf] at e
      simp only [Option.map_some,Option.some.injEq] at e
      subst e
      have h3:=h _ _ _ hf
      dsimp only
      omega
    ·rw [if_neg hc] at e;cases e
theorem n5 {ts : List Ty} {f : act → act → Option (V × act)} (h : ∀ k s y,f k s = some y → y.1.tot + 100 * y.2.length ≤ 100 * s.length) {t : Ty} : ∀ (m : Nat) (last : Int) (s : act) (acc : List V) {x : List V × act},bC ts f t m last s acc = some x → V.tots x.1 + 100 * (x.2.length + 1) ≤ V.tots acc + 100 * s.length
 | 0,_,_,_,_,e=>by cases e
 | m + 1,last,s,acc,x,e=>by
  unfold bC at e
  cases hf : aN f t s with
  | none=>rw [hf] at e;cases e
  | some y =>
   rw [hf] at e
   have hy:=mV h hf
   obtain ⟨⟨d,v⟩,r⟩:=y
   dsimp only at e hy
   split at e
   ·cases e
   ·cases r with
    | nil=>cases e
    | cons c r =>
     dsimp only at e
     have e2 : V.tots (acc ++ [V.nd 61 [] d.tag [v]]) = V.tots acc + (20 + v.tot):=by simp [eP,V.tots,V.tot]
     rw [List.length_cons] at hy
     split at e
     ·have:=n5 h m _ r _ e
      omega
     ·split at e
      ·simp only [Option.some.injEq] at e;subst e
       dsimp only;omega
      ·cases e
theorem i6 {ts : List Ty} : ∀ (n : Nat) (k s : act) (x : V × act),rd ts n k s = some x → x.1.tot + 100 * x.2.length ≤ 100 * s.length
 | 0,_,_,_,e=>by cases e
 | n + 1,k,s,x,e=>by
  have ih : ∀ k s y,rd ts n k s = some y → y.1.tot + 100 * y.2.length ≤ 100 * s.length:=fun k s y hy=>i6 n k s y hy
  have h:=pa k s (x:=x) e
  obtain ⟨v,r⟩:=x
  dsimp only at h ⊢
  cases h with
  | lst0=>simp only [V.tot,V.tots,List.length_cons,List.length_nil];omega
  | lst k s r vs h =>
   have:=mR (ih k) _ _ _ h
   simp only [V.tot,V.tots,List.length_cons,List.length_nil] at this ⊢;omega
  | non=>simp only [V.tot,V.tots,List.length_cons,List.length_nil];omega
  | opt k s r v h =>
   have:=ih _ _ _ h
   simp only [V.tot,V.tots,List.length_cons,List.length_nil] at this ⊢;omega
  | num k s r n _ h =>
   have:=lQ h
   simp only [V.tot,V.tots];omega
  | txt k s r v _ h =>
   have e1:=mQ h
   have h2 : v.out.length = 2 + v.text.length ∧ v.tot = 20 + v.text.length:=by
    unfold dh at h
    split at h
    ·cases h
    ·split at h
     ·split at h
      ·split at h
       ·simp only [Option.some.injEq,Prod.mk.injEq] at h
        obtain ⟨rfl,_⟩:=h
        simp [V.out,dl,V.text,V.tot,V.tots];omega
       ·cases h
      ·cases h
     ·cases h
   rw [e1]
   simp only [List.length_append]
   omega
  | flg k s r v _ h =>
   have e1:=n9 h
   have h2 : 2 ≤ v.out.length ∧ v.tot ≤ 23:=by
    unfold dW at h
    split at h
    ·simp only [Option.some.injEq,Prod.mk.injEq] at h
     obtain ⟨rfl,_⟩:=h
     simp [V.out,dl,V.tot,V.tots]
    ·split at h
     ·simp only [Option.some.injEq,Prod.mk.injEq] at h
      obtain ⟨rfl,_⟩:=h
      simp [V.out,dl,V.tot,V.tots]
     ·cases h
   rw [e1]
   simp only [List.length_append]
   omega
  | recd0=>simp only [V.tot,V.tots,List.length_cons,List.length_nil];omega
  | recd k s r t vs _ _ h =>
   have:=n5 ih _ _ _ _ h
   simp only [V.tot,V.tots,List.length_cons,List.length_nil] at this ⊢;omega
  | enm k s r t n _ _ h _ =>
   have:=lQ h
   simp only [V.tot,V.tots,List.length_cons,List.length_nil];omega
  | uni k s r t d v _ _ _ h =>
   have:=mV ih h
   simp only [V.tot,V.tots,List.length_cons,List.length_nil] at this ⊢;omega
def sO (w : Nat) (x : act) (t : Int) (ks : List V) : Prop :=
 (w = 110 ∧ ks = [] ∧ t = 0 ∧ ∃ n : Int,0 ≤ n ∧ n ≤ 999999 ∧ x = br n ∧ aL x 999999 = some n)
 ∨ (w = 116 ∧ ks = [] ∧ t = 0 ∧ db (39 :: (x ++ [39])) = true)
 ∨ (w = 102 ∧ ks = [] ∧ t = 0 ∧ (x = [121,101,115] ∨ x = [110,111]))
 ∨ (w = 91 ∧ x = [] ∧ t = 0 ∧ ks.length ≤ 20 ∧ ∀ v ∈ ks,v.what ≠ 61)
 ∨ (w = 63 ∧ x = [] ∧ t = 0 ∧ ks.length ≤ 1 ∧ ∀ v ∈ ks,v.what ≠ 61)
 ∨ (w = 69 ∧ x = [] ∧ 0 ≤ t ∧ t ≤ 200 ∧ ks = [])
 ∨ (w = 85 ∧ x = [] ∧ 0 ≤ t ∧ t ≤ 200 ∧ ks.length = 1 ∧ ∀ v ∈ ks,v.what ≠ 61)
 ∨ (w = 61 ∧ x = [] ∧ 0 ≤ t ∧ t ≤ 200 ∧ ks.length = 1 ∧ ∀ v ∈ ks,v.what ≠ 61)
 ∨ (w = 82 ∧ x = [] ∧ t = 0 ∧ ks.Pairwise (fun a b=>a.tag < b.tag) ∧ ∀ v ∈ ks,v.what = 61)
mutual
def V.wf : V → Prop
 | .nd w x t ks=>sO w x t ks ∧ V.wfs ks
def V.wfs : List V → Prop
 | []=>True
 | v :: r=>V.wf v ∧ V.wfs r
end
theorem mw : ∀ {ks : List V},V.wfs ks ↔ ∀ v ∈ ks,v.wf
 | []=>by simp [V.wfs]
 | v :: r=>by rw [V.wfs,mw (ks:=r)];simp
theorem tf : ∀ (s : act) {n m : Int},0 ≤ n → cZ n s = some m → 0 ≤ m
 | [],n,m,h,e=>by simp only [cZ,Option.some.injEq] at e;omega
 | c :: s,n,m,h,e=>by
  unfold cZ at e
  split at e
  ·exact tf s oM e
  ·cases e
theorem rc {s : act} {top n : Int} (h : aL s top = some n) : 0 ≤ n:=by
 unfold aL at h
 split at h
 ·split at h
  ·split at h
   ·rename_i h1 _ _ _ h2;simp only [Option.some.injEq] at h;subst h;exact tf _ (Int.le_refl 0) aS
   ·cases h
  ·cases h
 ·cases h
theorem kQ {top : Int} {s r : act} {n : Int} (h : cb top s = some (n,r)) : 0 ≤ n ∧ n ≤ top ∧ aL (br n) top = some n:=by
 unfold cb at h
 cases hn : aL (s.takeWhile aZ) top with
 | none=>rw [hn] at h;cases h
 | some m =>
  rw [hn] at h
  simp only [Option.map_some,Option.some.injEq,Prod.mk.injEq] at h
  obtain ⟨rfl,_⟩:=h
  obtain ⟨h1,h2,_⟩:=d9 hn
  exact ⟨rc hn,h1,by rw [← h2];exact hn⟩
theorem ki {f : act → Option (V × act)} : ∀ (m : Nat) (s : act) (acc : List V) {x : List V × act},bc f m s acc = some x → x.1.length ≤ acc.length + m
 | 0,_,_,_,e=>by cases e
 | m + 1,s,acc,x,e=>by
  unfold bc at e
  cases hf : f s with
  | none=>rw [hf] at e;cases e
  | some y =>
   rw [hf] at e
   obtain ⟨v,r⟩:=y
   cases r with
   | nil=>cases e
   | cons c r =>
    dsimp only at e
    split at e
    ·have:=ki m r _ e
     simp only [List.length_append,List.length_singleton] at this;omega
    ·split at e
     ·simp only [Option.some.injEq] at e;subst e
      simp only [List.length_append,List.length_singleton];omega
     ·cases e
theorem ob {f : act → act → Option (V × act)} {t : Ty} {s : act} {x : (Fld × V) × act} (e : aN f t s = some x) : 0 ≤ x.1.1.tag ∧ x.1.1.tag ≤ 200:=by
 unfold aN at e
 cases hn : cb 200 s with
 | none=>rw [hn] at e;cases e
 | some y =>
  rw [hn] at e
  obtain ⟨n,r⟩:=y
  have h1:=kQ hn
  dsimp only at e
  cases hd : bK t.fields n with
  | none=>rw [hd] at e;cases e
  | some d =>
   rw [hd] at e
   have h2 : d.tag = n:=by have:=List.find?_some hd;simpa using this
   cases r with
   | nil=>cases e
   | cons c r' =>
    dsimp only at e
    by_cases hc : c.toNat = 61
    ·rw [if_pos hc] at e
     cases hf : f d.kind r' with
     | none=>rw [hf] at e;cases e
     | some y =>
      rw [hf] at e
      simp only [Option.map_some,Option.some.injEq] at e
      subst e
      dsimp only;omega
    ·rw [if_neg hc] at e;cases e
theorem pJ {ts : List Ty} {f : act → act → Option (V × act)} (h : ∀ k s y,f k s = some y → y.1.wf ∧ y.1.what ≠ 61) {t : Ty} : ∀ (m : Nat) (last : Int) (s : act) (acc : List V) {x : List V × act},bC ts f t m last s acc = some x → (∀ v ∈ acc,v.wf ∧ v.what = 61 ∧ v.tag ≤ last) → acc.Pairwise (fun a b=>a.tag < b.tag) → (∀ v ∈ x.1,v.wf ∧ v.what = 61) ∧ x.1.Pairwise (fun a b=>a.tag < b.tag)
 | 0,_,_,_,_,e,_,_=>by cases e
 | m + 1,last,s,acc,x,e,ha,hp=>by
  unfold bC at e
  cases hf : aN f t s with
  | none=>rw [hf] at e;cases e
  | some y =>
   rw [hf] at e
   obtain ⟨_,s',hy⟩:=fb hf
   have ht:=ob hf
   obtain ⟨⟨d,v⟩,r⟩:=y
   dsimp only at e hy ht
   obtain ⟨hv1,hv2⟩:=h _ _ _ hy
   dsimp only at hv1 hv2
   split at e
   ·cases e
   ·rename_i hd
    have hd' : last < d.tag:=oM
    have hw : V.wf (.nd 61 [] d.tag [v]):=by
     rw [V.wf]
     refine ⟨.inr (.inr (.inr (.inr (.inr (.inr (.inr (.inl ⟨F,F,ht.1,ht.2,F,?_⟩))))))),?_,trivial⟩
     ·intro u hu;simp only [List.mem_singleton] at hu;subst hu;exact hv2
     ·exact hv1
    have ha2 : ∀ u ∈ acc ++ [V.nd 61 [] d.tag [v]],u.wf ∧ u.what = 61 ∧ u.tag ≤ d.tag:=fun u hu=>by
     rcases List.mem_append.1 hu with hu | hu
     ·obtain ⟨a1,a2,a3⟩:=ha u hu;exact ⟨a1,a2,oM⟩
     ·simp only [List.mem_singleton] at hu;subst hu;exact ⟨hw,F,Int.le_refl _⟩
    have hp2 : (acc ++ [V.nd 61 [] d.tag [v]]).Pairwise (fun a b=>a.tag < b.tag):=by
     rw [List.pairwise_append]
     refine ⟨hp,List.pairwise_singleton _ _,fun a hA b hB=>?_⟩
     simp only [List.mem_singleton] at hB;subst hB
     have:=(ha a hA).2.2
     show a.tag < d.tag
     omega
    cases r with
    | nil=>cases e
    | cons c r =>
     dsimp only at e
     split at e
     ·exact pJ h m _ r _ e ha2 hp2
     ·split at e
      ·simp only [Option.some.injEq] at e;subst e
       exact ⟨fun u hu=>⟨(ha2 u hu).1,(ha2 u hu).2.1⟩,hp2⟩
      ·cases e
theorem xe {ts : List Ty} : ∀ (n : Nat) (k s : act) (x : V × act),rd ts n k s = some x → x.1.wf ∧ x.1.what ≠ 61
 | 0,_,_,_,e=>by cases e
 | n + 1,k,s,x,e=>by
  have ih : ∀ k s y,rd ts n k s = some y → y.1.wf ∧ y.1.what ≠ 61:=fun k s y hy=>xe n k s y hy
  have h:=pa k s (x:=x) e
  obtain ⟨v,r⟩:=x
  dsimp only at h ⊢
  cases h with
  | lst0=>exact ⟨by rw [V.wf];exact ⟨.inr (.inr (.inr (.inl ⟨F,F,F,by simp,by simp⟩))),trivial⟩,by simp [V.what]⟩
  | lst k s r vs h =>
   have h1:=ki _ _ _ h
   have h2:=hO (p:=fun v=>v.wf ∧ v.what ≠ 61) (fun s y hy=>ih k s y hy) _ _ _ h (by simp)
   refine ⟨by rw [V.wf];exact ⟨.inr (.inr (.inr (.inl ⟨F,F,F,by simpa using h1,fun v hv=>(h2 v hv).2⟩))),mw.2 fun v hv=>(h2 v hv).1⟩,by simp [V.what]⟩
  | non=>exact ⟨by rw [V.wf];exact ⟨.inr (.inr (.inr (.inr (.inl ⟨F,F,F,by simp,by simp⟩)))),trivial⟩,by simp [V.what]⟩
  | opt k s r v h =>
   have h1:=ih _ _ _ h
   have h2 : ∀ u ∈ [v],u.what ≠ 61:=fun u hu=>by simp only [List.mem_singleton] at hu;subst hu;exact h1.2
   exact ⟨by rw [V.wf];exact ⟨.inr (.inr (.inr (.inr (.inl ⟨F,F,F,by simp,h2⟩)))),h1.1,trivial⟩,by simp [V.what]⟩
  | num k s r n _ h =>
   have h1:=kQ h
   exact ⟨by rw [V.wf];exact ⟨.inl ⟨F,F,F,n,h1.1,h1.2.1,F,h1.2.2⟩,trivial⟩,by simp [V.what]⟩
  | txt k s r v _ h =>
   unfold dh at h
   split at h
   ·cases h
   ·split at h
    ·split at h
     ·split at h
      ·rename_i hx
       simp only [Option.some.injEq,Prod.mk.injEq] at h
       obtain ⟨rfl,_⟩:=h
       exact ⟨by rw [V.wf];exact ⟨.inr (.inl ⟨F,F,F,hx⟩),trivial⟩,by simp [V.what]⟩
      ·cases h
     ·cases h
    ·cases h
  | flg k s r v _ h =>
   unfold dW at h
   split at h
   ·simp only [Option.some.injEq,Prod.mk.injEq] at h
    obtain ⟨rfl,_⟩:=h
    exact ⟨by rw [V.wf];exact ⟨.inr (.inr (.inl ⟨F,F,F,.inl F⟩)),trivial⟩,by simp [V.what]⟩
   ·split at h
    ·simp only [Option.some.injEq,Prod.mk.injEq] at h
     obtain ⟨rfl,_⟩:=h
     exact ⟨by rw [V.wf];exact ⟨.inr (.inr (.inl ⟨F,F,F,.inr F⟩)),trivial⟩,by simp [V.what]⟩
    ·cases h
  | recd0=>exact ⟨by rw [V.wf];exact ⟨.inr (.inr (.inr (.inr (.inr (.inr (.inr (.inr ⟨F,F,F,by simp,by simp⟩))))))),trivial⟩,by simp [V.what]⟩
  | recd k s r t vs _ _ h =>
   have h1:=pJ ih _ _ _ _ h (by simp) (by simp)
   exact ⟨by rw [V.wf];exact ⟨.inr (.inr (.inr (.inr (.inr (.inr (.inr (.inr ⟨F,F,F,h1.2,fun v hv=>(h1.1 v hv).2⟩))))))),mw.2 fun v hv=>(h1.1 v hv).1⟩,by simp [V.what]⟩
  | enm k s r t n _ _ h _ =>
   have h1:=kQ h
   exact ⟨by rw [V.wf];exact ⟨.inr (.inr (.inr (.inr (.inr (.inl ⟨F,F,h1.1,h1.2.1,F⟩))))),trivial⟩,by simp [V.what]⟩
  | uni k s r t d v _ _ _ h =>
   obtain ⟨_,s',hy⟩:=fb h
   have ht:=ob h
   have h1:=ih _ _ _ hy
   have h2 : ∀ u ∈ [v],u.what ≠ 61:=fun u hu=>by simp only [List.mem_singleton] at hu;subst hu;exact h1.2
   exact ⟨by rw [V.wf];exact ⟨.inr (.inr (.inr (.inr (.inr (.inr (.inl ⟨F,F,ht.1,ht.2,F,h2⟩)))))),h1.1,trivial⟩,by simp [V.what]⟩
theorem qG {ts : List Ty} {k s : act} {v : V} (h : bZ ts k s = some v) : v.wf ∧ v.what ≠ 61:=by
 unfold bZ at h
 split at h
 ·split at h
  ·rename_i hr
   simp only [Option.some.injEq] at h;subst h
   exact xe _ _ _ _ hr
  ·cases h
 ·cases h
def f9 (w : Nat) (x : act) (t : Int) (k : Nat) (j : act) : act :=
 if w = 110 then aK ((aL x 999999).getD 0) else if w = 116 then aK x.length ++ x else if w = 102 then (if x = [121,101,115] then [1] else [0])
 else if w = 91 then aK k ++ j else if w = 63 then (if k = 0 then [0] else 1 :: j) else if w = 69 then aK t
 else if w = 85 ∨ w = 61 then aK t ++ (aK j.length ++ j) else j ++ [0]
mutual
def V.bys : V → act
 | .nd w x t ks=>f9 w x t ks.length (V.byss ks).flatten
def V.byss : List V → List act
 | []=>[]
 | v :: r=>V.bys v :: V.byss r
end
theorem eT (n : Int) : 1 ≤ (aK n).length:=by
 unfold aK
 rw [num]
 split <;> simp
theorem lz : ∀ ks : List V,V.byss ks = ks.map V.bys
 | []=>rfl
 | v :: r=>by rw [V.byss,lz r];rfl
theorem g6 (ks : List V) : (V.byss ks).length = ks.length:=by rw [lz];simp
theorem wZ {ks : List V} {i : Nat} (h : i < ks.length) : ae (V.byss ks) i = (ae ks i).bys:=by
 rw [lz,aU (by simpa using h),aU h];simp
theorem uZ {x : act} {top : Int} (h : 0 ≤ top) : 0 ≤ (aL x top).getD 0 ∧ (aL x top).getD 0 ≤ top:=by
 cases hn : aL x top with
 | none=>exact ⟨Int.le_refl _,h⟩
 | some n=>exact ⟨rc hn,(d9 hn).1⟩
theorem w2 {w : Nat} {x : act} {t : Int} {k : Nat} {j : act} (ht : t ≤ 999999) (hx : x.length ≤ 999999) (hk : k ≤ 999999) (hj : j.length ≤ 999999) : 1 ≤ (f9 w x t k j).length ∧ (f9 w x t k j).length ≤ 6 + x.length + j.length:=by
 have h0:=uZ (x:=x) (top:=999999) dC
 have h1:=b8 (n:=(aL x 999999).getD 0) h0.2
 have h2:=b8 (n:=x.length) oM
 have h3:=b8 (n:=k) oM
 have h4:=b8 ht
 have h5:=b8 (n:=j.length) oM
 have g1:=eT ((aL x 999999).getD 0)
 have g2:=eT x.length
 have g3:=eT k
 have g4:=eT t
 unfold f9
 repeat' split
 all_goals ((try simp only [List.length_append,List.length_cons,List.length_nil]);omega)
theorem o5 {w : Nat} {x : act} {t : Int} {ks : List V} (h : sO w x t ks) : 0 ≤ t ∧ t ≤ 200:=by
 unfold sO at h
 omega
mutual
theorem iX : ∀ v : V,v.wf → v.tot ≤ 999999 → 1 ≤ v.bys.length ∧ v.bys.length ≤ v.tot
 | .nd w x t ks,hw,hl=>by
  rw [V.wf] at hw
  rw [V.tot] at hl
  have h0:=d6 ks
  have h1:=ip ks hw.2 oM
  have h2:=w2 (w:=w) (x:=x) (t:=t) (k:=ks.length) (j:=(V.byss ks).flatten) (by have:=o5 hw.1;omega) oM oM oM
  rw [V.bys,V.tot];omega
theorem ip : ∀ ks : List V,V.wfs ks → V.tots ks ≤ 999999 → (V.byss ks).flatten.length ≤ V.tots ks
 | [],_,_=>by simp [V.byss]
 | v :: r,hw,hl=>by
  rw [V.wfs] at hw
  rw [V.tots] at hl
  have h1:=iX v hw.1 oM
  have h2:=ip r hw.2 oM
  simp only [V.byss,List.flatten_cons,List.length_append,V.tots];omega
end
theorem j3 {ks : List V} {i : Nat} (h : i < ks.length) : ((V.byss ks).take (i + 1)).flatten = ((V.byss ks).take i).flatten ++ (ae ks i).bys:=by
 rw [eQ (by rw [g6];exact h),wZ h];simp
theorem j0 (ks : List V) (i : Nat) : (((V.byss ks).take i).flatten).length ≤ (V.byss ks).flatten.length:=by
 have h:=List.take_append_drop i (V.byss ks)
 have h2 : (V.byss ks).flatten = ((V.byss ks).take i).flatten ++ ((V.byss ks).drop i).flatten:=by rw [← List.flatten_append,h]
 rw [h2];simp
theorem qF {ks : List V} (h : V.wfs ks) {i : Nat} (hi : i < ks.length) : (ae ks i).wf:=by
 rw [aU hi];exact mw.1 h _ (List.getElem_mem hi)
abbrev cY (p : Fld × V) : V:=.nd 61 [] p.1.tag [p.2]
inductive OfK (ts : List Ty) : act → V → Prop
 | num (k : act) (n : Int) : 0 ≤ n → n ≤ 999999 → OfK ts (110 :: k) (.nd 110 (br n) 0 [])
 | txt (k x : act) : db (39 :: (x ++ [39])) = true → OfK ts (116 :: k) (.nd 116 x 0 [])
 | flg (k x : act) : x = [121,101,115] ∨ x = [110,111] → OfK ts (102 :: k) (.nd 102 x 0 [])
 | lst (k : act) (ks : List V) : ks.length ≤ 20 → (∀ v ∈ ks,OfK ts k v) → OfK ts (91 :: k) (.nd 91 [] 0 ks)
 | non (k : act) : OfK ts (63 :: k) (.nd 63 [] 0 [])
 | opt (k : act) (v : V) : OfK ts k v → OfK ts (63 :: k) (.nd 63 [] 0 [v])
 | recd (k : act) (t : Ty) (fs : List (Fld × V)) : aX ts k = some t → t.sort = 82 → (∀ p ∈ fs,p.1 ∈ t.fields) → (∀ p ∈ fs,OfK ts p.1.kind p.2) → (∀ p ∈ fs,p.2.out ≠ cT ts p.1) → fs.Pairwise (fun a b=>a.1.tag < b.1.tag) → OfK ts k (.nd 82 [] 0 (fs.map cY))
 | enm (k : act) (t : Ty) (d : Fld) : aX ts k = some t → t.sort = 69 → d ∈ t.fields → OfK ts k (.nd 69 [] d.tag [])
 | uni (k : act) (t : Ty) (d : Fld) (v : V) : aX ts k = some t → t.sort ≠ 82 → t.sort ≠ 69 → d ∈ t.fields → OfK ts d.kind v → OfK ts k (.nd 85 [] d.tag [v])
theorem pK {ts : List Ty} {f : act → act → Option (V × act)} (h : ∀ k s y,f k s = some y → OfK ts k y.1) {t : Ty} : ∀ (m : Nat) (last : Int) (s : act) (fs : List (Fld × V)) {x : List V × act},bC ts f t m last s (fs.map cY) = some x → (∀ p ∈ fs,p.1 ∈ t.fields ∧ OfK ts p.1.kind p.2 ∧ p.2.out ≠ cT ts p.1 ∧ p.1.tag ≤ last) → fs.Pairwise (fun a b=>a.1.tag < b.1.tag) →
  ∃ gs : List (Fld × V),x.1 = gs.map cY ∧ (∀ p ∈ gs,p.1 ∈ t.fields ∧ OfK ts p.1.kind p.2 ∧ p.2.out ≠ cT ts p.1) ∧ gs.Pairwise (fun a b=>a.1.tag < b.1.tag)
 | 0,_,_,_,_,e,_,_=>by cases e
 | m + 1,last,s,fs,x,e,ha,hp=>by
  unfold bC at e
  cases hf : aN f t s with
  | none=>rw [hf] at e;cases e
  | some y =>
   rw [hf] at e
   obtain ⟨hd1,s',hy⟩:=fb hf
   obtain ⟨⟨d,v⟩,r⟩:=y
   dsimp only at e hy hd1
   have hv:=h _ _ _ hy
   dsimp only at hv
   split at e
   ·cases e
   ·rename_i hd
    have hd' : last < d.tag:=oM
    have hne : v.out ≠ cT ts d:=fun h=>hd (.inr h)
    have e2 : fs.map cY ++ [V.nd 61 [] d.tag [v]] = (fs ++ [(d,v)]).map cY:=by simp
    have ha2 : ∀ p ∈ fs ++ [(d,v)],p.1 ∈ t.fields ∧ OfK ts p.1.kind p.2 ∧ p.2.out ≠ cT ts p.1 ∧ p.1.tag ≤ d.tag:=fun p hu=>by
     rcases List.mem_append.1 hu with hu | hu
     ·obtain ⟨a1,a2,a3,a4⟩:=ha p hu;exact ⟨a1,a2,a3,oM⟩
     ·simp only [List.mem_singleton] at hu;subst hu;exact ⟨hd1,hv,hne,Int.le_refl _⟩
    have hp2 : (fs ++ [(d,v)]).Pairwise (fun a b=>a.1.tag < b.1.tag):=by
     rw [List.pairwise_append]
     refine ⟨hp,List.pairwise_singleton _ _,fun a hA b hB=>?_⟩
     simp only [List.mem_singleton] at hB;subst hB
     have:=(ha a hA).2.2.2
     show a.1.tag < d.tag
     omega
    rw [e2] at e
    cases r with
    | nil=>cases e
    | cons c r =>
     dsimp only at e
     split at e
     ·exact pK h m _ r _ e ha2 hp2
     ·split at e
      ·simp only [Option.some.injEq] at e;subst e
       exact ⟨_,F,fun p hp=>⟨(ha2 p hp).1,(ha2 p hp).2.1,(ha2 p hp).2.2.1⟩,hp2⟩
      ·cases e
theorem xf {ts : List Ty} : ∀ (n : Nat) (k s : act) (x : V × act),rd ts n k s = some x → OfK ts k x.1
 | 0,_,_,_,e=>by cases e
 | n + 1,k,s,x,e=>by
  have ih : ∀ k s y,rd ts n k s = some y → OfK ts k y.1:=fun k s y hy=>xf n k s y hy
  have h:=pa k s (x:=x) e
  obtain ⟨v,r⟩:=x
  dsimp only at h ⊢
  cases h with
  | lst0=>exact .lst _ _ (by simp) (by simp)
  | lst k s r vs h =>
   have h1:=ki _ _ _ h
   exact .lst _ _ (by simpa using h1) (hO (p:=fun v=>OfK ts k v) (fun s y hy=>ih k s y hy) _ _ _ h (by simp))
  | non=>exact .non _
  | opt k s r v h=>exact .opt _ _ (ih _ _ _ h)
  | num k s r n _ h=>have h1:=kQ h;exact .num _ _ h1.1 h1.2.1
  | txt k s r v _ h =>
   unfold dh at h
   split at h
   ·cases h
   ·split at h
    ·split at h
     ·split at h
      ·rename_i hx
       simp only [Option.some.injEq,Prod.mk.injEq] at h
       obtain ⟨rfl,_⟩:=h
       exact .txt _ _ hx
      ·cases h
     ·cases h
    ·cases h
  | flg k s r v _ h =>
   unfold dW at h
   split at h
   ·simp only [Option.some.injEq,Prod.mk.injEq] at h
    obtain ⟨rfl,_⟩:=h
    exact .flg _ _ (.inl F)
   ·split at h
    ·simp only [Option.some.injEq,Prod.mk.injEq] at h
     obtain ⟨rfl,_⟩:=h
     exact .flg _ _ (.inr F)
    ·cases h
  | recd0 k r t h1 h2=>exact .recd _ t [] h1 h2 (by simp) (by simp) (by simp) (by simp)
  | recd k s r t vs h1 h2 h =>
   obtain ⟨gs,e1,e2,e3⟩:=pK (fs:=[]) ih _ _ _ h (by simp) (by simp)
   dsimp only at e1
   subst e1
   exact .recd _ t gs h1 h2 (fun p hp=>(e2 p hp).1) (fun p hp=>(e2 p hp).2.1) (fun p hp=>(e2 p hp).2.2) e3
  | enm k s r t n h1 h2 h h3 =>
   obtain ⟨d,hd⟩:=Option.isSome_iff_exists.1 h3
   have hdt : d.tag = n:=by have:=List.find?_some hd;simpa using this
   rw [← hdt]
   exact .enm _ t d h1 h2 (List.mem_of_find?_eq_some hd)
  | uni k s r t d v h1 h2 h3 h =>
   obtain ⟨a1,s',hy⟩:=fb h
   exact .uni _ t d v h1 h2 h3 a1 (ih _ _ _ hy)
theorem nT {ts : List Ty} {k s : act} {v : V} (h : bZ ts k s = some v) : OfK ts k v:=by
 unfold bZ at h
 split at h
 ·split at h
  ·rename_i hr
   simp only [Option.some.injEq] at h;subst h
   exact xf _ _ _ _ hr
  ·cases h
 ·cases h
theorem yw {t : Ty} (hw : TyW t) {d d' : Fld} (h1 : d ∈ t.fields) (h2 : d' ∈ t.fields) (he : d.tag = d'.tag) : d = d':=by
 have hp:=hw.asc
 obtain ⟨i,hi,rfl⟩:=List.mem_iff_getElem.1 h1
 obtain ⟨j,hj,rfl⟩:=List.mem_iff_getElem.1 h2
 rw [List.pairwise_iff_getElem] at hp
 rcases Nat.lt_trichotomy i j with h | h | h
 ·have:=(hp i j hi hj h).1;omega
 ·subst h;rfl
 ·have:=(hp j i hj hi h).1;omega
theorem e9 {ts : List Ty} {k : act} {t : Ty} {c : UInt8} {r : act} (h : aX ts k = some t) (hk : k = c :: r) (hc : c.toNat ≠ 64) : False:=by
 subst hk
 have : bE (c :: r) = none:=by unfold bE;exact if_neg hc
 unfold aX at h
 rw [this] at h
 cases h
theorem uI {i : Int} (h : 0 ≤ i ∧ i ≤ 9) : (u8 (48 + i)).toNat = (48 + i).toNat:=by have:=cC (a:=48 + i) oM;omega
theorem qe : ∀ (s : act) {n m : Int} {c : UInt8},cZ n s = some m → 48 ≤ c.toNat ∧ c.toNat ≤ 57 → cZ n (s ++ [c]) = some (10 * m + ((c.toNat : Int) - 48))
 | [],n,m,c,h,hc=>by simp only [cZ,Option.some.injEq] at h;subst h;simp only [List.nil_append,cZ,if_pos hc]
 | d :: s,n,m,c,h,hc=>by
  unfold cZ at h
  split at h
  ·rename_i hd
   have:=qe s h hc
   simp only [List.cons_append]
   unfold cZ
   rw [if_pos hd];exact this
  ·cases h
theorem im : ∀ (k : Nat) {m : Int},m.toNat ≤ k → 0 ≤ m → cZ 0 (br m) = some m ∧ ∀ c ∈ br m,aZ c = true:=by
 intro k
 induction k with
 | zero =>
  intro m hk h0
  have : m = 0:=oM
  subst this
  rw [dF dC dC]
  exact ⟨by decide,by intro c hc;simp only [List.mem_singleton] at hc;subst hc;decide⟩
 | succ k ih =>
  intro m hk h0
  by_cases h : m < 10
  ·have hd:=uI (i:=m) oM
   have hd2 : aZ (u8 (48 + m)) = true:=by unfold aZ;rw [decide_eq_true_eq];omega
   rw [dF h h0]
   refine ⟨?_,fun c hc=>by simp only [List.mem_singleton] at hc;subst hc;exact hd2⟩
   unfold cZ cZ
   rw [if_pos oM];congr 1;omega
  ·obtain ⟨h1,h2⟩:=ih (m:=m / 10) oM oM
   have hd:=uI (i:=m % 10) oM
   have hd2 : aZ (u8 (48 + m % 10)) = true:=by unfold aZ;rw [decide_eq_true_eq];omega
   rw [iV h]
   refine ⟨by rw [qe _ h1 oM];congr 1;omega,fun c hc=>?_⟩
   rcases List.mem_append.1 hc with hc | hc
   ·exact h2 c hc
   ·simp only [List.mem_singleton] at hc;subst hc;exact hd2
theorem vx {m : Int} (h : m ≤ 999999) : (br m).length ≤ 6:=th _ 5 oM
theorem oo {m top : Int} (h0 : 0 ≤ m) (h1 : m ≤ top) (ht : top ≤ 999999) : aL (br m) top = some m:=by
 unfold aL
 rw [if_pos (vx oM),(im _ (Nat.le_refl _) h0).1]
 dsimp only
 rw [if_pos ⟨rfl,h1⟩]
def Dl (s : act) : Prop:=∀ c r,s = c :: r → aZ c = false
theorem iU {c : UInt8} {r : act} (h : aZ c = false) : Dl (c :: r):=fun d s e=>by injection e with e1 e2;subst e1;exact h
theorem rC : Dl []:=fun _ _ e=>by cases e
theorem abt : ∀ {s : act},Dl s → s.takeWhile aZ = [] ∧ s.dropWhile aZ = s
 | [],_=>⟨rfl,rfl⟩
 | c :: r,h=>by have:=h c r rfl;rw [List.takeWhile_cons,List.dropWhile_cons,this];exact ⟨F,F⟩
theorem uJ {p : UInt8 → Bool} : ∀ {s r : act},(∀ c ∈ s,p c = true) → (s ++ r).takeWhile p = s ++ r.takeWhile p ∧ (s ++ r).dropWhile p = r.dropWhile p
 | [],_,_=>⟨rfl,rfl⟩
 | c :: s,r,h=>by
  obtain ⟨h1,h2⟩:=uJ (s:=s) (r:=r) fun d hd=>h d (by simp [hd])
  have:=h c (by simp)
  rw [List.cons_append,List.takeWhile_cons,List.dropWhile_cons,this,if_pos rfl,if_pos rfl,h1,h2];exact ⟨F,F⟩
theorem nn {m top : Int} {r : act} (h0 : 0 ≤ m) (h1 : m ≤ top) (ht : top ≤ 999999) (hr : Dl r) : cb top (br m ++ r) = some (m,r):=by
 obtain ⟨e1,e2⟩:=uJ (r:=r) (im _ (Nat.le_refl _) h0).2
 obtain ⟨e3,e4⟩:=abt hr
 unfold cb
 rw [e1,e2,e3,e4,List.append_nil,oo h0 h1 ht];rfl
theorem aa0 {x : act} (h : db (39 :: (x ++ [39])) = true) : ∀ j,j < x.length → bt x j ≠ 39:=by
 intro j hj e
 unfold db at h
 rw [decide_eq_true_eq] at h
 have h1:=h.2.2.2 (j + 1) (by simp;omega)
 rw [dT] at h1
 have h2 : bt (x ++ [39]) j = bt x j:=by simp [bt,List.getD,List.getElem?_append_left hj]
 rw [h2,e] at h1
 rcases h1 with h1 | h1
 ·omega
 ·exact absurd h1 dC
theorem t5 {x r : act} (h : db (39 :: (x ++ [39])) = true) : dh (39 :: (x ++ 39 :: r)) = some (.nd 116 x 0 [],r):=by
 have hc : aC 39 (x ++ 39 :: r) = (x,r,true):=by
  have h1:=mH (k:=39) (s:=x ++ 39 :: r) (i:=x.length) (by simp) (fun j hj=>by
   have:=aa0 h j hj
   have h2 : bt (x ++ 39 :: r) j = bt x j:=by simp [bt,List.getD,List.getElem?_append_left hj]
   rw [h2];exact this) (by simp [bt,List.getD])
  rw [h1]
  congr 1
  ·exact List.take_left
  ·congr 1
   rw [show x.length + 1 = (x ++ [39]).length by simp,show x ++ 39 :: r = (x ++ [39]) ++ r by simp,List.drop_left]
 unfold dh
 dsimp only
 rw [if_pos dC,hc]
 dsimp only
 rw [if_pos h]
theorem uV {x r : act} (h : x = [121,101,115] ∨ x = [110,111]) : dW (x ++ r) = some (.nd 102 x 0 [],r):=by
 unfold dW
 rcases h with rfl | rfl
 ·rw [if_pos (by simp [List.isPrefixOf])];rfl
 ·rw [if_neg (by simp [List.isPrefixOf]),if_pos (by simp [List.isPrefixOf])];rfl
theorem n4 {f : act → Option (V × act)} {rest : act} : ∀ (ks : List V) (m : Nat) (acc : List V),ks ≠ [] → ks.length ≤ m → (∀ v ∈ ks,∀ r,Dl r → f (v.out ++ r) = some (v,r)) → bc f m (aP 44 (ks.map V.out) ++ 93 :: rest) acc = some (acc ++ ks,rest)
 | [],_,_,h,_,_=>absurd rfl h
 | [v],m,acc,_,hm,hf=>by
  obtain ⟨m,rfl⟩ : ∃ n,m = n + 1:=⟨m - 1,by simp at hm;omega⟩
  unfold bc
  simp only [List.map_cons,List.map_nil,aP]
  rw [hf v (by simp) _ (iU dC)]
  dsimp only
  rw [if_neg dC,if_pos dC]
 | v :: u :: ks,m,acc,_,hm,hf=>by
  obtain ⟨m,rfl⟩ : ∃ n,m = n + 1:=⟨m - 1,by simp at hm;omega⟩
  have ih:=n4 (rest:=rest) (u :: ks) m (acc ++ [v]) (by simp) (by simp at hm ⊢;omega) fun w hw=>hf w (by simp [hw])
  unfold bc
  simp only [List.map_cons,aP,List.append_assoc,List.cons_append] at ih ⊢
  rw [hf v (by simp) _ (iU dC)]
  dsimp only
  rw [if_pos dC,ih]
  simp
theorem jc {t : Ty} (hw : TyW t) {d : Fld} (h : d ∈ t.fields) : bK t.fields d.tag = some d:=by
 cases e : bK t.fields d.tag with
 | none=>have:=(List.find?_eq_none.1 e) d h;simp at this
 | some d' =>
  have h1 : d'.tag = d.tag:=by have:=List.find?_some e;simpa using this
  rw [yw hw (List.mem_of_find?_eq_some e) h h1]
theorem kS {f : act → act → Option (V × act)} {t : Ty} (hw : TyW t) {d : Fld} {v : V} {r : act} (h : d ∈ t.fields) (hf : f d.kind (v.out ++ r) = some (v,r)) : aN f t (br d.tag ++ 61 :: (v.out ++ r)) = some ((d,v),r):=by
 have ht:=(hw.fld d h).tag
 unfold aN
 rw [nn oM ht.2 dC (iU dC)]
 dsimp only
 rw [jc hw h]
 dsimp only
 rw [if_pos dC,hf];rfl
theorem pL {ts : List Ty} {f : act → act → Option (V × act)} {t : Ty} (hw : TyW t) {rest : act} : ∀ (fs : List (Fld × V)) (m : Nat) (last : Int) (acc : List V),fs ≠ [] → fs.length ≤ m → (∀ p ∈ fs,p.1 ∈ t.fields ∧ p.2.out ≠ cT ts p.1 ∧ last < p.1.tag ∧ ∀ r,Dl r → f p.1.kind (p.2.out ++ r) = some (p.2,r)) → fs.Pairwise (fun a b=>a.1.tag < b.1.tag) →
  bC ts f t m last (aP 44 ((fs.map cY).map V.out) ++ 125 :: rest) acc = some (acc ++ fs.map cY,rest)
 | [],_,_,_,h,_,_,_=>absurd rfl h
 | [p],m,last,acc,_,hm,hf,_=>by
  obtain ⟨m,rfl⟩ : ∃ n,m = n + 1:=⟨m - 1,by simp at hm;omega⟩
  obtain ⟨h1,h2,h3,h4⟩:=hf p (by simp)
  unfold bC
  simp only [List.map_cons,List.map_nil,aP,cY,gg,List.append_assoc,List.cons_append]
  rw [kS hw h1 (h4 _ (iU dC))]
  dsimp only
  rw [if_neg (by rintro (h | h);omega;exact h2 h),if_neg dC,if_pos dC]
 | p :: q :: fs,m,last,acc,_,hm,hf,hp=>by
  obtain ⟨m,rfl⟩ : ∃ n,m = n + 1:=⟨m - 1,by simp at hm;omega⟩
  obtain ⟨h1,h2,h3,h4⟩:=hf p (by simp)
  rw [List.pairwise_cons] at hp
  have ih:=pL (ts:=ts) (f:=f) hw (rest:=rest) (q :: fs) m p.1.tag (acc ++ [cY p]) (by simp) (by simp at hm ⊢;omega) (fun w hw=>⟨(hf w (by simp [hw])).1,(hf w (by simp [hw])).2.1,hp.1 w hw,(hf w (by simp [hw])).2.2.2⟩) hp.2
  unfold bC
  simp only [List.map_cons,aP,gg,List.append_assoc,List.cons_append] at ih ⊢
  rw [kS hw h1 (h4 _ (iU dC))]
  dsimp only
  rw [if_neg (by rintro (h | h);omega;exact h2 h),if_pos dC,ih]
  simp
theorem qf {m : Int} (h : 0 ≤ m) : ∃ c r,br m = c :: r ∧ aZ c = true:=by
 cases e : br m with
 | nil=>have:=gX m;rw [e] at this;simp at this
 | cons c r=>exact ⟨c,r,F,(im _ (Nat.le_refl _) h).2 c (by rw [e];simp)⟩
theorem xz {c : UInt8} (h : aZ c = true) : 48 ≤ c.toNat ∧ c.toNat ≤ 57:=by unfold aZ at h;rwa [decide_eq_true_eq] at h
theorem wz {ts : List Ty} {k : act} {v : V} (h : OfK ts k v) : ∃ c r,v.out = c :: r ∧ c.toNat ≠ 93:=by
 cases h with
 | num k n h1 h2=>obtain ⟨c,r,e,hc⟩:=qf h1;have:=xz hc;exact ⟨c,r,by rw [V.out];exact e,oM⟩
 | txt k x=>exact ⟨39,_,by rw [V.out];rfl,by decide⟩
 | flg k x h=>rcases h with rfl | rfl;exact ⟨121,_,by rw [V.out];rfl,by decide⟩;exact ⟨110,_,by rw [V.out];rfl,by decide⟩
 | lst=>exact ⟨91,_,by rw [V.out];rfl,by decide⟩
 | non=>exact ⟨45,_,by rw [V.out];rfl,by decide⟩
 | opt=>exact ⟨43,_,by rw [V.out];rfl,by decide⟩
 | recd=>exact ⟨123,_,by rw [V.out];rfl,by decide⟩
 | enm=>exact ⟨35,_,by rw [V.out];rfl,by decide⟩
 | uni=>exact ⟨60,_,by rw [V.out];rfl,by decide⟩
theorem qB {ts : List Ty} (hw : SchW ts) : ∀ (n : Nat) {k : act} {v : V},OfK ts k v → v.deep ≤ n → ∀ r,Dl r → rd ts n k (v.out ++ r) = some (v,r)
 | 0,k,v,h,hd,r,hr=>by
  obtain ⟨w,x,t,ks⟩:=v
  have hne : w ≠ 61:=by cases h <;> decide
  rw [cO hne] at hd;omega
 | n + 1,k,v,h,hd,r,hr=>by
  have ih:=fun {k : act} {v : V}=>qB hw n (k:=k) (v:=v)
  show eB ts (rd ts n) k (v.out ++ r) = some (v,r)
  cases h with
  | num k m h1 h2 =>
   have e : V.out (.nd 110 (br m) 0 []) = br m:=by rw [V.out];rfl
   have hrf : aX ts (110 :: k) = none:=by cases h : aX ts (110 :: k) with | none=>rfl | some t=>exact (e9 h F dC).elim
   rw [e]
   unfold eB
   try dsimp only
   rw [if_neg dC,if_neg dC,hrf]
   try dsimp only
   rw [if_pos dC,nn h1 h2 dC hr];rfl
  | txt k x h1 =>
   have e : V.out (.nd 116 x 0 []) ++ r = 39 :: (x ++ 39 :: r):=by rw [V.out];simp [dl]
   have hrf : aX ts (116 :: k) = none:=by cases h : aX ts (116 :: k) with | none=>rfl | some t=>exact (e9 h F dC).elim
   rw [e]
   unfold eB
   try dsimp only
   rw [if_neg dC,if_neg dC,hrf]
   try dsimp only
   rw [if_neg dC,if_pos dC,t5 h1]
  | flg k x h1 =>
   have e : V.out (.nd 102 x 0 []) = x:=by rw [V.out];rfl
   have hrf : aX ts (102 :: k) = none:=by cases h : aX ts (102 :: k) with | none=>rfl | some t=>exact (e9 h F dC).elim
   rw [e]
   unfold eB
   try dsimp only
   rw [if_neg dC,if_neg dC,hrf]
   try dsimp only
   rw [if_neg dC,if_neg dC,if_pos dC,uV h1]
  | lst k ks h1 h2 =>
   rw [cO dC] at hd
   rw [nr]
   unfold eB
   try dsimp only
   rw [if_pos dC]
   try dsimp only
   rw [if_pos dC]
   cases ks with
   | nil=>simp only [List.map_nil,aP,List.nil_append];rw [if_pos dC]
   | cons v ks =>
    have hI:=n4 (f:=rd ts n k) (rest:=r) (v :: ks) 20 [] (by simp) h1 fun u hu r hr=>ih (h2 u hu) (by have:=V.deep_mem hu;omega) r hr
    obtain ⟨c,s,e1,e2⟩:=wz (h2 v (by simp))
    cases hj : aP 44 ((v :: ks).map V.out) ++ 93 :: r with
    | nil=>simp at hj
    | cons c' s' =>
     have hc' : c' = c:=by
      have : ∃ s2,aP 44 ((v :: ks).map V.out) ++ 93 :: r = c :: s2:=by
       cases ks with
       | nil=>simp only [List.map_cons,List.map_nil,aP,e1,List.cons_append];exact ⟨_,F⟩
       | cons u ks=>simp only [List.map_cons,aP,e1,List.cons_append];exact ⟨_,F⟩
      obtain ⟨s2,h3⟩:=this
      rw [hj] at h3;injection h3
     try dsimp only
     rw [if_neg (by rw [hc'];exact e2),← hj,hI];rfl
  | non k =>
   have e : V.out (.nd 63 [] 0 []) ++ r = 45 :: r:=by rw [V.out];rfl
   rw [e]
   unfold eB
   try dsimp only
   rw [if_neg dC,if_pos dC]
   try dsimp only
   rw [if_pos dC]
  | opt k v h1 =>
   rw [cO dC] at hd
   have hd2 : v.deep ≤ n:=by have:=V.deep_mem (ks:=[v]) (v:=v) (by simp);omega
   rw [sX]
   unfold eB
   try dsimp only
   rw [if_neg dC,if_pos dC]
   try dsimp only
   rw [if_neg dC,if_pos dC,ih h1 hd2 r hr];rfl
  | recd k t fs h1 h2 h3 h4 h5 h6 =>
   rw [cO dC] at hd
   have hk : ∃ k',k = 64 :: k':=by
    cases k with
    | nil=>simp [aX,bE] at h1
    | cons c k' =>
     by_cases h64 : c.toNat = 64
     ·exact ⟨k',by rw [show c = 64 from UInt8.toNat_inj.1 h64]⟩
     ·exact (e9 h1 F h64).elim
   obtain ⟨k',rfl⟩:=hk
   rw [pd]
   unfold eB
   try dsimp only
   rw [if_neg dC,if_neg dC,h1]
   try dsimp only
   unfold a6
   dsimp only
   rw [if_pos h2,if_pos dC]
   cases fs with
   | nil=>simp only [List.map_nil,aP,List.nil_append];rw [if_pos dC]
   | cons p fs =>
    have hlen : (p :: fs).length ≤ (aP 44 (((p :: fs).map cY).map V.out) ++ 125 :: r).length + 1:=by
     have h7 : ∀ xs : List act,(∀ x ∈ xs,1 ≤ x.length) → xs.length ≤ (aP 44 xs).length:=by
      intro xs
      induction xs with
      | nil=>intro _;simp
      | cons x xs ihx =>
       intro hx
       have hx1:=hx x (by simp)
       have ihx:=ihx fun y hy=>hx y (by simp [hy])
       cases xs with
       | nil=>simp only [aP,List.length_cons,List.length_nil];omega
       | cons y xs=>simp only [aP,List.length_append,List.length_cons] at ihx ⊢;omega
     have h8:=h7 (((p :: fs).map cY).map V.out) (fun x hx=>by
      obtain ⟨v,hv,rfl⟩:=List.mem_map.1 hx
      obtain ⟨q,hq,rfl⟩:=List.mem_map.1 hv
      rw [gg];simp;omega)
     simp only [List.length_map] at h8
     simp only [List.length_append,List.length_cons]
     simp only [List.length_cons] at h8
     omega
    have hI:=pL (ts:=ts) (f:=rd ts n) (hw.ty t (b6 h1)) (rest:=r) (p :: fs) ((aP 44 (((p :: fs).map cY).map V.out) ++ 125 :: r).length + 1) 0 [] (by simp) hlen (fun q hq=>⟨h3 q hq,h5 q hq,by have:=((hw.ty t (b6 h1)).fld _ (h3 q hq)).tag;omega,fun r hr=>ih (h4 q hq) (by
     have:=V.deep_mem (ks:=(p :: fs).map cY) (v:=cY q) (List.mem_map.2 ⟨q,hq,rfl⟩)
     rw [show V.deep (cY q) = V.deep q.2 from nD] at this
     omega) r hr⟩) h6
    obtain ⟨c,s,e1,e2⟩:=qf (m:=p.1.tag) (by have:=((hw.ty t (b6 h1)).fld _ (h3 p (by simp))).tag;omega)
    have he2:=xz e2
    cases hj : aP 44 (((p :: fs).map cY).map V.out) ++ 125 :: r with
    | nil=>simp at hj
    | cons c' s' =>
     have hc' : c' = c:=by
      have : ∃ s2,aP 44 (((p :: fs).map cY).map V.out) ++ 125 :: r = c :: s2:=by
       cases fs with
       | nil=>simp only [List.map_cons,List.map_nil,aP,gg,e1,List.cons_append];exact ⟨_,F⟩
       | cons u ks=>simp only [List.map_cons,aP,gg,e1,List.cons_append];exact ⟨_,F⟩
      obtain ⟨s2,h3⟩:=this
      rw [hj] at h3;injection h3
     try dsimp only
     rw [if_neg (by rw [hc'];omega),← hj,hI];rfl
  | enm k t d h1 h2 h3 =>
   have hk : ∃ k',k = 64 :: k':=by
    cases k with
    | nil=>simp [aX,bE] at h1
    | cons c k' =>
     by_cases h64 : c.toNat = 64
     ·exact ⟨k',by rw [show c = 64 from UInt8.toNat_inj.1 h64]⟩
     ·exact (e9 h1 F h64).elim
   obtain ⟨k',rfl⟩:=hk
   have ht:=((hw.ty t (b6 h1)).fld d h3).tag
   have e : V.out (.nd 69 [] d.tag []) ++ r = 35 :: (br d.tag ++ r):=by rw [V.out];rfl
   rw [e]
   unfold eB
   try dsimp only
   rw [if_neg dC,if_neg dC,h1]
   try dsimp only
   unfold a6
   dsimp only
   rw [if_neg oM,if_pos h2,if_pos dC,nn oM ht.2 dC hr]
   try dsimp only
   rw [jc (hw.ty t (b6 h1)) h3,if_pos (by simp)]
  | uni k t d v h1 h2 h3 h4 h5 =>
   rw [cO dC] at hd
   have hd2 : v.deep ≤ n:=by have:=V.deep_mem (ks:=[v]) (v:=v) (by simp);omega
   have hk : ∃ k',k = 64 :: k':=by
    cases k with
    | nil=>simp [aX,bE] at h1
    | cons c k' =>
     by_cases h64 : c.toNat = 64
     ·exact ⟨k',by rw [show c = 64 from UInt8.toNat_inj.1 h64]⟩
     ·exact (e9 h1 F h64).elim
   obtain ⟨k',rfl⟩:=hk
   rw [sW]
   unfold eB
   try dsimp only
   rw [if_neg dC,if_neg dC,h1]
   try dsimp only
   unfold a6
   dsimp only
   rw [if_neg h2,if_neg h3,if_pos dC,kS (hw.ty t (b6 h1)) h4 (ih h5 hd2 _ (iU dC))]
   try dsimp only
   rw [if_pos dC]
theorem ng {ts : List Ty} (hw : SchW ts) {k : act} {v : V} (h : OfK ts k v) (hl : v.out.length ≤ 400) (hd : v.deep ≤ 12) : bZ ts k v.out = some v:=by
 have h1:=qB hw 12 h hd [] rC
 rw [List.append_nil] at h1
 unfold bZ
 rw [if_pos hl,h1]
theorem ss {ts : List Ty} (hw : SchW ts) {k : act} {v : V} (h : OfK ts k v) (hn : ¬ (v.out.length ≤ 400 ∧ v.deep ≤ 12)) : bZ ts k v.out = none:=by
 cases hv : bZ ts k v.out with
 | none=>rfl
 | some u =>
  obtain ⟨h1,h2,h3⟩:=pC hv
  have hu:=nT hv
  have hd : v.deep ≤ max v.deep 12:=Nat.le_max_left _ _
  have h4:=qB hw (max v.deep 12) h hd [] rC
  have h5:=qB hw (max v.deep 12) hu (Nat.le_trans h3 (Nat.le_max_right _ _)) [] rC
  rw [List.append_nil] at h4 h5
  rw [h1,h4] at h5
  have:=(Prod.mk.inj (Option.some.inj h5)).1
  subst this
  exact absurd ⟨h2,h3⟩ hn
theorem xX : ∀ (k : Nat) {n m : Nat} {a b : act},n ≤ k → num n ++ a = num m ++ b → n = m ∧ a = b:=by
 intro k
 induction k with
 | zero =>
  intro n m a b hn e
  have : n = 0:=oM
  subst this
  rw [ic dC] at e
  by_cases hm : m < 128
  ·rw [ic hm] at e
   simp only [List.cons_append,List.nil_append,List.cons.injEq] at e
   have h1:=cC (a:=((0 : Nat) : Int)) oM
   have h2:=cC (a:=(m : Int)) oM
   rw [e.1] at h1
   exact ⟨oM,e.2⟩
  ·rw [ky hm] at e
   simp only [List.cons_append,List.nil_append,List.cons.injEq] at e
   have h1:=cC (a:=((0 : Nat) : Int)) oM
   have h2:=cC (a:=((128 + m % 128 : Nat) : Int)) oM
   rw [e.1] at h1
   omega
 | succ k ih =>
  intro n m a b hn e
  by_cases h : n < 128
  ·rw [ic h] at e
   have h1:=cC (a:=(n : Int)) oM
   by_cases hm : m < 128
   ·rw [ic hm] at e
    simp only [List.cons_append,List.nil_append,List.cons.injEq] at e
    have h2:=cC (a:=(m : Int)) oM
    rw [e.1] at h1
    exact ⟨oM,e.2⟩
   ·rw [ky hm] at e
    simp only [List.cons_append,List.nil_append,List.cons.injEq] at e
    have h2:=cC (a:=((128 + m % 128 : Nat) : Int)) oM
    rw [e.1] at h1
    omega
  ·rw [ky h] at e
   have h1:=cC (a:=((128 + n % 128 : Nat) : Int)) oM
   by_cases hm : m < 128
   ·rw [ic hm] at e
    simp only [List.cons_append,List.nil_append,List.cons.injEq] at e
    have h2:=cC (a:=(m : Int)) oM
    rw [e.1] at h1
    omega
   ·rw [ky hm] at e
    simp only [List.cons_append,List.cons.injEq] at e
    have h2:=cC (a:=((128 + m % 128 : Nat) : Int)) oM
    rw [e.1] at h1
    obtain ⟨h3,h4⟩:=ih (n:=n / 128) (m:=m / 128) oM e.2
    exact ⟨oM,h4⟩
theorem rf {n m : Int} {a b : act} (hn : 0 ≤ n) (hm : 0 ≤ m) (e : aK n ++ a = aK m ++ b) : n = m ∧ a = b:=by
 obtain ⟨h1,h2⟩:=xX _ (Nat.le_refl _) e
 exact ⟨oM,h2⟩
def fG (m : Nat) : act → Option (Int × act)
 | []=>none
 | c :: r=>if c.toNat < 128 then (if c.toNat = 0 ∨ 999999 < m + c.toNat * 16384 then none else some (((m + c.toNat * 16384 : Nat) : Int),r)) else none
def fV (m : Nat) : act → Option (Int × act)
 | []=>none
 | b :: r=>if b.toNat < 128 then (if b.toNat = 0 then none else some (((m + b.toNat * 128 : Nat) : Int),r)) else fG (m + b.toNat % 128 * 128) r
def bj : act → Option (Int × act)
 | []=>none
 | a :: r=>if a.toNat < 128 then some ((a.toNat : Int),r) else fV (a.toNat % 128) r
theorem fF {n : Int} (h0 : 0 ≤ n) (h1 : n ≤ 999999) (r : act) : bj (aK n ++ r) = some (n,r):=by
 by_cases h2 : n < 128
 ·have e:=cC (a:=n) oM
  rw [ec h2 h0,List.singleton_append,bj,if_pos oM,e]
 ·have e:=cC (a:=128 + n % 128) oM
  rw [gi h2]
  by_cases h3 : n / 128 < 128
  ·have e2:=cC (a:=n / 128) oM
   rw [ec h3 oM]
   simp only [List.cons_append,List.nil_append]
   rw [bj,if_neg oM,fV,if_pos oM,if_neg oM]
   congr 2
   omega
  ·have e2:=cC (a:=128 + n / 128 % 128) oM
   have e3:=cC (a:=n / 128 / 128) oM
   rw [gi h3,ec oM oM]
   simp only [List.cons_append,List.nil_append]
   rw [bj,if_neg oM,fV,if_neg oM,fG,if_pos oM,if_neg oM]
   congr 2
   omega
theorem cF {s r : act} {n : Int} (h : bj s = some (n,r)) : 0 ≤ n ∧ n ≤ 999999 ∧ s = aK n ++ r:=by
 cases s with
 | nil=>cases h
 | cons a s =>
  rw [bj] at h
  have ha:=a.toNat_lt
  split at h
  ·simp only [Option.some.injEq,Prod.mk.injEq] at h
   obtain ⟨rfl,rfl⟩:=h
   refine ⟨oM,oM,?_⟩
   rw [ec oM oM,gL];rfl
  ·cases s with
   | nil=>cases h
   | cons b s =>
    rw [fV] at h
    have hb:=b.toNat_lt
    split at h
    ·split at h
     ·cases h
     ·simp only [Option.some.injEq,Prod.mk.injEq] at h
      obtain ⟨rfl,rfl⟩:=h
      refine ⟨oM,oM,?_⟩
      rw [gi oM,ec oM oM]
      rw [show (128 + ((a.toNat % 128 + b.toNat * 128 : Nat) : Int) % 128) = (a.toNat : Int) by omega,show ((a.toNat % 128 + b.toNat * 128 : Nat) : Int) / 128 = (b.toNat : Int) by omega,gL,gL];rfl
    ·cases s with
     | nil=>cases h
     | cons c s =>
      rw [fG] at h
      have hc:=c.toNat_lt
      split at h
      ·split at h
       ·cases h
       ·simp only [Option.some.injEq,Prod.mk.injEq] at h
        obtain ⟨rfl,rfl⟩:=h
        refine ⟨oM,oM,?_⟩
        rw [gi oM,gi oM,ec oM oM]
        rw [show (128 + ((a.toNat % 128 + b.toNat % 128 * 128 + c.toNat * 16384 : Nat) : Int) % 128) = (a.toNat : Int) by omega,
         show (128 + ((a.toNat % 128 + b.toNat % 128 * 128 + c.toNat * 16384 : Nat) : Int) / 128 % 128) = (b.toNat : Int) by omega,
         show ((a.toNat % 128 + b.toNat % 128 * 128 + c.toNat * 16384 : Nat) : Int) / 128 / 128 = (c.toNat : Int) by omega,gL,gL,gL];rfl
      ·cases h
theorem bT {s r : act} {n : Int} (h : bj s = some (n,r)) : r.length < s.length:=by
 obtain ⟨_,_,rfl⟩:=cF h
 have:=eT n
 simp;omega
def cd (s : act) : Option (act × act):=match bj s with
 | none=>none
 | some (n,r)=>if n.toNat ≤ r.length then some (r.take n.toNat,r.drop n.toNat) else none
theorem lU {x r : act} (h : x.length ≤ 999999) : cd (aK x.length ++ (x ++ r)) = some (x,r):=by
 unfold cd
 rw [fF oM oM]
 dsimp only
 rw [if_pos (by simp),Int.toNat_natCast,List.take_left,List.drop_left]
theorem t6 {s x r : act} (h : cd s = some (x,r)) : x.length ≤ 999999 ∧ s = aK x.length ++ (x ++ r):=by
 unfold cd at h
 split at h
 ·cases h
 ·rename_i n q hn
  obtain ⟨h0,h1,rfl⟩:=cF hn
  split at h
  ·rename_i hl
   simp only [Option.some.injEq,Prod.mk.injEq] at h
   obtain ⟨rfl,rfl⟩:=h
   have e : ((List.take n.toNat q).length : Int) = n:=by rw [List.length_take];omega
   exact ⟨oM,by rw [e,List.take_append_drop]⟩
  ·cases h
theorem dZ {s x r : act} (h : cd s = some (x,r)) : r.length + x.length < s.length:=by
 obtain ⟨_,rfl⟩:=t6 h
 have:=eT x.length
 simp;omega
def bA (f : act → Option (V × act)) : Nat → act → List V → Option (List V × act)
 | 0,s,acc=>some (acc,s)
 | m + 1,s,acc=>match f s with
  | none=>none
  | some (v,r)=>bA f m r (acc ++ [v])
def cP (f : act → act → Option (V × act)) (k p : act) : Option V:=match f k p with
 | some (v,[])=>some v
 | _=>none
def bH (ts : List Ty) (f : act → act → Option (V × act)) (t : Ty) : Nat → Int → act → List V → Option (List V × act)
 | 0,_,_,_=>none
 | m + 1,last,s,acc=>match bj s with
  | none=>none
  | some (n,r)=>if n = 0 then some (acc,r) else match cd r with
   | none=>none
   | some (p,r')=>if n ≤ last then none else match bK t.fields n with
    | none=>bH ts f t m n r' acc
    | some d=>match cP f d.kind p with
     | none=>none
     | some v=>bH ts f t m n r' (if v.out = cT ts d then acc else acc ++ [.nd 61 [] d.tag [v]])
def bS (ts : List Ty) (f : act → act → Option (V × act)) (t : Ty) (s : act) : Option (V × act) :=
 if t.sort = 82 then (bH ts f t (s.length + 1) 0 s []).map fun x=>(.nd 82 [] 0 x.1,x.2) else match bj s with
  | none=>none
  | some (n,r)=>match bK t.fields n with
   | none=>none
   | some d=>if t.sort = 69 then some (.nd 69 [] d.tag [],r) else match cd r with
    | none=>none
    | some (p,r')=>(cP f d.kind p).map fun v=>(.nd 85 [] d.tag [v],r')
def cq : act → Option (Bool × act)
 | []=>none
 | b :: r=>if b.toNat = 0 then some (false,r) else if b.toNat = 1 then some (true,r) else none
def ff (ts : List Ty) (f : act → act → Option (V × act)) : act → act → Option (V × act)
 | [],_=>none
 | c :: k,s =>
  if c.toNat = 91 then (match bj s with
   | none=>none
   | some (n,r)=>if n ≤ 20 then (bA (f k) n.toNat r []).map fun x=>(.nd 91 [] 0 x.1,x.2) else none)
  else if c.toNat = 63 then (match cq s with
   | none=>none
   | some (false,r)=>some (.nd 63 [] 0 [],r)
   | some (true,r)=>(f k r).map fun x=>(.nd 63 [] 0 [x.1],x.2))
  else match aX ts (c :: k) with
   | some t=>bS ts f t s
   | none=>if c.toNat = 110 then (bj s).map fun x=>(.nd 110 (br x.1) 0 [],x.2)
    else if c.toNat = 116 then (match cd s with
     | none=>none
     | some (p,r)=>if db (39 :: (p ++ [39])) = true then some (.nd 116 p 0 [],r) else none)
    else if c.toNat = 102 then (cq s).map fun x=>(.nd 102 (if x.1 = true then [121,101,115] else [110,111]) 0 [],x.2) else none
def rb (ts : List Ty) : Nat → act → act → Option (V × act)
 | 0,_,_=>none
 | n + 1,k,s=>ff ts (rb ts n) k s
theorem mZ {f : act → Option (V × act)} {p : V → Prop} (h : ∀ s y,f s = some y → p y.1) : ∀ (m : Nat) (s : act) (acc : List V) {x : List V × act},bA f m s acc = some x → (∀ v ∈ acc,p v) → (∀ v ∈ x.1,p v) ∧ x.1.length = acc.length + m
 | 0,s,acc,x,e,ha=>by simp only [bA,Option.some.injEq] at e;subst e;exact ⟨ha,F⟩
 | m + 1,s,acc,x,e,ha=>by
  unfold bA at e
  cases hf : f s with
  | none=>rw [hf] at e;cases e
  | some y =>
   rw [hf] at e
   obtain ⟨v,r⟩:=y
   have:=mZ h m r _ e (fun u hu=>by
    rcases List.mem_append.1 hu with hu | hu
    ·exact ha u hu
    ·simp only [List.mem_singleton] at hu;subst hu;exact h _ _ hf)
   exact ⟨this.1,by rw [this.2,List.length_append,List.length_singleton];omega⟩
theorem cN {f : act → act → Option (V × act)} {k p : act} {v : V} (h : cP f k p = some v) : f k p = some (v,[]):=by
 unfold cP at h
 split at h
 ·rename_i u hu;rw [hu];simp only [Option.some.injEq] at h;subst h;rfl
 ·cases h
theorem ik {fs : List Fld} {n : Int} {d : Fld} (h : bK fs n = some d) : d.tag = n ∧ d ∈ fs:=⟨by have:=List.find?_some h;simpa using this,List.mem_of_find?_eq_some h⟩
theorem ju {ts : List Ty} {f : act → act → Option (V × act)} {q : act → V → Prop} (h : ∀ k s y,f k s = some y → q k y.1) {t : Ty} : ∀ (m : Nat) (last : Int) (s : act) (fs : List (Fld × V)) {x : List V × act},bH ts f t m last s (fs.map cY) = some x → (∀ p ∈ fs,p.1 ∈ t.fields ∧ q p.1.kind p.2 ∧ p.2.out ≠ cT ts p.1 ∧ p.1.tag ≤ last) → fs.Pairwise (fun a b=>a.1.tag < b.1.tag) →
  ∃ gs : List (Fld × V),x.1 = gs.map cY ∧ (∀ p ∈ gs,p.1 ∈ t.fields ∧ q p.1.kind p.2 ∧ p.2.out ≠ cT ts p.1) ∧ gs.Pairwise (fun a b=>a.1.tag < b.1.tag)
 | 0,_,_,_,_,e,_,_=>by cases e
 | m + 1,last,s,fs,x,e,ha,hp=>by
  unfold bH at e
  cases hn : bj s with
  | none=>rw [hn] at e;cases e
  | some y =>
   rw [hn] at e
   obtain ⟨n,r⟩:=y
   dsimp only at e
   split at e
   ·simp only [Option.some.injEq] at e;subst e
    exact ⟨fs,F,fun p hp=>⟨(ha p hp).1,(ha p hp).2.1,(ha p hp).2.2.1⟩,hp⟩
   ·split at e
    ·cases e
    ·split at e
     ·cases e
     ·rename_i hl
      have ha1 : ∀ p ∈ fs,p.1 ∈ t.fields ∧ q p.1.kind p.2 ∧ p.2.out ≠ cT ts p.1 ∧ p.1.tag ≤ n:=fun p hp=>by
       obtain ⟨a1,a2,a3,a4⟩:=ha p hp;exact ⟨a1,a2,a3,oM⟩
      split at e
      ·exact ju h m n _ fs e ha1 hp
      ·rename_i d hd
       obtain ⟨hd1,hd2⟩:=ik hd
       split at e
       ·cases e
       ·rename_i v hv
        have hq:=h _ _ _ (cN hv)
        split at e
        ·exact ju h m n _ fs e ha1 hp
        ·rename_i hne
         have e2 : fs.map cY ++ [V.nd 61 [] d.tag [v]] = (fs ++ [(d,v)]).map cY:=by simp
         rw [e2] at e
         refine ju h m n _ _ e (fun p hp=>?_) ?_
         ·rcases List.mem_append.1 hp with hp | hp
          ·exact ha1 p hp
          ·simp only [List.mem_singleton] at hp;subst hp;exact ⟨hd2,hq,hne,by dsimp only;omega⟩
         ·rw [List.pairwise_append]
          refine ⟨hp,List.pairwise_singleton _ _,fun a hA b hB=>?_⟩
          simp only [List.mem_singleton] at hB;subst hB
          have:=(ha a hA).2.2.2
          show a.1.tag < d.tag
          omega
theorem kT {ts : List Ty} : ∀ (n : Nat) (k s : act) (x : V × act),rb ts n k s = some x → OfK ts k x.1 ∧ x.1.deep ≤ n
 | 0,_,_,_,e=>by cases e
 | n + 1,k,s,x,e=>by
  have ih : ∀ k s y,rb ts n k s = some y → OfK ts k y.1 ∧ y.1.deep ≤ n:=fun k s y hy=>kT n k s y hy
  replace e : ff ts (rb ts n) k s = some x:=e
  cases k with
  | nil=>cases e
  | cons c k =>
   unfold ff at e
   dsimp only at e
   split at e
   ·rename_i hc
    obtain rfl:=bn hc dC
    split at e
    ·cases e
    ·split at e
     ·rename_i m r hm hm2
      cases hi : bA (rb ts n k) m.toNat r [] with
      | none=>rw [hi] at e;cases e
      | some y =>
       rw [hi] at e
       simp only [Option.map_some,Option.some.injEq] at e;subst e
       have h1:=mZ (p:=fun v=>OfK ts k v ∧ v.deep ≤ n) (fun s y hy=>ih k s y hy) _ _ _ hi (by simp)
       obtain ⟨h2,h3⟩:=h1
       simp only [List.length_nil] at h3
       refine ⟨.lst _ _ oM fun v hv=>(h2 v hv).1,?_⟩
       rw [cO dC]
       have:=V.deeps_le (n:=n) fun v hv=>(h2 v hv).2
       omega
     ·cases e
   ·rename_i hc
    split at e
    ·rename_i hc2
     obtain rfl:=bn hc2 dC
     split at e
     ·cases e
     ·simp only [Option.some.injEq] at e;subst e
      exact ⟨.non _,by rw [cO dC];simp [V.deeps]⟩
     ·rename_i r _
      cases hf : rb ts n k r with
      | none=>rw [hf] at e;cases e
      | some y =>
       rw [hf] at e
       simp only [Option.map_some,Option.some.injEq] at e;subst e
       obtain ⟨h1,h2⟩:=ih _ _ _ hf
       refine ⟨.opt _ _ h1,?_⟩
       rw [cO dC]
       have:=V.deeps_le (ks:=[y.1]) (n:=n) fun v hv=>by simp only [List.mem_singleton] at hv;subst hv;exact h2
       omega
    ·split at e
     ·rename_i t ht
      unfold bS at e
      split at e
      ·rename_i h82
       cases hf : bH ts (rb ts n) t (s.length + 1) 0 s [] with
       | none=>rw [hf] at e;cases e
       | some y =>
        rw [hf] at e
        simp only [Option.map_some,Option.some.injEq] at e;subst e
        obtain ⟨gs,e1,e2,e3⟩:=ju (q:=fun k v=>OfK ts k v ∧ v.deep ≤ n) (fs:=[]) ih _ _ _ hf (by simp) (by simp)
        dsimp only
        rw [e1]
        refine ⟨.recd _ t gs ht h82 (fun p hp=>(e2 p hp).1) (fun p hp=>(e2 p hp).2.1.1) (fun p hp=>(e2 p hp).2.2) e3,?_⟩
        rw [cO dC]
        have:=V.deeps_le (ks:=gs.map cY) (n:=n) fun v hv=>by
         obtain ⟨p,hp,rfl⟩:=List.mem_map.1 hv
         have:=(e2 p hp).2.1.2
         show V.deep (.nd 61 [] p.1.tag [p.2]) ≤ n
         rw [V.deep,if_pos rfl]
         exact V.deeps_le (ks:=[p.2]) fun v hv=>by simp only [List.mem_singleton] at hv;subst hv;exact this
        omega
      ·rename_i h82
       split at e
       ·cases e
       ·split at e
        ·cases e
        ·rename_i d hd
         obtain ⟨hd1,hd2⟩:=ik hd
         split at e
         ·rename_i h69
          simp only [Option.some.injEq] at e;subst e
          exact ⟨.enm _ t d ht h69 hd2,by rw [cO dC];simp [V.deeps]⟩
         ·rename_i h69
          split at e
          ·cases e
          ·rename_i p r' _
           cases hf : cP (rb ts n) d.kind p with
           | none=>rw [hf] at e;cases e
           | some v =>
            rw [hf] at e
            simp only [Option.map_some,Option.some.injEq] at e;subst e
            obtain ⟨h1,h2⟩:=ih _ _ _ (cN hf)
            refine ⟨.uni _ t d v ht h82 h69 hd2 h1,?_⟩
            rw [cO dC]
            have:=V.deeps_le (ks:=[v]) (n:=n) fun u hv=>by simp only [List.mem_singleton] at hv;subst hv;exact h2
            omega
     ·rename_i ht
      split at e
      ·rename_i h1
       obtain rfl:=bn h1 dC
       cases hn : bj s with
       | none=>rw [hn] at e;cases e
       | some y =>
        rw [hn] at e
        obtain ⟨m,r⟩:=y
        obtain ⟨g1,g2,_⟩:=cF hn
        simp only [Option.map_some,Option.some.injEq] at e;subst e
        exact ⟨.num _ _ g1 g2,by rw [cO dC];simp [V.deeps]⟩
      ·split at e
       ·rename_i h1
        obtain rfl:=bn h1 dC
        split at e
        ·cases e
        ·split at e
         ·rename_i hx
          simp only [Option.some.injEq] at e;subst e
          exact ⟨.txt _ _ hx,by rw [cO dC];simp [V.deeps]⟩
         ·cases e
       ·split at e
        ·rename_i h1
         obtain rfl:=bn h1 dC
         cases hn : cq s with
         | none=>rw [hn] at e;cases e
         | some y =>
          rw [hn] at e
          simp only [Option.map_some,Option.some.injEq] at e;subst e
          refine ⟨.flg _ _ ?_,by rw [cO dC];simp [V.deeps]⟩
          split
          ·exact .inl F
          ·exact .inr F
        ·cases e
open Go.Proofs
variable {G : Gh}
abbrev d7 : TypeId:=179
abbrev gu : TypeId:=5
theorem aaz {n : Nat} {D : List Deferred} {E : bm} {B : Base} {L : List Own} {K : Act → World → Prop} {Q : Exit → Act → World → Prop} {ty : TypeId} {pos : String} {aft : Array Edge} {gd : Option (Nat × Bool)} {d : Nat} {fo x : Operand} {af : Array TypeId} {m : Nat}
  (hf : ev E fo = some (.func (.func 203) #[] #[])) (hx : ev E x = some (I (m : Nat))) (hlt : Nat.blt d n = true) (hm : 0 < m ∧ m ≤ 1000000000)
  (k : ∀ b cap,m ≤ cap + 1 → Nx n D ((d,.slice (some ⟨b,0,none⟩) m (cap + 1)) :: E) B G (.acc (.slice (some ⟨b,0,none⟩) 0 (cap + 1)) gu 1 0 [] :: L) K) : Nx n D E B G L (ow acs ⟨some d,.call ⟨.value fo,[x].toArray,af⟩,ty,pos,aft,gd⟩ Q K) :=
 abJ (ps:=#[3]) hf hx hlt Tryz.func203 kR kR kR kR (TI.und (T:=22)) hm k
theorem xD {b : Nat} {v : Value} : cx acs 173 [Pt b 0] G [.blk b (.cells (List.toArray [.pointer none,v]) d7 (0,0))] (fun r L'=>L' = [.blk b (.cells (List.toArray [Pt b 0,v]) d7 (0,0))]):=by
 have hx : ∀ w,(callFunc 202 [Pt b 0].toArray).run acs w = .ok (.value (Pt b 0)) w:=fun w=>by
  rw [run_callFunc_extern Tryz.func202 kR kR kR (e:=Extern.AbiNoEscape.same) kR]
  rw [Lib.run_noEscape];rfl
 refine jH [(0,_)] Tryz.func173 Tryz.ntmps173 fun B hB hW=>?_
 repeat' (first | refine jR ?_ | (refine jo ?_;first | refine ak F ?_ | refine jV (cD F F) ?_ | refine jV (abf kR F F F) ?_) | refine ac F F ?_)
 refine t9 F (kf (nx F F F hx) F F ?_)
 repeat' (first | refine jR ?_ | (refine jo ?_;first | refine jV (yg kR F kR) ?_ | refine jD F F F ?_))
 exact nu (vs:=[]) F trivial F aW ⟨F,F⟩
theorem abL {b : Nat} {v : Value} : cx acs 173 [Pt b 0] G [.blk b (.cells (List.toArray [Pt b 0,v]) d7 (0,0))] (fun r L'=>L' = [.blk b (.cells (List.toArray [Pt b 0,v]) d7 (0,0))]):=by
 refine jH [(0,_)] Tryz.func173 Tryz.ntmps173 fun B hB hW=>?_
 repeat' (first | refine jR ?_ | (refine jo ?_;first | refine ak F ?_ | refine jV (cD F F) ?_ | refine jV (zX F F) ?_) | refine ad F F ?_)
 exact nu (vs:=[]) F trivial F aW ⟨F,F⟩
theorem yU {b m : Nat} (hm : 0 < m ∧ m ≤ 1000000000) : cx acs 174 [Pt b 0,I (m : Nat)] G [.blk b (.cells (List.toArray [Pt b 0,aH]) d7 (0,0))] (fun r L'=>∃ b2 c2,L' = [.acc (.slice (some ⟨b2,0,none⟩) 0 (c2 + 1)) gu 1 0 [],.blk b (.cells (List.toArray [Pt b 0,.slice (some ⟨b2,0,none⟩) 0 (c2 + 1)]) d7 (0,0))]):=by
 refine jH [(0,_),(1,_)] Tryz.func174 Tryz.ntmps174 fun B hB hW=>?_
 repeat' (first | refine jR ?_ | (refine jo ?_;first | refine ak F ?_ | refine jV (yj F F) ?_ | refine jD F F F ?_) | (refine aj (an (id:=0) _ (fun _ h=>h) ai ?_);refine jT 9 [0,1,2,6,9,10,11] (aa 16 3655) ?_;(refine jG (aa 16 3663) 3 F (aA F F F) ?_);(refine jG (aa 16 3679) 4 F (xv F) ?_);refine jW 5 [5,7] (aa 16 3839) ?_;(refine jG (aa 16 7935) 12 F (aA F F F) ?_);(refine jG (aa 16 16127) 13 F (ao F) ?_);refine jA 8 F ?_;(refine aaz F F F oM (fun _ _ _=>?_));refine jS (aa 16 16383) ?_;(refine jG (aa 16 32767) 14 F (oD F F oM) ?_);refine jT 0 [15] (aa 16 65535) ?_;refine jQ ?_))
 exact nu (vs:=[]) F trivial F (List.Sublist.refl _) ⟨F,_,_,F⟩
theorem yY {b m : Nat} (hm : 0 < m ∧ m ≤ 1000000000) : cx acs 141 [Pt b 0,I (m : Nat)] G [.blk b (.cells (List.toArray [.pointer none,aH]) d7 (0,0))] (fun r L'=>∃ b2 c2,L' = [.acc (.slice (some ⟨b2,0,none⟩) 0 (c2 + 1)) gu 1 0 [],.blk b (.cells (List.toArray [Pt b 0,.slice (some ⟨b2,0,none⟩) 0 (c2 + 1)]) d7 (0,0))]):=by
 refine jH [(0,_),(1,_)] Tryz.func141 Tryz.ntmps141 fun B hB hW=>?_
 repeat' (first | refine jR ?_ | (refine jo ?_;first | (refine ag F F F xD F ?_;rintro _ _ rfl;dsimp only [zA,fA]) | (refine ag F F F (yU oM) F ?_;rintro _ _ ⟨b2,c2,hb2,rfl⟩;dsimp only [zA,fA])) | refine ac F (ar oM) ?_ | refine ad F F ?_ | (refine aj (an (id:=3) _ (fun _ h=>h) ai ?_);refine jT 6 [0,1,2,5,6,7,11] (aa 13 2279) ?_;(refine jG (aa 13 2287) 3 F (aA F F F) ?_);(refine jG (aa 13 2303) 4 F (xv F) ?_);(refine jG (aa 13 2559) 8 F (aA F F F) ?_);(refine jG (aa 13 3071) 9 F (ao F) ?_);refine jW 0 [10,12] (aa 13 8191) ?_;refine jQ ?_))
 exact nu (vs:=[]) F trivial F (List.Sublist.refl _) ⟨F,_,_,F⟩
theorem oP {b b1 c1 m : Nat} {xs : List Value} {l : act} (hm : m + l.length ≤ 1000000000) : cx acs 142 [Pt b 0,S l] G [.blk b (.cells (List.toArray [Pt b 0,.slice (some ⟨b1,0,none⟩) m (c1 + 1)]) d7 (0,0)),.acc (.slice (some ⟨b1,0,none⟩) m (c1 + 1)) gu 1 m xs]
  (fun r L'=>∃ b2 c2,r = Tu [I l.length,.nilIface] ∧ L' = [.acc (.slice (some ⟨b2,0,none⟩) (m + l.length) (c2 + 1)) gu 1 (m + l.length) (xs ++ bi l),.blk b (.cells (List.toArray [Pt b 0,.slice (some ⟨b2,0,none⟩) (m + l.length) (c2 + 1)]) d7 (0,0))]):=by
 refine jH [(0,_),(1,_)] Tryz.func142 Tryz.ntmps142 fun B hB hW=>?_
 repeat' (first | refine jR ?_ | (refine jo ?_;first | refine ak F ?_ | refine abP F F F oM fun _ _=>?_ | refine jD F F F ?_ | (refine ag F F F abL F ?_;rintro _ _ rfl;dsimp only [zA,fA])))
 exact aO (vs:=[_,_]) F ⟨F,F,trivial⟩ F (List.Sublist.refl _) ⟨F,_,_,F,F⟩
theorem r7 {b b1 c1 m : Nat} {l : act} (hm : m ≤ 1000000000) : cx acs 143 [Pt b 0] G [.blk b (.cells (List.toArray [Pt b 0,.slice (some ⟨b1,0,none⟩) m (c1 + 1)]) d7 (0,0)),.acc (.slice (some ⟨b1,0,none⟩) m (c1 + 1)) gu 1 m (bi l)]
  (fun r L'=>r = S l ∧ L' = []):=by
 refine jH [(0,_)] Tryz.func143 Tryz.ntmps143 fun B hB hW=>?_
 repeat' (refine jR ?_)
 (refine aj (an (id:=1) [.blk b (.cells (List.toArray [Pt b 0,.slice (some ⟨b1,0,none⟩) m (c1 + 1)]) d7 (0,0))] (by intro y hy;simp only [List.mem_cons,List.not_mem_nil,or_false] at hy ⊢;simp [hy]) ai ?_);refine jW 6 [0,1,2,5,6,7] (aa 12 231) ?_;(refine jG (aa 12 239) 3 F (aA F F F) ?_);(refine jG (aa 12 255) 4 F (zV F F) ?_);(refine jG (aa 12 511) 8 F (aA F F F) ?_);(refine jG (aa 12 1023) 9 F (ao F) ?_);refine jA 10 F ?_;(refine aas kR F F F oM ?_);refine jS (aa 12 2047) ?_;refine jT 0 [11] (aa 12 4095) ?_;refine jQ ?_)
 repeat' (refine jR ?_)
 refine jZ (vs:=[_]) F ⟨F,trivial⟩ F ⟨F,F,?_⟩
 rfl
def df (xs : List act) : Nat:=(xs.map List.length).sum
theorem t7 (xs : List act) (x : act) : df (xs ++ [x]) = df xs + x.length:=by simp [df]
theorem eg : ∀ (xs : List act) (i : Nat),df (xs.take i) ≤ df xs
 | [],i=>by simp [df]
 | x :: xs,0=>by simp [df]
 | x :: xs,i + 1=>by
  have:=eg xs i
  simp only [df,List.take_succ_cons,List.map_cons,List.sum_cons] at this ⊢;omega
theorem k3 (c : UInt8) (y : act) : ∀ (xs : List act),xs ≠ [] → aP c (xs ++ [y]) = aP c xs ++ c :: y
 | [],h=>absurd rfl h
 | [x],_=>by simp [aP]
 | x :: z :: r,_=>by
  have:=k3 c y (z :: r) (by simp)
  simp only [List.cons_append,aP] at this ⊢
  rw [this];simp
theorem fp (c : UInt8) : ∀ (xs : List act),(aP c xs).length ≤ df xs + xs.length
 | []=>by simp [aP]
 | [x]=>by simp [aP,df]
 | x :: z :: r=>by
  have:=fp c (z :: r)
  simp only [aP,df,List.map_cons,List.sum_cons,List.length_append,List.length_cons] at this ⊢;omega
theorem Nx.cast {n : Nat} {D : List Deferred} {E : bm} {B : Base} {L L' : List Own} {K : Act → World → Prop} (e : L = L') (h : Nx n D E B G L' K) : Nx n D E B G L K:=by subst e;exact h
theorem a8.cap {G : Gh} {p : Option Addr} {c sz m : Nat} {xs : List Value} (h : a8 G (.slice p m c) sz m xs) : m ≤ c:=by
 obtain ⟨_,⟨h1,h2⟩ | ⟨b,o,cap,e,h1,_⟩⟩:=h
 ·omega
 ·simp only [Value.slice.injEq,true_and] at e;omega
theorem cM.tailS {G : Gh} {b o : Nat} {xs : List act} (h : cM G b o (aI dE xs)) : cM G b (o + 1) (aI dE (xs.drop 1)):=by
 cases xs with
 | nil=>obtain ⟨cs,h1,_⟩:=h;exact ⟨cs,h1,fun i v hv=>by simp [aI] at hv⟩
 | cons x r =>
  obtain ⟨cs,h1,h2⟩:=h
  refine ⟨cs,h1,fun i v hv=>?_⟩
  have:=h2 (i + 1) v (by simpa [aI,dE] using hv)
  rw [show o + 1 + i = o + (i + 1) by omega];exact this
theorem pY (xs : List act) (i : Nat) : ae (xs.drop 1) i = ae xs (i + 1):=by
 cases xs with
 | nil=>simp [ae]
 | cons x r=>simp [ae,List.getD]
theorem lZ {xs : List act} {i : Nat} (h : i < xs.length) : df (xs.take (i + 1)) = df (xs.take i) + (ae xs i).length:=by
 rw [eQ h,t7]
theorem aaO {v : Value} {xs : List act} {c : UInt8} (hs : a8 G v 1 xs.length (aI dE xs)) (hl : df xs + xs.length ≤ 100000000) : av acs 94 [v,S [c]] G (· = S (aP c xs)):=by
 by_cases h0 : xs = []
 ·subst h0
  refine jE [(0,_),(1,_)] Tryz.func94 Tryz.ntmps94 fun B hB=>?_
  repeat' (first | refine jR ?_ | (refine jo ?_;refine jV (fu F aS) ?_) | refine ac F F ?_)
  refine jY (vs:=[_]) ?_
  rfl
 have hpos:=List.length_pos_iff.2 h0
 obtain ⟨bv,ov,cv,rfl,hsv⟩:=hs.expl oM
 by_cases h1 : xs.length = 1
 ·obtain ⟨x,rfl⟩:=List.length_eq_one_iff.1 h1
  refine jE [(0,_),(1,_)] Tryz.func94 Tryz.ntmps94 fun B hB=>?_
  repeat' (first | refine jR ?_ | (refine jo ?_;first | refine jV (ao F) ?_ | refine jV (aD F F oM) ?_ | refine jV (aG F F aS F F) ?_) | refine ac F F ?_ | refine ad F F ?_)
  refine jY (vs:=[_]) ?_
  rfl
 have hcap:=hs.cap
 have hq : ¬ (9223372036854775807 / ((xs.length : Int) - 1) ≤ ((([c] : act).length : Nat) : Int)):=by
  have : (2 : Int) ≤ 9223372036854775807 / ((xs.length : Int) - 1):=Int.le_ediv_of_mul_le oM oM
  have e : ((([c] : act).length : Nat) : Int) = 1:=rfl
  omega
 have e1 : ((([c] : act).length : Nat) : Int) * ((xs.length : Int) - 1) = (xs.length : Int) - 1:=by
  have e : ((([c] : act).length : Nat) : Int) = 1:=rfl
  rw [e];omega
 have p1 : ((([c] : act).length : Nat) : Int) * ((xs.length : Int) - 1) ≤ 9223372036854775807:=by rw [e1];omega
 have p2 : -9223372036854775808 ≤ ((([c] : act).length : Nat) : Int) * ((xs.length : Int) - 1):=by rw [e1];omega
 have p3 : 0 + ((([c] : act).length : Nat) : Int) * ((xs.length : Int) - 1) ≤ 9223372036854775807:=by rw [e1];omega
 have p4 : -9223372036854775808 ≤ 0 + ((([c] : act).length : Nat) : Int) * ((xs.length : Int) - 1):=by rw [e1];omega
 refine jE [(0,_),(1,_)] Tryz.func94 Tryz.ntmps94 fun B hB=>?_
 repeat' (first | refine jM ?_ | (refine jo ?_;refine jV (ao F) ?_) | refine ac F F ?_ | (refine ad F (by refine decide_eq_false ?_;first | assumption | omega) ?_))
 refine Nx.re (d:=5) (v':=I ((xs.length : Int) - 1 + (df (xs.take 0) : Nat))) F (congrArg (Value.int .i64) (by rw [e1];simp [df])) ?_
 refine aR (ι:=Nat) (fun i=>i ≤ xs.length) (fun i=>[(0,.slice (some ⟨bv,ov,none⟩) xs.length cv),(1,S [c]),(39,.slice (some ⟨bv,ov,none⟩) xs.length cv),(40,I xs.length),(41,I i),(5,I ((xs.length : Int) - 1 + (df (xs.take i) : Nat)))]) (fun _=>G) (fun i=>[]) (fun i=>xs.length - i) 0 ?_ tU F aW (fun i Hi=>?_)
 ·exact Nat.zero_le _
 have hb1:=eg xs i
 by_cases hi : i < xs.length
 ·have hb2:=lZ hi
  have hb3:=eg xs (i + 1)
  repeat' (first | refine jM ?_ | (refine jo ?_;first | refine jV (aD F F oM) ?_ | (refine jV (ii F F aS ?_) ?_;focus omega)) | refine ac F (ar oM) ?_ | refine ad F (ay oM) ?_)
  refine Nx.re (d:=5) (v':=I ((xs.length : Int) - 1 + (df (xs.take (i + 1)) : Nat))) F (congrArg (Value.int .i64) (by rw [hb2];omega)) ?_
  exact aY (i + 1) oM oM tU F aW
 have hin : i = xs.length:=oM
 subst hin
 rw [List.take_length] at *
 refine Nx.re (d:=5) (v':=I ((xs.length - 1 + df xs : Nat) : Int)) F (congrArg (Value.int .i64) oM) ?_
 have hb0 : (ae xs 0).length ≤ df xs:=by have:=lZ (i:=0) hpos;have:=eg xs (0 + 1);omega
 have hw0 : 0 + (ae xs 0).length ≤ 1000000000:=oM
 have hsv1:=hsv.tailS
 have hdl : (xs.drop 1).length = xs.length - 1:=by rw [List.length_drop]
 have eJ0 : aP c (xs.take (0 + 1)) = ae xs 0:=by rw [eQ hpos];rfl
 repeat' (first | refine jR ?_ | (refine jo ?_;first | refine jV (ao F) ?_ | refine jV (aD F F oM) ?_ | (refine jV (ii F F aS ?_) ?_;focus omega) | refine jL fun _=>?_ | refine jV (abh F F oM) ?_ | (refine ag F F F (yY oM) F ?_;rintro _ _ ⟨b2,c2,rfl⟩;dsimp only [zA,fA]) | (refine lu F F F (oP (by (repeat (assumption));done)) rfl ?_;rintro _ _ ⟨b3,c3,rfl,rfl⟩;dsimp only [zA,fA])) | refine ad F (ay oM) ?_)
 rename_i x _
 refine Nx.cast (L':=[.acc (.slice (some ⟨b3,0,none⟩) (aP c (xs.take (0 + 1))).length (c3 + 1)) gu 1 (aP c (xs.take (0 + 1))).length (bi (aP c (xs.take (0 + 1)))),.blk x (.cells (List.toArray [Pt x 0,.slice (some ⟨b3,0,none⟩) (aP c (xs.take (0 + 1))).length (c3 + 1)]) d7 (0,0))]) (by rw [eJ0];simp only [Nat.zero_add]) ?_
 refine aR (ι:=Nat × Nat × Nat) (fun q=>q.1 ≤ xs.length - 1) (fun q=>[(1,S [c]),(63,.slice (some ⟨bv,ov + 1,none⟩) (xs.length - 1) (cv - 1)),(64,I (xs.length - 1 : Nat)),(65,I q.1),(8,Pt x 0)]) (fun _=>G) (fun q=>[.acc (.slice (some ⟨q.2.1,0,none⟩) (aP c (xs.take (q.1 + 1))).length (q.2.2 + 1)) gu 1 (aP c (xs.take (q.1 + 1))).length (bi (aP c (xs.take (q.1 + 1)))),.blk x (.cells (List.toArray [Pt x 0,.slice (some ⟨q.2.1,0,none⟩) (aP c (xs.take (q.1 + 1))).length (q.2.2 + 1)]) d7 (0,0))]) (fun q=>xs.length - q.1) (0,b3,c3) ?_ tU F aW (fun q Hq=>?_)
 ·exact Nat.zero_le _
 obtain ⟨i,b4,c4⟩:=q
 dsimp only at Hq ⊢
 have hj1:=fp c (xs.take (i + 1))
 have hj2:=eg xs (i + 1)
 have hj3 : (xs.take (i + 1)).length ≤ xs.length:=by rw [List.length_take];omega
 by_cases hi2 : i < xs.length - 1
 ·have hwA : (aP c (xs.take (i + 1))).length + ([c] : act).length ≤ 1000000000:=by rw [List.length_singleton];omega
  have hy1:=lZ (xs:=xs) (i:=i + 1) oM
  have hy2:=eg xs (i + 1 + 1)
  have hwB : (aP c (xs.take (i + 1))).length + ([c] : act).length + (ae (xs.drop 1) i).length ≤ 1000000000:=by rw [pY,List.length_singleton];omega
  have ej : aP c (xs.take (i + 1 + 1)) = aP c (xs.take (i + 1)) ++ c :: ae (xs.drop 1) i:=by
   rw [eQ oM,k3 c _ _ (by rw [ne_eq,List.take_eq_nil_iff];simp [h0]),pY]
  repeat' (first | refine jM ?_ | (refine jo ?_;first | refine jV (aD F F oM) ?_ | (refine jV (ii F F aS ?_) ?_;focus omega) | (refine lu F F F (oP (by (repeat (assumption));done)) rfl ?_;rintro _ _ ⟨b3,c3,rfl,rfl⟩;dsimp only [zA,fA])) | refine ac F (ar oM) ?_)
  refine Nx.cast (L':=[.acc (.slice (some ⟨b3,0,none⟩) (aP c (xs.take (i + 1 + 1))).length (c3 + 1)) gu 1 (aP c (xs.take (i + 1 + 1))).length (bi (aP c (xs.take (i + 1 + 1)))),.blk x (.cells (List.toArray [Pt x 0,.slice (some ⟨b3,0,none⟩) (aP c (xs.take (i + 1 + 1))).length (c3 + 1)]) d7 (0,0))]) (by
   have e2 : (aP c (xs.take (i + 1 + 1))).length = (aP c (xs.take (i + 1))).length + ([c] : act).length + (ae (xs.drop 1) i).length:=by rw [ej];simp;omega
   have e3 : bi (aP c (xs.take (i + 1 + 1))) = bi (aP c (xs.take (i + 1))) ++ bi [c] ++ bi (ae (xs.drop 1) i):=by rw [ej];simp [bi]
   rw [e2,e3]) ?_
  exact aY (i + 1,b3,c3) (by dsimp only;omega) (by dsimp only;omega) tU rfl aW
 ·have ei : xs.take (i + 1) = xs:=List.take_of_length_le oM
  rw [ei] at hj1 ⊢
  repeat' (first | refine jR ?_ | (refine jo ?_;(refine lu F F F (r7 oM) F ?_;rintro _ _ ⟨rfl,rfl⟩;dsimp only [zA,fA])) | refine ad F (ay oM) ?_)
  refine jY (vs:=[_]) ?_
  rfl
structure VC where
 what : Nat
 text : act
 tag : Int
 a : Option Addr
 n : Nat
 c : Nat
instance : Inhabited VC:=⟨⟨0,[],0,none,0,0⟩⟩
abbrev VC.sl (v : VC) : Value:=.slice v.a v.n v.c
def b7 (v : VC) : List Value:=[U8 (v.what : Nat),S v.text,I v.tag,v.sl]
instance : RowF b7 4:=⟨fun _=>rfl⟩
mutual
def V.rep (G : Gh) : V → VC → Prop
 | .nd w x t ks,c=>(c.what = w ∧ w ≤ 255) ∧ c.text = x ∧ (c.tag = t ∧ 0 ≤ t ∧ t ≤ 999999) ∧ (c.n = ks.length ∧ (w = 61 → ks.length = 1)) ∧ ∃ cs,a8 G c.sl 4 cs.length (aI b7 cs) ∧ V.reps G ks cs
def V.reps (G : Gh) : List V → List VC → Prop
 | [],cs=>cs = []
 | v :: r,cs=>∃ c cs',cs = c :: cs' ∧ V.rep G v c ∧ V.reps G r cs'
end
theorem gO {G : Gh} : ∀ {ks : List V} {cs : List VC},V.reps G ks cs → cs.length = ks.length
 | [],cs,h=>by rw [V.reps] at h;subst h;rfl
 | v :: r,cs,h=>by
  rw [V.reps] at h
  obtain ⟨c,cs',rfl,_,h2⟩:=h
  rw [List.length_cons,List.length_cons,gO h2]
theorem i5 {G : Gh} : ∀ {ks : List V} {cs : List VC},V.reps G ks cs → ∀ i,i < ks.length → V.rep G (ae ks i) (ae cs i)
 | [],_,_,i,hi=>by simp at hi
 | v :: r,cs,h,i,hi=>by
  rw [V.reps] at h
  obtain ⟨c,cs',rfl,h1,h2⟩:=h
  cases i with
  | zero=>exact h1
  | succ i=>exact i5 h2 i (by simpa using hi)
theorem ib {G : Gh} {v : V} {c : VC} (h2 : V.rep G v c) : ∀ {ks : List V} {cs : List VC},V.reps G ks cs → V.reps G (ks ++ [v]) (cs ++ [c])
 | [],cs,h=>by
  rw [V.reps] at h;subst h
  exact ⟨c,[],F,h2,F⟩
 | u :: r,cs,h=>by
  rw [V.reps] at h
  obtain ⟨d,cs',rfl,h1,h3⟩:=h
  exact ⟨d,cs' ++ [c],F,h1,ib h2 h3⟩
mutual
theorem fY {G G' : Gh} (hl : Gh.le G G') : ∀ {v : V} {c : VC},V.rep G v c → V.rep G' v c
 | .nd w x t ks,c,h=>by
  rw [V.rep] at h ⊢
  obtain ⟨h1,h2,h3,h4,cs,h5,h6⟩:=h
  exact ⟨h1,h2,h3,h4,cs,h5.mono hl,bX hl h6⟩
theorem bX {G G' : Gh} (hl : Gh.le G G') : ∀ {ks : List V} {cs : List VC},V.reps G ks cs → V.reps G' ks cs
 | [],cs,h=>h
 | v :: r,cs,h=>by
  rw [V.reps] at h ⊢
  obtain ⟨c,cs',e,h1,h2⟩:=h
  exact ⟨c,cs',e,fY hl h1,bX hl h2⟩
end
theorem mC {G : Gh} {w : Nat} {x : act} {t : Int} {ks : List V} {c : VC} (h : V.rep G (.nd w x t ks) c) : ∃ (a : Option Addr) (k : Nat) (cs : List VC),c = ⟨w,x,t,a,ks.length,k⟩ ∧ w ≤ 255 ∧ (0 ≤ t ∧ t ≤ 999999) ∧ (w = 61 → ks.length = 1) ∧ cs.length = ks.length ∧ a8 G (.slice a ks.length k) 4 cs.length (aI b7 cs) ∧ V.reps G ks cs:=by
 rw [V.rep] at h
 obtain ⟨⟨h1,h1'⟩,h2,⟨h3,h3'⟩,⟨h4,h4'⟩,cs,h5,h6⟩:=h
 obtain ⟨w',x',t',a,n,k⟩:=c
 dsimp only at h1 h2 h3 h4 h5
 subst h1;subst h2;subst h3;subst h4
 exact ⟨a,k,cs,F,h1',h3',h4',gO h6,h5,h6⟩
theorem cX {G : Gh} {w : Nat} {x : act} {t : Int} {ks : List V} {a : Option Addr} {k m : Nat} {cs : List VC} (hw : w ≤ 255) (ht : 0 ≤ t ∧ t ≤ 999999) (h61 : w = 61 → ks.length = 1) (hm : m = ks.length) (hs : a8 G (.slice a m k) 4 cs.length (aI b7 cs)) (hk : V.reps G ks cs) : V.rep G (.nd w x t ks) ⟨w,x,t,a,m,k⟩:=by
 rw [V.rep];exact ⟨⟨F,hw⟩,F,⟨F,ht⟩,⟨hm,h61⟩,cs,hs,hk⟩
theorem xQ {G : Gh} : a8 G aH 4 ([] : List VC).length (aI b7 []):=⟨rfl,.inl ⟨rfl,rfl⟩⟩
theorem bo {G : Gh} {w : Nat} {x : act} {t : Int} (hw : w ≤ 255 ∧ w ≠ 61) (ht : 0 ≤ t ∧ t ≤ 999999) : V.rep G (.nd w x t []) ⟨w,x,t,none,0,0⟩:=cX hw.1 ht (fun h=>absurd h hw.2) rfl xQ rfl
theorem kY : ∀ {ks : List V} {i : Nat},i < ks.length → ae (V.outs ks) i = (ae ks i).out
 | [],i,h=>by simp at h
 | v :: r,0,_=>rfl
 | v :: r,i + 1,h=>by
  have:=kY (ks:=r) (i:=i) (by simpa using h)
  simpa [V.outs,ae] using this
theorem i8 (ks : List V) : (V.outs ks).length = ks.length:=by rw [V.outs_map];simp
theorem gc {ks : List V} {i : Nat} (h : i < ks.length) : V.tot (ae ks i) ≤ V.tots ks:=by
 rw [aU h];exact qM (List.getElem_mem h)
theorem fM {t : Int} (h : t ≤ 999999) : (br t).length ≤ 19:=f8 oM
theorem ra {w : Nat} {x : act} {t : Int} {e : Bool} {j : act} (ht : t ≤ 999999) : (dl w x t e j).length ≤ 25 + x.length + j.length:=by
 have hd:=fM ht
 unfold dl
 split
 ·simp;omega
 split
 ·simp;omega
 split
 ·split
  ·simp;omega
  ·simp;omega
 split
 ·simp;omega
 split
 ·simp;omega
 split
 ·simp;omega
 split
 ·simp;omega
 ·omega
mutual
theorem pc {G : Gh} : ∀ {v : V} {c : VC},V.rep G v c → v.out.length + 1 ≤ 2 * v.tot
 | .nd w x t ks,c,h=>by
  rw [V.rep] at h
  obtain ⟨_,_,⟨_,h3⟩,_,cs,_,h6⟩:=h
  have h1:=nq h6
  have h2:=fp 44 (V.outs ks)
  rw [i8] at h2
  have h4:=ra (w:=w) (x:=x) (e:=ks.isEmpty) (j:=aP 44 (V.outs ks)) h3.2
  have h5:=d6 ks
  rw [V.out,V.tot]
  omega
theorem nq {G : Gh} : ∀ {ks : List V} {cs : List VC},V.reps G ks cs → df (V.outs ks) + ks.length ≤ 2 * V.tots ks
 | [],cs,h=>by simp [V.outs,df]
 | v :: r,cs,h=>by
  rw [V.reps] at h
  obtain ⟨c,cs',_,h1,h2⟩:=h
  have h3:=pc h1
  have h4:=nq h2
  simp only [V.outs,df,List.map_cons,List.sum_cons,V.tots,List.length_cons] at *
  omega
end
def eJ (cs : act) (c : Nat) : Bool:=cs.any fun d=>d.toNat == c
def dn (p : Nat → Bool) : act → act
 | []=>[]
 | c :: r=>if p c.toNat = true then dn p r else c :: r
def eO (p : Nat → Bool) (s : act) : act:=(dn p s.reverse).reverse
abbrev nV : TypeId:=200
theorem gF {b : Nat} {p : Nat → Bool} {c : Nat} (h : c < 256) : cx acs 198 [Pt b 0,U8 c] G [.blk b (.cells (cA p).toArray nV (0,0))] (fun v L'=>v = Bo (p c) ∧ L' = [.blk b (.cells (cA p).toArray nV (0,0))]):=by
 refine jH [(0,_),(1,_)] Tryz.func198 Tryz.ntmps198 fun B hB hW=>?_
 repeat' (first | refine jR ?_ | (refine jo ?_;first | refine jV (ro F F oM) ?_ | refine jV (z7 F F F aS) ?_))
 refine aO (vs:=[_]) F ⟨F,trivial⟩ F (List.Sublist.refl _) ⟨F,F,F⟩
theorem j8 {b : Nat} {p : Nat → Bool} {s : act} : cx acs 168 [S s,Pt b 0] G [.blk b (.cells (cA p).toArray nV (0,0))] (fun v L'=>v = S (dn p s) ∧ L' = [.blk b (.cells (cA p).toArray nV (0,0))]):=by
 refine jH [(0,_),(1,_)] Tryz.func168 Tryz.ntmps168 fun B hB hW=>?_
 repeat' (refine jR ?_)
 refine aR (ι:=act) (fun t=>dn p t = dn p s) (fun t=>[(0,S t),(1,Pt b 0)]) (fun _=>G) (fun t=>[.blk b (.cells (cA p).toArray nV (0,0))]) (fun t=>t.length) s ?_ tU F aW (fun t Ht=>?_)
 ·rfl
 match t,Ht with
 | [],Ht =>
  repeat' (first | refine jR ?_ | refine ad F F ?_)
  refine aO (vs:=[_]) F ⟨F,trivial⟩ F (List.Sublist.refl _) ⟨F,by rw [← Ht];rfl,rfl⟩
 | c :: r,Ht =>
  have hlt : bt (c :: r) (Int.toNat 0) < 256:=gH _ _
  have e0 : bt (c :: r) (Int.toNat 0) = c.toNat:=bh c r
  have hcons : (c :: r).length = r.length + 1:=rfl
  rw [dn] at Ht
  by_cases hp : p (bt (c :: r) (Int.toNat 0)) = true
  ·have hp2 : (!p (bt (c :: r) (Int.toNat 0))) = false:=by rw [hp];rfl
   repeat' (first | refine jM ?_ | (refine jo ?_;(refine ag F F F (gF (by (repeat (assumption));done)) rfl ?_;rintro _ _ ⟨rfl,rfl⟩;dsimp only [zA,fA])) | refine ac F (ar oM) ?_ | refine ad F ‹_› ?_)
   refine aY r (by rw [← Ht,← e0,if_pos hp]) oM tU F aW
  ·have hp2 : (!p (bt (c :: r) (Int.toNat 0))) = true:=by simpa using hp
   repeat' (first | refine jM ?_ | (refine jo ?_;(refine ag F F F (gF (by (repeat (assumption));done)) rfl ?_;rintro _ _ ⟨rfl,rfl⟩;dsimp only [zA,fA])) | (refine ac F (by first | assumption | (refine decide_eq_true ?_;(omega))) ?_))
   refine aO (vs:=[_]) F ⟨F,trivial⟩ F (List.Sublist.refl _) ⟨F,by rw [← Ht,← e0,if_neg hp];rfl,rfl⟩
theorem pE (p : Nat → Bool) : ∀ s : act,(dn p s).length ≤ s.length
 | []=>Nat.le_refl _
 | c :: r=>by
  unfold dn
  split
  ·have:=pE p r;simp;omega
  ·exact Nat.le_refl _
theorem uM (p : Nat → Bool) (s : act) : (eO p s).length ≤ s.length:=by have:=pE p s.reverse;simpa [eO] using this
theorem tQ (p : Nat → Bool) (s : act) (c : UInt8) : eO p (s ++ [c]) = if p c.toNat = true then eO p s else s ++ [c]:=by
 unfold eO
 rw [List.reverse_append]
 simp only [List.reverse_cons,List.reverse_nil,List.nil_append,List.singleton_append,dn]
 split <;> simp
theorem nL {b : Nat} {p : Nat → Bool} {s : act} (hs : s.length ≤ 1000000000) : cx acs 186 [S s,Pt b 0] G [.blk b (.cells (cA p).toArray nV (0,0))] (fun v L'=>v = S (eO p s) ∧ L' = [.blk b (.cells (cA p).toArray nV (0,0))]):=by
 refine jH [(0,_),(1,_)] Tryz.func186 Tryz.ntmps186 fun B hB hW=>?_
 repeat' (refine jR ?_)
 refine aR (ι:=act) (fun t=>t.length ≤ 1000000000 ∧ eO p t = eO p s) (fun t=>[(0,S t),(1,Pt b 0)]) (fun _=>G) (fun t=>[.blk b (.cells (cA p).toArray nV (0,0))]) (fun t=>t.length) s ?_ tU F aW (fun t Ht=>?_)
 ·exact ⟨hs,F⟩
 have hcase : t = [] ∨ ∃ r c,t = r ++ [c]:=by
  rcases List.eq_nil_or_concat t with h | ⟨r,c,h⟩
  ·exact .inl h
  ·exact .inr ⟨r,c,by rw [h,List.concat_eq_append]⟩
 rcases hcase with rfl | ⟨r,c,rfl⟩
 ·repeat' (first | refine jR ?_ | refine ad F F ?_)
  refine aO (vs:=[_]) F ⟨F,trivial⟩ F (List.Sublist.refl _) ⟨F,by rw [← Ht.2];rfl,rfl⟩
 ·have hcons : (r ++ [c]).length = r.length + 1:=by simp
  have e1 : (((r ++ [c]).length : Nat) : Int) - 1 = (r.length : Nat):=oM
  have e2 : ((((r ++ [c]).length : Nat) : Int) - 1).toNat = r.length:=oM
  have e0 : bt (r ++ [c]) ((((r ++ [c]).length : Nat) : Int) - 1).toNat = c.toNat:=by rw [e2];simp [bt,List.getD]
  have hlt : bt (r ++ [c]) ((((r ++ [c]).length : Nat) : Int) - 1).toNat < 256:=gH _ _
  have e3 : (r ++ [c]).take ((((r ++ [c]).length : Nat) : Int) - 1).toNat = r:=by rw [e2];simp
  have Ht2:=Ht.2
  rw [tQ] at Ht2
  have hne : r ++ [c] ≠ []:=by simp
  by_cases hp : p (bt (r ++ [c]) ((((r ++ [c]).length : Nat) : Int) - 1).toNat) = true
  ·have hp2 : (!p (bt (r ++ [c]) ((((r ++ [c]).length : Nat) : Int) - 1).toNat)) = false:=by rw [hp];rfl
   repeat' (first | refine jM ?_ | (refine jo ?_;(refine ag F F F (gF (by (repeat (assumption));done)) rfl ?_;rintro _ _ ⟨rfl,rfl⟩;dsimp only [zA,fA])) | refine ac F (ar oM) ?_ | refine ad F ‹_› ?_)
   refine aY r ⟨oM,by rw [← Ht2,← e0,if_pos hp]⟩ oM ?_ F aW
   rw [e3];repeat (first | exact trivial | refine ⟨F,?_⟩)
  ·have hp2 : (!p (bt (r ++ [c]) ((((r ++ [c]).length : Nat) : Int) - 1).toNat)) = true:=by simpa using hp
   repeat' (first | refine jM ?_ | (refine jo ?_;(refine ag F F F (gF (by (repeat (assumption));done)) rfl ?_;rintro _ _ ⟨rfl,rfl⟩;dsimp only [zA,fA])) | (refine ac F (by first | assumption | (refine decide_eq_true ?_;(omega))) ?_))
   refine aO (vs:=[_]) F ⟨F,trivial⟩ F (List.Sublist.refl _) ⟨F,by rw [← Ht2,← e0,if_neg hp];rfl,rfl⟩
theorem wF (cs : act) (i : Nat) (h : i < cs.length) : (fun x=>eJ (cs.take i) x || x == bt cs i) = eJ (cs.take (i + 1)):=by
 funext x
 have e : bt cs i = (cs[i]).toNat:=by simp [bt,List.getD,List.getElem?_eq_getElem h]
 have e2 : (x == (cs[i]).toNat) = ((cs[i]).toNat == x):=by rw [Bool.eq_iff_iff,beq_iff_eq,beq_iff_eq];exact eq_comm
 rw [List.take_succ_eq_append_getElem h,e,e2]
 simp only [eJ,List.any_append,List.any_cons,List.any_nil,Bool.or_false]
theorem wc {cs : act} (h : cs.all (fun c=>decide (c.toNat < 128)) = true) : ∀ i,i < cs.length → bt cs i < 128:=fun i hi=>by
 have e : bt cs i = (cs[i]).toNat:=by simp [bt,List.getD,List.getElem?_eq_getElem hi]
 rw [List.all_eq_true] at h
 rw [e]
 simpa using h cs[i] (List.getElem_mem hi)
theorem kE {cs : act} (hc : ∀ i,i < cs.length → bt cs i < 128) (hl : cs.length ≤ 1000) : av acs 167 [S cs] G (· = Tu [Ag (cA (eJ cs)),Bo true]):=by
 refine jE [(0,_)] Tryz.func167 Tryz.ntmps167 fun B hB=>?_
 repeat' (first | refine jR ?_ | (refine jo ?_;refine r9 F F fun _=>?_))
 rename_i x
 refine aR (ι:=Nat) (fun i=>i ≤ cs.length) (fun i=>[(0,S cs),(2,Pt x 0),(4,I i)]) (fun _=>G) (fun i=>[.blk x (.cells (cA (eJ (cs.take i))).toArray nV (0,0))]) (fun i=>cs.length - i) 0 ?_ tU F aW (fun i Hi=>?_)
 ·exact Nat.zero_le _
 by_cases hi : i < cs.length
 ·have h1 : bt cs ((i : Int).toNat) < 128:=hc i hi
  have h2 : bt cs ((i : Int).toNat) < 256:=oM
  repeat' (first | refine jM ?_ | (refine jo ?_;first | refine aat F F F F aS ?_ | refine jV (ro F F oM) ?_) | refine ac F (ar oM) ?_ | refine ad F (ay oM) ?_)
  refine aY (i + 1) oM oM tU F (by rw [← wF cs i hi];repeat (exact List.Sublist.refl _))
 ·have ei : i = cs.length:=oM
  subst ei
  repeat' (first | refine jR ?_ | (refine jo ?_;first | refine jV (z6 F F F F) ?_ | refine rL F F F F ?_) | refine ad F (ay oM) ?_)
  refine jZ (vs:=[_,_]) F ⟨aa7 F F F F,F,trivial⟩ F ⟨F,F,?_⟩
  rw [List.take_length];rfl
theorem v6 {s cs : act} (h2 : Nat.ble 2 cs.length = true) (hc : cs.all (fun c=>decide (c.toNat < 128)) = true) (hl : Nat.ble cs.length 1000 = true) (hs : s.length ≤ 2000000) : av acs 149 [S s,S cs] G (· = S (dn (eJ cs) (eO (eJ cs) s))):=by
 have h2:=Nat.le_of_ble_eq_true h2
 have hl:=Nat.le_of_ble_eq_true hl
 have cx_mkas:=kE (G:=G) (wc hc) hl
 by_cases h0 : s = []
 ·subst h0
  refine jE [(0,_),(1,_)] Tryz.func149 Tryz.ntmps149 fun B hB=>?_
  repeat' (first | refine jR ?_ | (refine jo ?_;refine aE F ?_) | refine aw F F F ?_ | refine ac F F ?_)
  all_goals refine jY (vs:=[_]) ?_
  all_goals rfl
 have hn : ¬ cs = []:=by rintro rfl;simp at h2
 have hr:=uM (eJ cs) s
 refine jE [(0,_),(1,_)] Tryz.func149 Tryz.ntmps149 fun B hB=>?_
 repeat' (first | refine jR ?_ | (refine jo ?_;first | refine aq F ?_ | refine r9 F F fun _=>?_ | refine rL F F F F ?_ | refine ab F F F cx_mkas F ?_ | (refine ag F F F (nL oM) F ?_;rintro _ _ ⟨rfl,rfl⟩;dsimp only [zA,fA]) | (refine ag F F F j8 F ?_;rintro _ _ ⟨rfl,rfl⟩;dsimp only [zA,fA])) | (refine al F F (by refine decide_eq_false ?_;first | assumption | omega) ?_) | refine ac F F ?_ | (refine ad F (by first | rfl | (refine decide_eq_false ?_;(assumption))) ?_))
 all_goals refine jY (vs:=[_]) ?_
 all_goals rfl
theorem ly {s cs : act} (h2 : Nat.ble 2 cs.length = true) (hc : cs.all (fun c=>decide (c.toNat < 128)) = true) (hl : Nat.ble cs.length 1000 = true) : av acs 129 [S s,S cs] G (· = S (dn (eJ cs) s)):=by
 have h2:=Nat.le_of_ble_eq_true h2
 have hl:=Nat.le_of_ble_eq_true hl
 have cx_mkas:=kE (G:=G) (wc hc) hl
 by_cases h0 : s = []
 ·subst h0
  refine jE [(0,_),(1,_)] Tryz.func129 Tryz.ntmps129 fun B hB=>?_
  repeat' (first | refine jR ?_ | (refine jo ?_;refine aE F ?_) | refine aw F F F ?_ | refine ac F F ?_)
  all_goals refine jY (vs:=[_]) ?_
  all_goals rfl
 have hn : ¬ cs = []:=by rintro rfl;simp at h2
 refine jE [(0,_),(1,_)] Tryz.func129 Tryz.ntmps129 fun B hB=>?_
 repeat' (first | refine jR ?_ | (refine jo ?_;first | refine aq F ?_ | refine r9 F F fun _=>?_ | refine rL F F F F ?_ | refine ab F F F cx_mkas F ?_ | (refine ag F F F j8 F ?_;rintro _ _ ⟨rfl,rfl⟩;dsimp only [zA,fA])) | (refine al F F (by refine decide_eq_false ?_;first | assumption | omega) ?_) | refine ac F F ?_ | (refine ad F (by first | rfl | (refine decide_eq_false ?_;(assumption))) ?_))
 all_goals refine jY (vs:=[_]) ?_
 all_goals rfl
theorem pD {p : Nat → Bool} : ∀ {s : act},dn p s = [] ↔ ∀ c ∈ s,p c.toNat = true
 | []=>by simp [dn]
 | c :: r=>by
  unfold dn
  by_cases h : p c.toNat = true
  ·rw [if_pos h,pD];simp [h]
  ·rw [if_neg h];simp [h]
theorem uL {p : Nat → Bool} {s : act} : (∀ c ∈ eO p s,p c.toNat = true) ↔ ∀ c ∈ s,p c.toNat = true:=by
 have key : ∀ l : act,(∀ c ∈ dn p l,p c.toNat = true) ↔ ∀ c ∈ l,p c.toNat = true:=by
  intro l
  induction l with
  | nil=>simp [dn]
  | cons c r ih =>
   unfold dn
   by_cases h : p c.toNat = true
   ·rw [if_pos h,ih];simp [h]
   ·rw [if_neg h]
 unfold eO
 have:=key s.reverse
 simpa using this
theorem qL {p : Nat → Bool} {s : act} : dn p (eO p s) = [] ↔ ∀ c ∈ s,p c.toNat = true:=by rw [pD,uL]
def tL : act:=[97,98,99,100,101,102,103,104,105,106,107,108,109,110,111,112,113,114,115,116,117,118,119,120,121,122]
def qJ : act:=tL ++ [48,49,50,51,52,53,54,55,56,57,32]
theorem abQ (c : UInt8) : eJ tL c.toNat = jy c:=by
 have : ∀ n : Nat,n < 256 → eJ tL n = decide (97 ≤ n ∧ n ≤ 122):=by decide +kernel
 rw [this _ c.toNat_lt];rfl
theorem aaZ (c : UInt8) : eJ qJ c.toNat = decide (iC c.toNat):=by
 have : ∀ n : Nat,n < 256 → eJ qJ n = decide (iC n):=by decide +kernel
 exact this _ c.toNat_lt
theorem y5 (s : act) : dn (eJ tL) (eO (eJ tL) s) = [] ↔ s.all jy = true:=by
 rw [qL,List.all_eq_true]
 exact forall_congr' fun c=>forall_congr' fun _=>by rw [abQ]
theorem du {s : act} (h : s.length ≤ 2000000) : av acs 105 [S s] G (· = Bo (co s)):=by
 have cx_trim:=v6 (G:=G) (s:=s) (cs:=tL) rfl kR rfl h
 by_cases hl : 1 ≤ s.length ∧ s.length ≤ 3
 ·refine jE [(0,_)] Tryz.func105 Tryz.ntmps105 fun B hB=>?_
  repeat' (first | refine jR ?_ | (refine jo ?_;first | refine aq F ?_ | refine ab F F F cx_trim F ?_) | refine al F F (ay oM) ?_ | refine ad F (ay oM) ?_)
  all_goals refine jY (vs:=[_]) ?_
  have:=y5 s
  unfold co
  rw [decide_eq_true hl,Bool.and_true]
  refine congrArg Bo ?_
  rw [Bool.eq_iff_iff]
  simpa using this
 ·have e : co s = false:=by unfold co;rw [decide_eq_false hl,Bool.and_false]
  rw [e]
  refine jE [(0,_)] Tryz.func105 Tryz.ntmps105 fun B hB=>?_
  repeat' (first | refine jR ?_ | (refine jo ?_;first | refine aE F ?_ | refine aq F ?_) | refine dA F F (fun _=>?_) (fun _=>?_) | (refine ac F (by first | rfl | (refine decide_eq_true ?_;(omega))) ?_))
  all_goals refine jY (vs:=[_]) ?_
  all_goals rfl
theorem uv (s : act) : bq s = dn (eJ [91,63]) s:=by
 induction s with
 | nil=>rfl
 | cons c r ih =>
  have e : eJ [91,63] c.toNat = decide (c.toNat = 91 ∨ c.toNat = 63):=by
   have : ∀ n : Nat,n < 256 → eJ [91,63] n = decide (n = 91 ∨ n = 63):=by decide +kernel
   exact this _ c.toNat_lt
  unfold bq dn
  rw [e]
  by_cases h : c.toNat = 91 ∨ c.toNat = 63
  ·simp only [h,if_true,decide_true];exact ih
  ·simp [h]
theorem rk : ∀ {s : act},dX (bq s) = dX s
 | []=>rfl
 | c :: r=>by
  unfold bq
  split
  ·rename_i h;rw [rk];conv=>{ rhs;unfold dX };rw [if_pos h]
  ·rfl
def eh (s : act) : List Value:=[S (sg s),S (bs s),S (nm s)]
def wd (s : act) (v : Value) : Prop:=∃ a b c,v = Tu [Ag [S a,S b,S c],Bo (bw s)] ∧ (bw s = true → a = sg s ∧ b = bs s ∧ c = nm s)
theorem sf {s p : act} (hp : p.length ≤ 1000000000) (hs : s.length ≤ 1000000000) : av acs 171 [S s,S p] G (· = Bo (decide (p.length ≤ s.length ∧ s.drop (s.length - p.length) = p))):=by
 by_cases h : p.length ≤ s.length
 ·have e : (((s.length : Nat) : Int) - ((p.length : Nat) : Int)).toNat = s.length - p.length:=oM
  refine jE [(0,_),(1,_)] Tryz.func171 Tryz.ntmps171 fun B hB=>?_
  repeat' (first | refine jM ?_ | (refine jo ?_;refine aE F ?_) | refine aw F F (ar oM) ?_)
  all_goals refine jY (vs:=[_]) ?_
  all_goals (rw [e];simp [h];try rfl)
 ·refine jE [(0,_),(1,_)] Tryz.func171 Tryz.ntmps171 fun B hB=>?_
  repeat' (first | refine jR ?_ | (refine jo ?_;refine aq F ?_) | refine al F F (ay oM) ?_)
  all_goals refine jY (vs:=[_]) ?_
  all_goals (simp [h];try rfl)
theorem m6 {s p : act} (hp : p.length ≤ 1000000000) (hs : s.length ≤ 1000000000) : av acs 131 [S s,S p] G (· = Bo (decide (p.length ≤ s.length ∧ s.drop (s.length - p.length) = p))):=by
 refine jE [(0,_),(1,_)] Tryz.func131 Tryz.ntmps131 fun B hB=>?_
 repeat' (first | refine jR ?_ | (refine jo ?_;refine ab F F F (sf oM oM) F ?_))
 all_goals refine jY (vs:=[_]) ?_
 all_goals rfl
theorem zm {c : UInt8} {r : act} : (1 ≤ (c :: r).length ∧ (c :: r).drop ((c :: r).length - 1) = [59]) ↔ bt (c :: r) r.length = 59:=by
 have hl : (c :: r).length - 1 = r.length:=by simp
 rw [hl]
 have hlt : r.length < (c :: r).length:=by simp
 obtain ⟨d,h1,h2⟩:=fL hlt
 rw [h1,h2]
 have h3 : (c :: r).drop (r.length + 1) = []:=by simp
 rw [h3]
 constructor
 ·rintro ⟨_,h⟩;simp only [List.cons.injEq,and_true] at h;rw [h];rfl
 ·intro h;exact ⟨by simp,by rw [show d = 59 from UInt8.toNat_inj.1 h]⟩
theorem mg : ∀ {s : act} {c : UInt8} {r : act},bq s = c :: r → ¬ (c.toNat = 91 ∨ c.toNat = 63)
 | [],c,r,h=>by simp [bq] at h
 | d :: s,c,r,h=>by
  unfold bq at h
  split at h
  ·exact mg h
  ·rename_i hd
   simp only [List.cons.injEq] at h
   rw [← h.1];exact hd
theorem sA {s t : act} (h : s.length ≤ 12) (ht : bq s = t) : av acs 90 [S s] G (wd s):=by
 have cx_triml : av acs 129 [S s,S [91,63]] G (· = S t):=by
  rw [← ht,uv]
  exact ly F kR F
 have hcl:=li s
 rw [ht] at hcl
 have ek : bw s = dX t:=by unfold bw;rw [decide_eq_true h,Bool.true_and,← ht,rk]
 have esg : s.take (((s.length : Nat) : Int) - ((t.length : Nat) : Int)).toNat = sg s:=by
  unfold sg;rw [ht];congr 1;omega
 have ebs : bs s = oY t:=by unfold bs;rw [ht]
 have enm : nm s = (bE t).getD []:=by unfold nm;rw [ht]
 have hns : ∀ c r,t = c :: r → ¬ (c.toNat = 91 ∨ c.toNat = 63):=fun c r e=>mg (ht.trans e)
 clear ht
 match t,hcl,ek,ebs,enm,cx_triml,esg,hns with
 | [],hcl,ek,ebs,enm,cx_triml,esg,hns =>
  have hno : bw s = false:=by rw [ek];rfl
  have cx_suf:=m6 (G:=G) (s:=[]) (p:=[59]) (by simp) (by simp)
  refine jE [(0,_)] Tryz.func90 Tryz.ntmps90 fun B hB=>?_
  repeat' (first | refine jM ?_ | (refine jo ?_;first | refine jL fun _=>?_ | refine jV (am F F) ?_ | refine jC F F F ?_ | refine aq F ?_ | refine ab F F F cx_triml F ?_ | refine ab F F F fT F ?_) | refine al F F F ?_ | (refine ad F (by first | rfl | (refine decide_eq_false ?_;(omega))) ?_))
  all_goals refine jZ (vs:=[_,_]) F ⟨aF F F F F,F,trivial⟩ F ⟨F,F,?_⟩
  all_goals exact ⟨[],[],[],by rw [hno];rfl,fun h=>by rw [hno] at h;cases h⟩
 | c :: r,hcl,ek,ebs,enm,cx_triml,esg,hns =>
  by_cases hA : c :: r = [110] ∨ c :: r = [116] ∨ c :: r = [102]
  ·rcases hA with hA | hA | hA
   all_goals (simp only [List.cons.injEq] at hA;obtain ⟨rfl,rfl⟩:=hA)
   all_goals have hyes : bw s = true:=by rw [ek];rfl
   all_goals refine jE [(0,_)] Tryz.func90 Tryz.ntmps90 fun B hB=>?_
   all_goals repeat' (first | refine jM ?_ | (refine jo ?_;first | refine jL fun _=>?_ | refine jV (am F F) ?_ | refine jD F F F ?_ | refine jC F F F ?_ | refine aE F ?_ | refine aq F ?_ | refine aV F ?_ | refine ab F F F cx_triml F ?_) | refine aw F F F ?_ | refine al F F F ?_ | refine ac F F ?_ | refine ad F (ay oM) ?_)
   all_goals refine jZ (vs:=[_,_]) F ⟨aF F F F F,F,trivial⟩ F ⟨F,F,?_⟩
   all_goals exact ⟨_,_,_,by rw [hyes];rfl,fun _=>⟨esg,by rw [ebs];rfl,by rw [enm];rfl⟩⟩
  simp only [not_or] at hA
  obtain ⟨hA1,hA2,hA3⟩:=hA
  by_cases hc : c = 64
  case neg =>
   have hc' : ¬ c.toNat = 64:=fun h=>hc (UInt8.toNat_inj.1 h)
   have hno : bw s = false:=by
    rw [ek,dX,if_neg (hns c r rfl),if_neg hc']
    by_cases hr : r = []
    ·subst hr
     have n1 : ¬ c.toNat = 110:=fun h=>hA1 (by rw [show c = 110 from UInt8.toNat_inj.1 h])
     have n2 : ¬ c.toNat = 116:=fun h=>hA2 (by rw [show c = 116 from UInt8.toNat_inj.1 h])
     have n3 : ¬ c.toNat = 102:=fun h=>hA3 (by rw [show c = 102 from UInt8.toNat_inj.1 h])
     simp [n1,n2,n3]
    ·simp [hr]
   have hp : ([64] : act).isPrefixOf (c :: r) = false:=by simp [List.isPrefixOf];exact fun h=>hc h.symm
   refine jE [(0,_)] Tryz.func90 Tryz.ntmps90 fun B hB=>?_
   repeat' (first | refine jM ?_ | (refine jo ?_;first | refine jL fun _=>?_ | refine jV (am F F) ?_ | refine jC F F F ?_ | refine aq F ?_ | refine ab F F F cx_triml F ?_ | refine ab F F F fT F ?_) | (refine al F F (by first | assumption | (refine decide_eq_false ?_;(assumption))) ?_) | (refine ad F (by first | rfl | (refine decide_eq_false ?_;first | assumption | omega)) ?_))
   all_goals refine jZ (vs:=[_,_]) F ⟨aF F F F F,F,trivial⟩ F ⟨F,F,?_⟩
   all_goals exact ⟨[],[],[],by rw [hno];rfl,fun h=>by rw [hno] at h;cases h⟩
  subst hc
  have hp : ([64] : act).isPrefixOf (64 :: r) = true:=by simp [List.isPrefixOf]
  have hsuf:=m6 (G:=G) (s:=64 :: r) (p:=[59]) (by simp) (by simp at hcl ⊢;omega)
  have ek2 : bw s = (decide (bt (64 :: r) r.length = 59) && co (r.take (r.length - 1))):=by
   rw [ek,dX,if_neg dC,if_pos dC]
   congr 1
   refine decide_eq_decide.2 ?_
   omega
  have hsb:=zm (c:=64) (r:=r)
  by_cases hb : bt (64 :: r) r.length = 59
  case neg =>
   have cx_suf : av acs 131 [S (64 :: r),S [59]] G (· = Bo false):=by
    have e : decide (([59] : act).length ≤ (64 :: r : act).length ∧ (64 :: r : act).drop ((64 :: r : act).length - ([59] : act).length) = [59]) = false:=decide_eq_false fun h=>hb (hsb.1 h)
    rwa [e] at hsuf
   have hno : bw s = false:=by rw [ek2,decide_eq_false hb,Bool.false_and]
   refine jE [(0,_)] Tryz.func90 Tryz.ntmps90 fun B hB=>?_
   repeat' (first | refine jM ?_ | (refine jo ?_;first | refine jL fun _=>?_ | refine jV (am F F) ?_ | refine jC F F F ?_ | refine aE F ?_ | refine aq F ?_ | refine ab F F F cx_triml F ?_ | refine ab F F F fT F ?_ | refine ab F F F cx_suf F ?_) | refine aw F F F ?_ | refine al F F F ?_ | (refine ad F (by first | rfl | (refine decide_eq_false ?_;(omega))) ?_))
   all_goals refine jZ (vs:=[_,_]) F ⟨aF F F F F,F,trivial⟩ F ⟨F,F,?_⟩
   all_goals exact ⟨[],[],[],by rw [hno];rfl,fun h=>by rw [hno] at h;cases h⟩
  have cx_suf : av acs 131 [S (64 :: r),S [59]] G (· = Bo true):=by
   have e : decide (([59] : act).length ≤ (64 :: r : act).length ∧ (64 :: r : act).drop ((64 :: r : act).length - ([59] : act).length) = [59]) = true:=decide_eq_true (hsb.2 hb)
   rwa [e] at hsuf
  have hr : 1 ≤ r.length:=by
   cases r with
   | nil=>exact absurd hb dC
   | cons=>simp
  have hl2 : (64 :: r : act).length = r.length + 1:=rfl
  have e1 : ((64 :: r : act).take ((((64 :: r : act).length : Nat) : Int) - 1).toNat).drop (Int.toNat 1) = r.take (r.length - 1):=by
   have e2 : ((((64 :: r : act).length : Nat) : Int) - 1).toNat = (r.length - 1) + 1:=oM
   rw [e2,List.take_succ_cons];rfl
  have hyes : bw s = co (r.take (r.length - 1)):=by rw [ek2,decide_eq_true hb,Bool.true_and]
  have cx_isnm : av acs 105 [S (((64 :: r : act).take ((((64 :: r : act).length : Nat) : Int) - 1).toNat).drop (Int.toNat 1))] G (· = Bo (co (r.take (r.length - 1)))):=by
   rw [e1];exact du (by simp at hcl ⊢;omega)
  refine jE [(0,_)] Tryz.func90 Tryz.ntmps90 fun B hB=>?_
  repeat' (first | refine jM ?_ | (refine jo ?_;first | refine jL fun _=>?_ | refine jV (am F F) ?_ | refine jD F F F ?_ | refine jC F F F ?_ | refine aE F ?_ | refine aq F ?_ | refine ab F F F cx_triml F ?_ | refine ab F F F fT F ?_ | refine ab F F F cx_suf F ?_) | refine aw F F F ?_ | refine al F F F ?_ | refine ac F F ?_ | (refine ad F (by first | rfl | (refine decide_eq_false ?_;(omega))) ?_) | (refine aj (dV (id:=11) (tt:=2) F ai ?_);refine jW 5 [1] (aa 6 2) ?_;(refine jG (aa 6 3) 0 F (bJ F F F F) ?_);(refine jG (aa 6 7) 2 F (aA F F F) ?_);refine jA 3 F ?_;(refine ab F F F cx_isnm F ?_);refine jK (aa 6 15) ?_;refine jA 4 F ?_;(refine jC F F F ?_);refine jK (aa 6 31) ?_;refine jW 0 [5] (aa 6 63) ?_;refine jQ ?_))
  all_goals refine jZ (vs:=[_,_]) F ⟨aF F F F F,F,trivial⟩ F ⟨F,F,?_⟩
  all_goals exact ⟨_,_,_,by rw [hyes];rfl,fun _=>⟨esg,by rw [ebs];rfl,by rw [enm,e1];rfl⟩⟩
theorem lq {s : act} (h : s.length ≤ 2000000) : av acs 90 [S s] G (wd s):=by
 by_cases hl : s.length ≤ 12
 ·exact sA hl F
 have e : bw s = false:=by unfold bw;rw [decide_eq_false hl,Bool.false_and]
 refine jE [(0,_)] Tryz.func90 Tryz.ntmps90 fun B hB=>?_
 repeat' (first | refine jR ?_ | (refine jo ?_;first | refine jL fun _=>?_ | refine jV (am F F) ?_ | refine jC F F F ?_) | refine ac F (ar oM) ?_)
 all_goals refine jZ (vs:=[_,_]) F ⟨aF F F F F,F,trivial⟩ F ⟨F,F,?_⟩
 all_goals exact ⟨[],[],[],by rw [e];rfl,fun h=>by rw [e] at h;cases h⟩
theorem uH {c : UInt8} (h : 48 ≤ c.toNat) : u8 (48 + ((c.toNat : Int) - 48)) = c:=by
 apply UInt8.toNat_inj.1
 have h2:=c.toNat_lt
 have:=cC (a:=48 + ((c.toNat : Int) - 48)) oM
 omega
theorem rE : ∀ {s : act} {n m : Int},1 ≤ n → cZ n s = some m → br m = br n ++ s ∧ n ≤ m
 | [],n,m,h0,h=>by simp only [cZ,Option.some.injEq] at h;subst h;simp
 | c :: r,n,m,h0,h=>by
  unfold cZ at h
  split at h
  ·rename_i hc
   have ih:=rE (s:=r) oM h
   refine ⟨?_,oM⟩
   have e1 : (10 * n + ((c.toNat : Int) - 48)) / 10 = n:=oM
   have e2 : (10 * n + ((c.toNat : Int) - 48)) % 10 = (c.toNat : Int) - 48:=oM
   rw [ih.1,iV (n:=10 * n + ((c.toNat : Int) - 48)) oM,e1,e2,uH hc.1];simp
  ·cases h
theorem me : ∀ (k : Nat) {m : Int},m.toNat ≤ k → 1 ≤ m → ∃ c r,br m = c :: r ∧ c.toNat ≠ 48
 | 0,m,h,h1=>by omega
 | k + 1,m,h,h1=>by
  by_cases hm : m < 10
  ·refine ⟨_,[],dF hm oM,?_⟩
   have:=cC (a:=48 + m) oM
   omega
  ·obtain ⟨c,r,e,hc⟩:=me k (m:=m / 10) oM oM
   exact ⟨c,r ++ [u8 (48 + m % 10)],by rw [iV hm,e];rfl,hc⟩
theorem pt : ∀ {s : act} {n m : Int},0 ≤ n → cZ n s = some m → 0 ≤ m
 | [],n,m,h0,h=>by simp only [cZ,Option.some.injEq] at h;omega
 | c :: r,n,m,h0,h=>by
  unfold cZ at h
  split at h
  ·exact pt (s:=r) oM h
  ·cases h
theorem tj {c : UInt8} {r : act} {m : Int} (h : cZ 0 (c :: r) = some m) : c :: r = br m ↔ ¬ (c.toNat = 48 ∧ r ≠ []):=by
 have h':=h
 unfold cZ at h
 split at h
 ·rename_i hc
  by_cases h0 : c.toNat = 48
  ·have e0 : (10 * 0 + ((c.toNat : Int) - 48)) = 0:=oM
   rw [e0] at h
   constructor
   ·rintro e ⟨_,hr⟩
    have hm:=pt (Int.le_refl 0) h
    rcases Int.lt_or_le m 1 with h1 | h1
    ·have : m = 0:=oM
     subst this
     rw [dF oM oM] at e
     simp only [List.cons.injEq] at e
     exact hr e.2
    ·obtain ⟨d,t,e2,hd⟩:=me m.toNat (Nat.le_refl _) h1
     rw [e2] at e
     simp only [List.cons.injEq] at e
     exact hd (by rw [← e.1];exact h0)
   ·intro hn
    have hr : r = []:=by
     by_cases hr : r = []
     ·exact hr
     ·exact absurd ⟨h0,hr⟩ hn
    subst hr
    simp only [cZ,Option.some.injEq] at h
    subst h
    rw [dF oM oM]
    congr 1
    apply UInt8.toNat_inj.1
    have:=cC (a:=48 + 0) oM
    omega
  ·have:=rE oM h
   rw [this.1,dF oM oM]
   have e : (10 * 0 + ((c.toNat : Int) - 48)) = (c.toNat : Int) - 48:=oM
   rw [e,uH hc.1]
   simp [h0]
 ·cases h
theorem gY {s : act} {top : Int} (h : s.length ≤ 100000000) : av acs 98 [S s,I top] G (fun v=>∃ n,v = Tu [I n,Bo (aL s top).isSome] ∧ (∀ m,aL s top = some m → n = m) ∧ 0 ≤ n ∧ n ≤ 999999):=by
  by_cases hl : 1 ≤ s.length ∧ s.length ≤ 6
  case neg =>
    have hno : aL s top = none:=by
      unfold aL
      by_cases h6 : s.length ≤ 6
      · have : s = []:=List.length_eq_zero_iff.1 oM
        subst this
        rw [if_pos (by simp)]
        simp [cZ,dF]
      · rw [if_neg h6]
    refine jE [(0,_),(1,_)] Tryz.func98 Tryz.ntmps98 fun B hB=>?_
    repeat' (first | refine jR ?_ | (refine jo ?_;first | refine aE F ?_ | refine aq F ?_) | (refine aw F F (by first | rfl | (refine decide_eq_true ?_;(omega))) ?_) | refine dA F F (fun _=>?_) (fun _=>?_) | refine ac F F ?_)
    all_goals refine jY (vs:=[_,_]) ?_
    all_goals exact ⟨_,by rw [hno];rfl,fun m hm=>(by rw [hno] at hm;cases hm),by decide,by decide⟩
  by_cases hz : bt s 0 = 48 ∧ 1 < s.length
  · have hz0 : bt s (Int.toNat 0) = 48:=hz.1
    have hno : aL s top = none:=by
      match s,hz,hl with
      | c :: r,hz,hl =>
        unfold aL
        rw [if_pos hl.2]
        split
        · rename_i n hn
          rw [if_neg]
          rintro ⟨e,_⟩
          rw [bh] at hz
          exact (tj hn).1 e ⟨hz.1,by rintro rfl;simp at hz⟩
        · rfl
    refine jE [(0,_),(1,_)] Tryz.func98 Tryz.ntmps98 fun B hB=>?_
    repeat' (first | refine jM ?_ | (refine jo ?_;first | refine aE F ?_ | refine aq F ?_) | refine aw F F (ar oM) ?_ | refine al F F (ay oM) ?_ | refine ac F (ar oM) ?_)
    all_goals refine jY (vs:=[_,_]) ?_
    all_goals exact ⟨_,by rw [hno];rfl,fun m hm=>(by rw [hno] at hm;cases hm),by decide,by decide⟩
  have hz0 : ¬ (bt s (Int.toNat 0) = 48 ∧ 1 < s.length):=hz
  have key : aL s top = match cZ 0 s with
      | some n=>if n ≤ top then some n else none
      | none=>none:=by
    match s,hz,hl with
    | c :: r,hz,hl =>
      unfold aL
      rw [if_pos hl.2]
      cases hd : cZ 0 (c :: r) with
      | some n =>
        have hn:=hd
        have : c :: r = br n:=(tj hn).2 (by rw [bh] at hz;rintro ⟨h1,h2⟩;exact hz ⟨h1,by have:=List.length_pos_iff.2 h2;simp;omega⟩)
        dsimp only
        rw [← this]
        simp
      | none=>rfl
  refine jE [(0,_),(1,_)] Tryz.func98 Tryz.ntmps98 fun B hB=>?_
  repeat' (first | refine jM ?_ | (refine jo ?_;first | refine aE F ?_ | refine aq F ?_) | refine al F F (ay oM) ?_ | refine dA F F (fun _=>?_) (fun _=>?_) | (refine ad F (by first | rfl | (refine decide_eq_false ?_;(omega))) ?_))
  all_goals (refine aR (ι:=Nat × Int) (fun i=>(i.1 ≤ s.length ∧ i.1 ≤ 6) ∧ (0 ≤ i.2 ∧ i.2 + 1 ≤ 10 ^ i.1) ∧ cZ i.2 (s.drop i.1) = cZ 0 s) (fun i=>[(0,S s),(1,I top),(6,I i.2),(27,I s.length),(28,I i.1)]) (fun _=>G) (fun i=>[]) (fun i=>s.length - i.1) (0,0) ?_ tU F aW (fun i Hi=>?_))
  all_goals (first | exact ⟨⟨by dsimp only;omega,by dsimp only;omega⟩,⟨by dsimp only;omega,by dsimp only;decide⟩,rfl⟩ | skip)
  all_goals obtain ⟨i,n⟩:=i
  all_goals dsimp only at Hi ⊢
  all_goals by_cases hi : i < s.length
  all_goals first
    | (obtain ⟨c,hc1,hc2⟩:=fL hi
       have hc3 : bt s ((i : Int).toNat) = c.toNat:=hc2
       have hd:=Hi.2.2
       rw [hc1,cZ] at hd
       have h5 : i ≤ 5:=oM
       have hp:=wy i h5
       by_cases hdig : 48 ≤ c.toNat ∧ c.toNat ≤ 57
       · rw [if_pos hdig] at hd
         repeat' (first | refine jM ?_ | (refine jo ?_;refine aq F ?_) | refine al F F (ay oM) ?_ | refine ac F (ar oM) ?_ | refine ad F (ay oM) ?_)
         refine aY (i + 1,10 * n + ((c.toNat : Int) - 48)) ⟨⟨by dsimp only;omega,by dsimp only;omega⟩,⟨by dsimp only;omega,by dsimp only;rw [hp.1];omega⟩,hd⟩ (by dsimp only;omega) ?_ rfl aW
         rw [← hc2];repeat (first | exact trivial | refine ⟨F,?_⟩)
       · rw [if_neg hdig] at hd
         have hno : aL s top = none:=by rw [key,← hd]
         repeat' (first | refine jM ?_ | (refine jo ?_;first | refine aE F ?_ | refine aq F ?_) | refine dA F F (fun _=>?_) (fun _=>?_) | (refine ac F (by first | rfl | (refine decide_eq_true ?_;(omega))) ?_))
         all_goals refine jY (vs:=[_,_]) ?_
         all_goals exact ⟨_,by rw [hno];rfl,fun m hm=>(by rw [hno] at hm;cases hm),by decide,by decide⟩)
    | (have ei : i = s.length:=oM
       have hd:=Hi.2.2
       rw [ei,List.drop_length,cZ] at hd
       have hno : aL s top = if n ≤ top then some n else none:=by rw [key,← hd]
       repeat' (first | refine jR ?_ | refine ad F (ay oM) ?_)
       refine jY (vs:=[_,_]) ?_
       have hp6 : ∀ i : Nat,i ≤ 6 → (10 : Int) ^ i ≤ 1000000:=by decide
       have hp7:=hp6 i oM
       have hlo:=Hi.2.1.1
       have hhi:=Hi.2.1.2
       refine ⟨n,?_,fun m hm=>?_,oM,oM⟩
       · rw [hno,dK]
         by_cases ht : n ≤ top
         · rw [if_pos ht,decide_eq_true ht];rfl
         · rw [if_neg ht,decide_eq_false ht];rfl
       · rw [hno] at hm
         split at hm
         · exact Option.some.inj hm
         · cases hm)
theorem e7 {s : act} {top : Int} (h : s.length ≤ 100000000) : av acs 98 [S s,I top] G (fun v=>∃ n,v = Tu [I n,Bo (aL s top).isSome] ∧ (∀ m,aL s top = some m → n = m)):=by
 refine (gY (G:=G) h).mono ?_
 rintro v G' L' ⟨h1,h2,n,h3,h4,_⟩
 exact ⟨h1,h2,n,h3,h4⟩
theorem vW : ∀ (k : Nat) {n : Int},n.toNat ≤ k → 0 ≤ n ∧ n ≤ 9223372036854775807 → av acs 95 [I n] G (· = S (br n)):=by
 intro k
 induction k with
 | zero =>
  intro n hk hn
  have h1 : n < 10:=oM
  refine jE [(0,_)] Tryz.func95 Tryz.ntmps95 fun B hB=>?_
  repeat' (first | refine jM ?_ | (refine jo ?_;first | refine jF fun _=>?_ | refine jV (dc F F (by (repeat (first | exact BL.nil | apply BL.cons));done)) ?_) | refine ac F (ar ‹_›) ?_)
  refine jY (vs:=[_]) ?_
  rw [ax,dF h1 hn.1]
 | succ k ih =>
  intro n hk hn
  have hl:=f8 (n:=n / 10) oM
  have hl2:=f8 (n:=n % 10) oM
  by_cases h1 : n < 10
  ·refine jE [(0,_)] Tryz.func95 Tryz.ntmps95 fun B hB=>?_
   repeat' (first | refine jM ?_ | (refine jo ?_;first | refine jF fun _=>?_ | refine jV (dc F F (by (repeat (first | exact BL.nil | apply BL.cons));done)) ?_) | refine ac F (ar ‹_›) ?_)
   refine jY (vs:=[_]) ?_
   rw [ax,dF h1 hn.1]
  ·refine jE [(0,_)] Tryz.func95 Tryz.ntmps95 fun B hB=>?_
   repeat' (first | refine jM ?_ | (refine jo ?_;(refine ab F F F (ih oM ?_) F ?_;focus omega)) | refine ad F (ay ‹_›) ?_)
   all_goals refine jY (vs:=[_]) ?_
   all_goals rw [ax,iV (n:=n) h1,dF (n:=n % 10) oM oM]
theorem fO {n : Int} (hn : 0 ≤ n ∧ n ≤ 9223372036854775807) : av acs 95 [I n] G (· = S (br n)):=vW n.toNat (Nat.le_refl _) hn
theorem lh (c : UInt8) : ∀ s acc : act,(dG c.toNat acc s).length = s.count c + 1
 | [],acc=>by simp [dG]
 | d :: r,acc=>by
  unfold dG
  by_cases h : d = c
  ·subst h
   rw [if_pos rfl,List.length_cons,lh d r []];simp
  ·have h2 : ¬ d.toNat = c.toNat:=fun e=>h (UInt8.toNat_inj.1 e)
   rw [if_neg h2,lh c r _,List.count_cons];simp [h]
theorem yZ {s : act} {c : UInt8} : av acs 182 [S s,S [c]] G (· = I (((a7 c.toNat s).length : Int) - 1)):=by
 have hx : ∀ w,(callFunc 207 [S s,U8 (bt [c] (Int.toNat 0))].toArray).run acs w = .ok (.value (I (((a7 c.toNat s).length : Int) - 1))) w:=fun w=>by
  rw [show bt [c] (Int.toNat 0) = c.toNat from bh c []]
  rw [run_callFunc_extern Tryz.func207 kR kR kR (e:=Extern.BytealgCount.count) kR]
  have:=Lib.run_countString (P:=acs) ⟨s.toArray⟩ (c.toNat : Int) w
  rw [this]
  simp only [Result.andThen]
  have e : (a7 c.toNat s).length = s.count c + 1:=lh c s []
  rw [e]
  simp [Lib.countByte]
 refine jE [(0,_),(1,_)] Tryz.func182 Tryz.ntmps182 fun B hB=>?_
 repeat' (first | refine jX ?_ | refine ac F F ?_ | refine ad F F ?_)
 refine t9 F (kf (nx F F F hx) F F ?_)
 repeat' (refine jR ?_)
 refine jY (vs:=[_]) ?_
 rfl
theorem uA {s : act} {c : UInt8} (hs : s.length ≤ 100000000) : bx acs 145 [S s,S [c],I 0,I (-1)] G (fun v G'=>a8 G' v 1 (a7 c.toNat s).length (aI dE (a7 c.toNat s))):=by
 have hlen:=j4 (k:=c.toNat) (s:=s)
 have hpos:=dS (k:=c.toNat) (s:=s)
 have emin : min (((a7 c.toNat s).length : Int) - 1 + 1) ((s.length : Int) + 1) = ((a7 c.toNat s).length : Nat):=oM
 refine jB [(0,_),(1,_),(2,_),(3,_)] Tryz.func145 Tryz.ntmps145 fun B hok hB hW=>?_
 repeat' (first | refine jM ?_ | (refine jo ?_;first | refine jV (ug F F) ?_ | refine ab F F F yZ F ?_) | refine ac F F ?_ | refine ad F F ?_)
 rw [emin]
 repeat' (first | refine jM ?_ | (refine jo ?_;refine ach F F F F oM (fun _=>?_)))
 rename_i x
 refine aR (ι:=List act × act) (fun i=>i.1.length + i.2.length ≤ s.length ∧ i.1.length < (a7 c.toNat s).length ∧ i.1 ++ a7 c.toNat i.2 = a7 c.toNat s) (fun i=>[(0,S i.2),(1,S [c]),(2,I 0),(3,I (((a7 c.toNat s).length : Int) - 1)),(9,.slice (some ⟨x,0,none⟩) (a7 c.toNat s).length (a7 c.toNat s).length),(10,I (i.1.length : Nat))]) (fun _=>G) (fun i=>[.blk x (.cells (aI dE i.1 ++ bM [S []] ((a7 c.toNat s).length - i.1.length)).toArray kg (0,0))]) (fun i=>(a7 c.toNat s).length - i.1.length) ([],s) ?_ tU F aW (fun i Hi=>?_)
 ·exact ⟨by simp,hpos,F⟩
 obtain ⟨xs,t⟩:=i
 dsimp only at Hi ⊢
 obtain ⟨hl,hlt,he⟩:=Hi
 have hel:=congrArg List.length he
 rw [List.length_append] at hel
 rcases oA c.toNat t with ⟨h1,h2⟩ | ⟨m,h1,h3,h2⟩
 ·have hc1 : a7 c.toNat t = [t]:=by rw [lg,h2];rfl
  rw [hc1] at he hel
  simp only [List.length_cons,List.length_nil] at hel
  have hm : (a7 c.toNat s).length - xs.length = 1:=oM
  rw [hm]
  repeat' (first | refine jM ?_ | (refine jo ?_;first | refine jV (aD F F oM) ?_ | (refine vH F F F oM ?_ ?_;focus omega) | refine jV (oD F F oM) ?_) | refine ad F (ay oM) ?_)
  refine Nx.sealC (b:=x) fun G' hle hseg=>?_
  refine jZ (vs:=[_]) F ⟨F,trivial⟩ F ⟨hle,F,?_⟩
  have e1 : (((xs.length : Nat) : Int) + 1).toNat = (a7 c.toNat s).length:=oM
  have e2 : aI dE (xs ++ [t]) ++ bM [S []] (1 - 1) = aI dE (a7 c.toNat s):=by rw [he];simp [bM]
  rw [ax,e1]
  rw [e2] at hseg
  exact ⟨by rw [qW],.inr ⟨_,_,_,F,Nat.le_refl _,hseg⟩⟩
 ·have hc1 : a7 c.toNat t = t.take m :: a7 c.toNat (t.drop (m + 1)):=by rw [lg,h2];rfl
  rw [hc1] at he hel
  have hp2:=dS (k:=c.toNat) (s:=t.drop (m + 1))
  simp only [List.length_cons] at hel
  have cx_ix : av acs 183 [S t,S [c]] G (· = I (m : Int)):=by have:=tI (G:=G) (s:=t) (c:=c);rwa [h1] at this
  obtain ⟨k,hk⟩ : ∃ k,(a7 c.toNat s).length - xs.length = k + 1:=⟨(a7 c.toNat s).length - xs.length - 1,oM⟩
  have hk2 : (a7 c.toNat s).length = xs.length + k + 1:=oM
  rw [hk]
  generalize (a7 c.toNat s).length = N at *
  repeat' (first | refine jX ?_ | (refine jo ?_;first | refine jV (aD F F oM) ?_ | (refine vH F F F oM ?_ ?_;focus omega) | refine ab F F F cx_ix F ?_) | refine ac F (ar oM) ?_ | refine ad F F ?_)
  have e1 : aI dE (xs ++ [t.take ((m : Int) + 0).toNat]) ++ bM [S []] (k + 1 - 1) = aI dE (xs ++ [t.take m]) ++ bM [S []] (N - (xs ++ [t.take m]).length):=by
   have e2 : N - (xs ++ [t.take m]).length = k + 1 - 1:=by simp;omega
   rw [e2]
   have e3 : ((m : Int) + 0).toNat = m:=oM
   rw [e3]
  have e4 : ((m : Int) + (([c] : act).length : Nat)).toNat = m + 1:=by simp only [List.length_cons,List.length_nil];omega
  have e5 : ((xs.length : Nat) : Int) + 1 = ((xs ++ [t.take m]).length : Nat):=by simp
  rw [e1,e4,e5]
  refine aY (xs ++ [t.take m],t.drop (m + 1)) ⟨by simp;omega,by simp;omega,by simpa using he⟩ (by simp;omega) tU rfl aW
theorem yX {s : act} {c : UInt8} (hs : s.length ≤ 100000000) : bx acs 97 [S s,S [c]] G (fun v G'=>a8 G' v 1 (a7 c.toNat s).length (aI dE (a7 c.toNat s))):=by
 have cx_gs:=uA (G:=G) (c:=c) hs
 refine jB [(0,_),(1,_)] Tryz.func97 Tryz.ntmps97 fun B hok hB hW=>?_
 repeat' (first | refine jR ?_ | (refine jo ?_;(refine aM F F F cx_gs F ?_;rintro _ G hle hspl;skip)))
 all_goals refine jZ (vs:=[_]) F ⟨F,trivial⟩ F ⟨hle,F,?_⟩
 all_goals exact hspl
def je (f : Fld) : List Value:=[I f.tag,S f.name,S (sg f.kind),S (bs f.kind),S (nm f.kind),S f.stand]
instance : RowF je 6:=⟨fun _=>rfl⟩
theorem xL (s : act) : dn (eJ qJ) (eO (eJ qJ) s) = [] ↔ ∀ c ∈ s,iC c.toNat:=by
 rw [qL]
 exact forall_congr' fun c=>forall_congr' fun _=>by rw [aaZ];simp
def l5 (s : act) : Bool:=decide (s.length ≤ 12) && s.all fun c=>decide (iC c.toNat)
theorem jk {s : act} (h : s.length ≤ 2000000) : av acs 136 [S s] G (· = Bo (l5 s)):=by
 have cx_trim:=v6 (G:=G) (s:=s) (cs:=qJ) rfl kR rfl h
 have key:=xL s
 have e : l5 s = (decide (s.length ≤ 12) && decide (dn (eJ qJ) (eO (eJ qJ) s) = [])):=by
  unfold l5
  congr 1
  rw [Bool.eq_iff_iff,List.all_eq_true,decide_eq_true_eq,key]
  simp
 rw [e]
 by_cases hl : s.length ≤ 12
 ·rw [decide_eq_true hl,Bool.true_and]
  refine jE [(0,_)] Tryz.func136 Tryz.ntmps136 fun B hB=>?_
  repeat' (first | refine jR ?_ | (refine jo ?_;first | refine aE F ?_ | refine ab F F F cx_trim F ?_) | refine aw F F (ar oM) ?_)
  all_goals refine jY (vs:=[_]) ?_
  all_goals rfl
 ·rw [decide_eq_false hl,Bool.false_and]
  refine jE [(0,_)] Tryz.func136 Tryz.ntmps136 fun B hB=>?_
  repeat' (first | refine jR ?_ | (refine jo ?_;refine aq F ?_) | refine al F F (ay oM) ?_)
  all_goals refine jY (vs:=[_]) ?_
  all_goals rfl
theorem s4 {s : act} : (db s && decide (s ≠ [39,39])) = (decide (2 < s.length) && (decide (bt s 0 = 39) && (decide (bt s (s.length - 1) = 39) && l5 ((s.take (s.length - 1)).drop 1)))):=by
 rw [Bool.eq_iff_iff]
 simp only [Bool.and_eq_true,decide_eq_true_eq,db,l5,List.all_eq_true]
 constructor
 ·rintro ⟨⟨h1,h2,h3,h4⟩,h5⟩
  have hl : 2 < s.length:=by
   rcases Nat.lt_or_ge 2 s.length with h6 | h6
   ·exact h6
   ·exfalso
    match s,h1,h6,h2,h3 with
    | [a,b],_,_,h2,h3 =>
     rw [bh] at h2
     simp only [List.length_cons,List.length_nil] at h3
     rw [show (0 + 1 + 1 - 1) = 0 + 1 from rfl,dT,bh] at h3
     have e1 : a = 39:=UInt8.toNat_inj.1 h2
     have e2 : b = 39:=UInt8.toNat_inj.1 h3
     subst e1;subst e2;exact h5 F
  refine ⟨hl,h2,h3,by simp;omega,fun c hc=>?_⟩
  obtain ⟨i,hi,rfl⟩:=List.mem_iff_getElem.1 hc
  simp only [List.length_drop,List.length_take] at hi
  have e : bt s (i + 1) = (((s.take (s.length - 1)).drop 1)[i]'(by simp;omega)).toNat:=by
   simp [bt,List.getD,List.getElem?_eq_getElem (show i + 1 < s.length by omega)]
  rw [← e]
  rcases h4 (i + 1) oM with h6 | h6
  ·omega
  ·exact h6
 ·rintro ⟨hl,h2,h3,h4,h5⟩
  simp only [List.length_drop,List.length_take] at h4
  refine ⟨⟨oM,h2,h3,fun i hi=>?_⟩,fun e=>by subst e;simp at hl⟩
  rcases Nat.eq_zero_or_pos i with h6 | h6
  ·exact .inl h6
  ·refine .inr ?_
   have e : bt s i = (((s.take (s.length - 1)).drop 1)[i - 1]'(by simp;omega)).toNat:=by
    have e1 : i - 1 + 1 = i:=oM
    simp [bt,List.getD,List.getElem?_eq_getElem (show i < s.length by omega),e1]
   rw [e]
   exact h5 _ (List.getElem_mem _)
theorem oQ {b v : act} (h : v.length ≤ 2000000) : av acs 197 [S b,S v] G (· = Bo (bG b v)):=by
 by_cases h1 : b = [110]
 ·have e : bG b v = ((aL v 999999).isSome && decide (v ≠ [48])):=by rw [bG,if_pos h1]
  rw [e]
  rcases hn : aL v 999999 with _ | m
  ·refine jE [(0,_),(1,_)] Tryz.func197 Tryz.ntmps197 fun B hB=>?_
   repeat' (first | refine jR ?_ | (refine jo ?_;first | refine aq F ?_ | (refine c8 F F F (e7 oM) F ?_;rintro _ ⟨n,rfl,hnum⟩)) | (refine al F F ?_ ?_;(focus ((simp [*];done);done))) | refine ac F (ar ‹_›) ?_)
   all_goals refine jY (vs:=[_]) ?_
   all_goals (simp [*])
  ·have hm:=d9 hn
   have h0 : 0 ≤ m:=by
    unfold aL at hn
    split at hn
    ·split at hn
     ·rename_i hd
      split at hn
      ·simp only [Option.some.injEq] at hn;subst hn;exact pt (Int.le_refl 0) hd
      ·cases hn
     ·cases hn
    ·cases hn
   have ev : decide (v ≠ [48]) = decide (0 < m):=by
    refine decide_eq_decide.2 ?_
    rw [hm.2.1]
    constructor
    ·intro h2
     rcases Int.lt_or_le 0 m with h3 | h3
     ·exact h3
     ·have : m = 0:=oM
      subst this
      exact absurd (by rw [dF oM oM];rfl) h2
    ·intro h2 h3
     obtain ⟨c,r,e2,hc⟩:=me m.toNat (Nat.le_refl _) oM
     rw [e2] at h3
     simp only [List.cons.injEq] at h3
     exact hc (by rw [h3.1];rfl)
   have cx_pnum : av acs 98 [S v,I 999999] G (· = Tu [I m,Bo true]):=by
    refine (e7 (G:=G) (top:=999999) (s:=v) oM).mono ?_
    rintro w G' L' ⟨h2,h3,n,rfl,h4⟩
    exact ⟨h2,h3,by rw [hn,h4 m hn];rfl⟩
   rw [ev]
   refine jE [(0,_),(1,_)] Tryz.func197 Tryz.ntmps197 fun B hB=>?_
   repeat' (first | refine jR ?_ | (refine jo ?_;first | refine aE F ?_ | refine ab F F F cx_pnum F ?_) | refine aw F F F ?_ | refine ac F (ar ‹_›) ?_)
   all_goals refine jY (vs:=[_]) ?_
   all_goals (simp [*])
 by_cases h2 : b = [116]
 ·have e : bG b v = (db v && decide (v ≠ [39,39])):=by rw [bG,if_neg h1,if_pos h2]
  rw [e,s4]
  have e4 : (((v.length : Nat) : Int) - 1).toNat = v.length - 1:=oM
  by_cases hl : 2 < v.length
  case neg =>
   rw [decide_eq_false hl,Bool.false_and]
   refine jE [(0,_),(1,_)] Tryz.func197 Tryz.ntmps197 fun B hB=>?_
   repeat' (first | refine jR ?_ | (refine jo ?_;refine aq F ?_) | (refine al F F (by first | rfl | (refine decide_eq_false ?_;(omega))) ?_) | refine ac F (ar ‹_›) ?_ | refine ad F (ay ‹_›) ?_)
   all_goals refine jY (vs:=[_]) ?_
   all_goals rfl
  rw [decide_eq_true hl,Bool.true_and]
  by_cases hq : bt v 0 = 39
  case neg =>
   have hq2 : ¬ bt v (Int.toNat 0) = 39:=hq
   rw [decide_eq_false hq,Bool.false_and]
   refine jE [(0,_),(1,_)] Tryz.func197 Tryz.ntmps197 fun B hB=>?_
   repeat' (first | refine jM ?_ | (refine jo ?_;first | refine aE F ?_ | refine aq F ?_) | refine aw F F (ar oM) ?_ | (refine al F F (by first | rfl | (refine decide_eq_false ?_;(omega))) ?_) | refine ac F (ar ‹_›) ?_ | refine ad F (ay ‹_›) ?_)
   all_goals refine jY (vs:=[_]) ?_
   all_goals rfl
  have hq2 : bt v (Int.toNat 0) = 39:=hq
  rw [decide_eq_true hq,Bool.true_and]
  by_cases hr : bt v (v.length - 1) = 39
  case neg =>
   have hr2 : ¬ bt v (((v.length : Nat) : Int) - 1).toNat = 39:=by rw [e4];exact hr
   rw [decide_eq_false hr,Bool.false_and]
   refine jE [(0,_),(1,_)] Tryz.func197 Tryz.ntmps197 fun B hB=>?_
   repeat' (first | refine jM ?_ | (refine jo ?_;first | refine aE F ?_ | refine aq F ?_) | refine aw F F (ar oM) ?_ | refine al F F (ay oM) ?_ | refine ac F (ar ‹_›) ?_ | refine ad F (ay ‹_›) ?_)
   all_goals refine jY (vs:=[_]) ?_
   all_goals rfl
  have hr2 : bt v (((v.length : Nat) : Int) - 1).toNat = 39:=by rw [e4];exact hr
  rw [decide_eq_true hr,Bool.true_and]
  refine jE [(0,_),(1,_)] Tryz.func197 Tryz.ntmps197 fun B hB=>?_
  repeat' (first | refine jM ?_ | (refine jo ?_;first | refine aE F ?_ | (refine ab F F F (jk ?_) F ?_;(focus ((simp;omega);done)))) | refine aw F F (ar oM) ?_ | refine ac F (ar ‹_›) ?_ | refine ad F (ay ‹_›) ?_)
  all_goals refine jY (vs:=[_]) ?_
  all_goals rw [e4];rfl
 ·have e : bG b v = (decide (b = [102]) && decide (v = [121,101,115])):=by
   rw [bG,if_neg h1,if_neg h2]
   by_cases h3 : b = [102]
   ·rw [if_pos h3,decide_eq_true h3,Bool.true_and]
   ·rw [if_neg h3,decide_eq_false h3,Bool.false_and]
  rw [e]
  refine jE [(0,_),(1,_)] Tryz.func197 Tryz.ntmps197 fun B hB=>?_
  repeat' (first | refine jR ?_ | (refine jo ?_;first | refine aE F ?_ | refine aq F ?_) | refine dA F F (fun _=>?_) (fun _=>?_) | refine ad F (ay ‹_›) ?_)
  all_goals refine jY (vs:=[_]) ?_
  all_goals (simp [*])
theorem wj {c v : act} (h : bw c = true) : (decide (sg c = []) && bG (bs c) v) = bG c v:=by
 match c,h with
 | x :: r,h =>
  by_cases h1 : x.toNat = 91 ∨ x.toNat = 63
  ·have hs : sg (x :: r) ≠ []:=by
    unfold sg
    rw [bq,if_pos h1]
    have:=li r
    intro e
    have e2:=congrArg List.length e
    simp only [List.length_take,List.length_cons,List.length_nil] at e2
    omega
   rw [decide_eq_false hs,Bool.false_and]
   unfold bG
   rw [if_neg,if_neg,if_neg]
   all_goals (intro e;simp only [List.cons.injEq] at e;have:=congrArg UInt8.toNat e.1;revert this;rcases h1 with h1 | h1 <;> rw [h1] <;> decide)
  ·have hc : bq (x :: r) = x :: r:=by rw [bq,if_neg h1]
   have hs : sg (x :: r) = []:=by unfold sg;rw [hc];simp
   rw [decide_eq_true hs,Bool.true_and]
   by_cases h2 : x.toNat = 64
   ·have hb : bs (x :: r) = [64]:=by unfold bs;rw [hc];simp [oY,h2]
    rw [hb]
    have e1 : bG [64] v = false:=by unfold bG;simp
    rw [e1]
    unfold bG
    rw [if_neg,if_neg,if_neg]
    all_goals (intro e;simp only [List.cons.injEq] at e;have:=congrArg UInt8.toNat e.1;revert this;rw [h2];decide)
   ·have hb : bs (x :: r) = x :: r:=by unfold bs;rw [hc];simp [oY,h2]
    rw [hb]
def o3 (s : act) (k : Nat) (v : Value) (_ : Gh) : Prop:=∃ f ok,v = Tu [Ag (je f),Bo ok] ∧ bN s k = if ok = true then some f else none
theorem lm {s : act} {xs : List act} {k : Nat} {c : UInt8} (n : Nat) (h : s.length ≤ 100000000) (hc : c.toNat = k) (e : a7 k s = xs) (hn : xs.length = n) (h0 : 0 < n) :
  bx acs 97 [S s,S [c]] G (fun v G'=>∃ b o cap,v = .slice (some ⟨b,o,none⟩) n cap ∧ cM G' b o (aI dE xs)):=by
 subst hn;subst e;subst hc
 refine (yX (G:=G) (s:=s) (c:=c) h).mono ?_
 rintro v G' L' ⟨h1,h2,h3⟩
 obtain ⟨b,o,cap,rfl,hs⟩:=h3.expl h0
 exact ⟨h1,h2,b,o,cap,F,hs⟩
theorem tF {s : act} (h : s.length ≤ 2000000) (e : bw s = true) : av acs 90 [S s] G (· = Tu [Ag (eh s),Bo true]):=by
 refine (lq (G:=G) h).mono ?_
 rintro v G' L' ⟨h1,h2,a,b,c,rfl,h3⟩
 obtain ⟨rfl,rfl,rfl⟩:=h3 e
 exact ⟨h1,h2,by rw [e];rfl⟩
theorem tu {s : act} {top m : Int} (h : s.length ≤ 100000000) (e : aL s top = some m) : av acs 98 [S s,I top] G (· = Tu [I m,Bo true]):=by
 refine (e7 (G:=G) (top:=top) h).mono ?_
 rintro v G' L' ⟨h1,h2,n,rfl,h3⟩
 exact ⟨h1,h2,by rw [e,h3 m e];rfl⟩
theorem tv {s : act} {top : Int} (h : s.length ≤ 100000000) (e : aL s top = none) : av acs 98 [S s,I top] G (fun v=>∃ n,v = Tu [I n,Bo false]):=by
 refine (e7 (G:=G) (top:=top) h).mono ?_
 rintro v G' L' ⟨h1,h2,n,rfl,h3⟩
 exact ⟨h1,h2,n,by rw [e];rfl⟩
theorem mj {s : act} {k : Nat} (h : s.length ≤ 1000) (e : (a7 58 (aC 61 s).1).length ≠ if k = 69 then 2 else 3) : bx acs 165 [S s,U8 k] G (o3 s k):=by
 have hcl:=jf (k:=61) (s:=s)
 have cx_cut : av acs 126 [S s,S [61]] G (· = Tu [S (aC 61 s).1,S (aC 61 s).2.1,Bo (aC 61 s).2.2]):=oX (c:=61) oM
 have cx_split:=lm (G:=G) (c:=58) (k:=58) _ (s:=(aC 61 s).1) oM rfl rfl rfl dS
 have hno : bN s k = none:=by
  rw [← pl]
  unfold l8
  split
  ·rename_i e2
   rw [e2] at e
   split
   ·rename_i hk;simp [hk.1] at e
   ·rfl
  ·rename_i e2
   rw [e2] at e
   split
   ·rfl
   ·rename_i hk;simp [hk] at e
  ·rfl
 have hpos:=dS (k:=58) (s:=(aC 61 s).1)
 generalize hn : (a7 58 (aC 61 s).1).length = n at *
 by_cases hk : k = 69
 ·rw [if_pos hk] at e
  refine jB [(0,_),(1,_)] Tryz.func165 Tryz.ntmps165 fun B hok hB hW=>?_
  repeat' (first | refine jR ?_ | (refine jo ?_;first | refine jL fun _=>?_ | refine jV (ao F) ?_ | refine jV (am F F) ?_ | refine jC F F F ?_ | refine ab F F F cx_cut F ?_ | (refine aM F F F cx_split F ?_;rintro _ G hle ⟨b1,o1,cap1,rfl,hseg⟩;skip)) | refine ac F (ar oM) ?_)
  all_goals refine jZ (vs:=[_,_]) F ⟨aF F F F F,F,trivial⟩ F ⟨hle,F,?_⟩
  all_goals exact ⟨default,false,F,by rw [hno];rfl⟩
 ·rw [if_neg hk] at e
  refine jB [(0,_),(1,_)] Tryz.func165 Tryz.ntmps165 fun B hok hB hW=>?_
  repeat' (first | refine jR ?_ | (refine jo ?_;first | refine jL fun _=>?_ | refine jV (ao F) ?_ | refine jV (am F F) ?_ | refine jC F F F ?_ | refine ab F F F cx_cut F ?_ | (refine aM F F F cx_split F ?_;rintro _ G hle ⟨b1,o1,cap1,rfl,hseg⟩;skip)) | refine ac F (ar oM) ?_ | refine ad F (ay oM) ?_)
  all_goals refine jZ (vs:=[_,_]) F ⟨aF F F F F,F,trivial⟩ F ⟨hle,F,?_⟩
  all_goals exact ⟨default,false,F,by rw [hno];rfl⟩
theorem rN {s a b : act} (h : s.length ≤ 1000) (e : a7 58 (aC 61 s).1 = [a,b]) : bx acs 165 [S s,U8 (69 : Nat)] G (o3 s 69):=by
  have hcl:=jf (k:=61) (s:=s)
  have cx_cut : av acs 126 [S s,S [61]] G (· = Tu [S (aC 61 s).1,S (aC 61 s).2.1,Bo (aC 61 s).2.2]):=oX (c:=61) oM
  have cx_split:=lm (G:=G) (c:=58) (k:=58) 2 (s:=(aC 61 s).1) oM rfl e rfl oM
  have ha : a.length ≤ 1000:=by have:=di (k:=58) (s:=(aC 61 s).1) (x:=a) (by rw [e];simp);omega
  have hb : b.length ≤ 1000:=by have:=di (k:=58) (s:=(aC 61 s).1) (x:=b) (by rw [e];simp);omega
  have hall : bN s 69 = if (aC 61 s).2.2 = false then match aL a 200 with
      | some n=>if 1 ≤ n ∧ co b = true then some ⟨n,b,[],[]⟩ else none
      | none=>none else none:=by
    rw [← pl];unfold l8;rw [e];simp <;> rfl
  generalize hto : (aC 61 s).2.2 = told at *
  generalize hva : (aC 61 s).2.1 = val at *
  rcases hm : aL a 200 with _ | m
  · have hno : bN s 69 = none:=by rw [hall,hm];simp
    have cx_pn : ∀ G,av acs 98 [S a,I 200] G (fun v=>∃ n,v = Tu [I n,Bo false]):=fun G=>tv oM hm
    refine jB [(0,_),(1,_)] Tryz.func165 Tryz.ntmps165 fun B hok hB hW=>?_
    repeat' (first | refine jR ?_ | (refine jo ?_;first | refine jL fun _=>?_ | refine jV (ao F) ?_ | refine jV (am F F) ?_ | refine jC F F F ?_ | refine jV (aQ F F oM) ?_ | refine jV (aG F F aS F F) ?_ | refine aE F ?_ | refine ab F F F cx_cut F ?_ | (refine aM F F F cx_split F ?_;rintro _ G hle ⟨b1,o1,cap1,rfl,hseg⟩;skip) | (refine c8 F F F (cx_pn _) F ?_;rintro _ ⟨n,rfl⟩)) | refine aw F F F ?_ | refine ac F F ?_ | refine ad F F ?_)
    all_goals refine jZ (vs:=[_,_]) F ⟨aF F F F F,F,trivial⟩ F ⟨hle,F,?_⟩
    all_goals exact ⟨default,false,F,by rw [hno];rfl⟩
  have cx_pq : ∀ G,av acs 98 [S a,I 200] G (· = Tu [I m,Bo true]):=fun G=>tu oM hm
  rw [hm] at hall
  dsimp only at hall
  by_cases hg : 1 ≤ m ∧ co b = true
  · rw [if_pos hg] at hall
    have hg1:=hg.1
    have hg2 : (!co b) = false:=by rw [hg.2];rfl
    cases told with
    | true =>
      refine jB [(0,_),(1,_)] Tryz.func165 Tryz.ntmps165 fun B hok hB hW=>?_
      repeat' (first | refine jR ?_ | (refine jo ?_;first | refine jL fun _=>?_ | refine jV (ao F) ?_ | refine jV (am F F) ?_ | refine jC F F F ?_ | refine jV (aQ F F oM) ?_ | refine ak F ?_ | refine jV (aG F F aS F F) ?_ | refine aE F ?_ | refine aq F ?_ | refine ab F F F cx_cut F ?_ | (refine aM F F F cx_split F ?_;rintro _ G hle ⟨b1,o1,cap1,rfl,hseg⟩;skip) | refine ab F F F (cx_pq _) F ?_ | refine ab F F F (du oM) F ?_) | refine aw F F F ?_ | (refine al F F (by first | rfl | (refine decide_eq_false ?_;(omega))) ?_) | refine ac F F ?_ | (refine ad F (by first | rfl | assumption) ?_))
      all_goals refine jZ (vs:=[_,_]) F ⟨aF F F F F,F,trivial⟩ F ⟨hle,F,?_⟩
      all_goals exact ⟨default,false,F,by rw [hall];rfl⟩
    | false =>
      have hv : val = []:=by have:=eK hto;rw [this] at hva;exact hva.symm
      refine jB [(0,_),(1,_)] Tryz.func165 Tryz.ntmps165 fun B hok hB hW=>?_
      repeat' (first | refine jR ?_ | (refine jo ?_;first | refine jL fun _=>?_ | refine jV (ao F) ?_ | refine jV (am F F) ?_ | refine jC F F F ?_ | refine jV (aQ F F oM) ?_ | refine ak F ?_ | refine aV F ?_ | refine jV (aG F F aS F F) ?_ | refine aq F ?_ | refine ab F F F cx_cut F ?_ | (refine aM F F F cx_split F ?_;rintro _ G hle ⟨b1,o1,cap1,rfl,hseg⟩;skip) | refine ab F F F (cx_pq _) F ?_ | refine ab F F F (du oM) F ?_) | (refine al F F (by first | rfl | (refine decide_eq_false ?_;(omega))) ?_) | refine ac F F ?_ | (refine ad F (by first | rfl | assumption) ?_))
      all_goals refine jZ (vs:=[_,_]) F ⟨aF F F F F,F,trivial⟩ F ⟨hle,F,?_⟩
      all_goals exact ⟨⟨m,b,[],[]⟩,true,by rw [hv];rfl,by rw [hall];rfl⟩
  · rw [if_neg hg] at hall
    have hno : bN s 69 = none:=by rw [hall];simp
    by_cases h1 : m < 1
    case' neg => have hg2 : (!co b) = true := by
                  cases hb2 : co b with
                  | false=>rfl
                  | true=>exact absurd ⟨oM,hb2⟩ hg
    all_goals refine jB [(0,_),(1,_)] Tryz.func165 Tryz.ntmps165 fun B hok hB hW=>?_
    all_goals repeat' (first | refine jR ?_ | (refine jo ?_;first | refine jL fun _=>?_ | refine jV (ao F) ?_ | refine jV (am F F) ?_ | refine jC F F F ?_ | refine jV (aQ F F oM) ?_ | refine ak F ?_ | refine jV (aG F F aS F F) ?_ | refine aE F ?_ | refine aq F ?_ | refine ab F F F cx_cut F ?_ | (refine aM F F F cx_split F ?_;rintro _ G hle ⟨b1,o1,cap1,rfl,hseg⟩;skip) | refine ab F F F (cx_pq _) F ?_ | refine ab F F F (du oM) F ?_) | refine aw F F (ar ‹_›) ?_ | (refine al F F (by first | rfl | (refine decide_eq_false ?_;(assumption))) ?_) | (refine ac F (by first | rfl | assumption) ?_) | refine ad F F ?_)
    all_goals refine jZ (vs:=[_,_]) F ⟨aF F F F F,F,trivial⟩ F ⟨hle,F,?_⟩
    all_goals exact ⟨default,false,F,by rw [hno];rfl⟩
theorem rM {s a b c : act} {k : Nat} (h : s.length ≤ 1000) (hk : ¬ k = 69) (e : a7 58 (aC 61 s).1 = [a,b,c]) : bx acs 165 [S s,U8 k] G (o3 s k):=by
  have hcl:=jf (k:=61) (s:=s)
  have cx_cut : av acs 126 [S s,S [61]] G (· = Tu [S (aC 61 s).1,S (aC 61 s).2.1,Bo (aC 61 s).2.2]):=oX (c:=61) oM
  have cx_split:=lm (G:=G) (c:=58) (k:=58) 3 (s:=(aC 61 s).1) oM rfl e rfl oM
  have ha : a.length ≤ 1000:=by have:=di (k:=58) (s:=(aC 61 s).1) (x:=a) (by rw [e];simp);omega
  have hb : b.length ≤ 1000:=by have:=di (k:=58) (s:=(aC 61 s).1) (x:=b) (by rw [e];simp);omega
  have hc : c.length ≤ 1000:=by have:=di (k:=58) (s:=(aC 61 s).1) (x:=c) (by rw [e];simp);omega
  have hall : bN s k = match aL a 200 with
      | some n=>if (1 ≤ n ∧ co b = true) ∧ bw c = true ∧ ((aC 61 s).2.2 = true → k = 82 ∧ bG c (aC 61 s).2.1 = true) then some ⟨n,b,c,(aC 61 s).2.1⟩ else none
      | none=>none:=by
    rw [← pl];unfold l8;rw [e];simp [hk] <;> rfl
  generalize hto : (aC 61 s).2.2 = told at *
  generalize hva : (aC 61 s).2.1 = val at *
  rcases hm : aL a 200 with _ | m
  · have hno : bN s k = none:=by rw [hall,hm]
    have cx_pn : ∀ G,av acs 98 [S a,I 200] G (fun v=>∃ n,v = Tu [I n,Bo false]):=fun G=>tv oM hm
    refine jB [(0,_),(1,_)] Tryz.func165 Tryz.ntmps165 fun B hok hB hW=>?_
    repeat' (first | refine jR ?_ | (refine jo ?_;first | refine jL fun _=>?_ | refine jV (ao F) ?_ | refine jV (am F F) ?_ | refine jC F F F ?_ | refine jV (aQ F F oM) ?_ | refine jV (aG F F aS F F) ?_ | refine aE F ?_ | refine ab F F F cx_cut F ?_ | (refine aM F F F cx_split F ?_;rintro _ G hle ⟨b1,o1,cap1,rfl,hseg⟩;skip) | (refine c8 F F F (cx_pn _) F ?_;rintro _ ⟨n,rfl⟩)) | refine aw F F F ?_ | refine ac F F ?_ | (refine ad F (by first | rfl | (refine decide_eq_false ?_;(omega))) ?_))
    all_goals refine jZ (vs:=[_,_]) F ⟨aF F F F F,F,trivial⟩ F ⟨hle,F,?_⟩
    all_goals exact ⟨default,false,F,by rw [hno];rfl⟩
  have cx_pq : ∀ G,av acs 98 [S a,I 200] G (· = Tu [I m,Bo true]):=fun G=>tu oM hm
  rw [hm] at hall
  dsimp only at hall
  by_cases hg : 1 ≤ m ∧ co b = true
  case neg =>
    have hno : bN s k = none:=by rw [hall,if_neg fun h=>hg h.1]
    by_cases h1 : m < 1
    case' neg => have hg2 : (!co b) = true := by
                  cases hb2 : co b with
                  | false=>rfl
                  | true=>exact absurd ⟨oM,hb2⟩ hg
    all_goals refine jB [(0,_),(1,_)] Tryz.func165 Tryz.ntmps165 fun B hok hB hW=>?_
    all_goals repeat' (first | refine jR ?_ | (refine jo ?_;first | refine jL fun _=>?_ | refine jV (ao F) ?_ | refine jV (am F F) ?_ | refine jC F F F ?_ | refine jV (aQ F F oM) ?_ | refine ak F ?_ | refine jV (aG F F aS F F) ?_ | refine aE F ?_ | refine aq F ?_ | refine ab F F F cx_cut F ?_ | (refine aM F F F cx_split F ?_;rintro _ G hle ⟨b1,o1,cap1,rfl,hseg⟩;skip) | refine ab F F F (cx_pq _) F ?_ | refine ab F F F (du oM) F ?_) | refine aw F F (ar ‹_›) ?_ | (refine al F F (by first | rfl | (refine decide_eq_false ?_;(assumption))) ?_) | (refine ac F (by first | rfl | assumption) ?_) | (refine ad F (by first | rfl | (refine decide_eq_false ?_;(omega))) ?_))
    all_goals refine jZ (vs:=[_,_]) F ⟨aF F F F F,F,trivial⟩ F ⟨hle,F,?_⟩
    all_goals exact ⟨default,false,F,by rw [hno];rfl⟩
  have hg1:=hg.1
  have hg2 : (!co b) = false:=by rw [hg.2];rfl
  by_cases hkc : bw c = true
  case neg =>
    have hkc2 : bw c = false:=by simpa using hkc
    have hno : bN s k = none:=by rw [hall,if_neg fun h=>hkc h.2.1]
    have cx_kn : ∀ G,av acs 90 [S c] G (fun v=>∃ x y z,v = Tu [Ag [S x,S y,S z],Bo false]):=fun G=>by
      refine (lq (G:=G) (s:=c) oM).mono ?_
      rintro v G' L' ⟨h1,h2,x,y,z,rfl,_⟩
      exact ⟨h1,h2,x,y,z,by rw [hkc2]⟩
    refine jB [(0,_),(1,_)] Tryz.func165 Tryz.ntmps165 fun B hok hB hW=>?_
    repeat' (first | refine jR ?_ | (refine jo ?_;first | refine jL fun _=>?_ | refine jV (ao F) ?_ | refine jV (am F F) ?_ | refine jC F F F ?_ | refine jV (aQ F F oM) ?_ | refine ak F ?_ | refine jV (aG F F aS F F) ?_ | refine aq F ?_ | refine ab F F F cx_cut F ?_ | (refine aM F F F cx_split F ?_;rintro _ G hle ⟨b1,o1,cap1,rfl,hseg⟩;skip) | refine ab F F F (cx_pq _) F ?_ | refine ab F F F (du oM) F ?_ | (refine c8 F F F (cx_kn _) F ?_;rintro _ ⟨x,y,z,rfl⟩)) | (refine al F F (by first | rfl | (refine decide_eq_false ?_;(omega))) ?_) | (refine ac F (by first | rfl | (refine decide_eq_true ?_;(omega))) ?_) | (refine ad F (by first | rfl | assumption | (refine decide_eq_false ?_;(omega))) ?_))
    all_goals refine jZ (vs:=[_,_]) F ⟨aF F F F F,F,trivial⟩ F ⟨hle,F,?_⟩
    all_goals exact ⟨default,false,F,by rw [hno];rfl⟩
  have cx_kq : ∀ G,av acs 90 [S c] G (· = Tu [Ag [S (sg c),S (bs c),S (nm c)],Bo true]):=fun G=>tF oM hkc
  cases told with
  | false =>
    have hv : val = []:=by have:=eK hto;rw [this] at hva;exact hva.symm
    have hyes : bN s k = some ⟨m,b,c,val⟩:=by rw [hall,if_pos ⟨hg,hkc,fun h=>by cases h⟩]
    refine jB [(0,_),(1,_)] Tryz.func165 Tryz.ntmps165 fun B hok hB hW=>?_
    repeat' (first | refine jR ?_ | (refine jo ?_;first | refine jL fun _=>?_ | refine jV (ao F) ?_ | refine jV (am F F) ?_ | refine jC F F F ?_ | refine jV (aQ F F oM) ?_ | refine ak F ?_ | refine aV F ?_ | refine jV (aG F F aS F F) ?_ | refine aq F ?_ | refine ab F F F cx_cut F ?_ | (refine aM F F F cx_split F ?_;rintro _ G hle ⟨b1,o1,cap1,rfl,hseg⟩;skip) | refine ab F F F (cx_pq _) F ?_ | refine ab F F F (du oM) F ?_ | refine ab F F F (cx_kq _) F ?_) | (refine al F F (by first | rfl | (refine decide_eq_false ?_;(omega))) ?_) | refine ac F (ar oM) ?_ | (refine ad F (by first | rfl | assumption | (refine decide_eq_false ?_;(omega))) ?_))
    all_goals refine jZ (vs:=[_,_]) F ⟨aF F F F F,F,trivial⟩ F ⟨hle,F,?_⟩
    all_goals exact ⟨⟨m,b,c,val⟩,true,F,by rw [hyes];rfl⟩
  | true =>
    have hst:=wj (v:=val) hkc
    by_cases h82 : k = 82
    case neg =>
      have hno : bN s k = none:=by rw [hall,if_neg fun h=>h82 (h.2.2 rfl).1]
      have h83 : ¬ (k : Int) = 82:=oM
      refine jB [(0,_),(1,_)] Tryz.func165 Tryz.ntmps165 fun B hok hB hW=>?_
      repeat' (first | refine jR ?_ | (refine jo ?_;first | refine jL fun _=>?_ | refine jV (ao F) ?_ | refine jV (am F F) ?_ | refine jC F F F ?_ | refine jV (aQ F F oM) ?_ | refine ak F ?_ | refine jV (aG F F aS F F) ?_ | refine aE F ?_ | refine aq F ?_ | refine ab F F F cx_cut F ?_ | (refine aM F F F cx_split F ?_;rintro _ G hle ⟨b1,o1,cap1,rfl,hseg⟩;skip) | refine ab F F F (cx_pq _) F ?_ | refine ab F F F (du oM) F ?_ | refine ab F F F (cx_kq _) F ?_) | (refine aw F F (by first | rfl | (refine decide_eq_true ?_;(assumption))) ?_) | (refine al F F (by first | rfl | (refine decide_eq_false ?_;(omega))) ?_) | (refine ac F (by first | rfl | (refine decide_eq_true ?_;(omega))) ?_) | (refine ad F (by first | rfl | assumption | (refine decide_eq_false ?_;(omega))) ?_))
      all_goals refine jZ (vs:=[_,_]) F ⟨aF F F F F,F,trivial⟩ F ⟨hle,F,?_⟩
      all_goals exact ⟨default,false,F,by rw [hno];rfl⟩
    subst h82
    by_cases hsg : sg c = []
    · rw [decide_eq_true hsg,Bool.true_and] at hst
      by_cases hso : bG c val = true
      · have hyes : bN s 82 = some ⟨m,b,c,val⟩:=by rw [hall,if_pos ⟨hg,hkc,fun _=>⟨rfl,hso⟩⟩]
        have hso2 : (!bG (bs c) val) = false:=by rw [hst,hso];rfl
        refine jB [(0,_),(1,_)] Tryz.func165 Tryz.ntmps165 fun B hok hB hW=>?_
        repeat' (first | refine jR ?_ | (refine jo ?_;first | refine jL fun _=>?_ | refine jV (ao F) ?_ | refine jV (am F F) ?_ | refine jC F F F ?_ | refine jV (aQ F F oM) ?_ | refine ak F ?_ | refine aV F ?_ | refine jV (aG F F aS F F) ?_ | refine aE F ?_ | refine aq F ?_ | refine ab F F F cx_cut F ?_ | (refine aM F F F cx_split F ?_;rintro _ G hle ⟨b1,o1,cap1,rfl,hseg⟩;skip) | refine ab F F F (cx_pq _) F ?_ | refine ab F F F (du oM) F ?_ | refine ab F F F (cx_kq _) F ?_ | refine ab F F F (oQ oM) F ?_) | refine aw F F F ?_ | (refine al F F ?_ ?_;(focus ((first | rfl | (refine decide_eq_false ?_;(omega)) | (simp [*];done));done))) | refine ac F F ?_ | (refine ad F (by first | rfl | assumption) ?_))
        all_goals refine jZ (vs:=[_,_]) F ⟨aF F F F F,F,trivial⟩ F ⟨hle,F,?_⟩
        all_goals exact ⟨⟨m,b,c,val⟩,true,F,by rw [hyes];rfl⟩
      · have hno : bN s 82 = none:=by rw [hall,if_neg fun h=>hso (h.2.2 rfl).2]
        have hso2 : (!bG (bs c) val) = true:=by rw [hst];simpa using hso
        refine jB [(0,_),(1,_)] Tryz.func165 Tryz.ntmps165 fun B hok hB hW=>?_
        repeat' (first | refine jR ?_ | (refine jo ?_;first | refine jL fun _=>?_ | refine jV (ao F) ?_ | refine jV (am F F) ?_ | refine jC F F F ?_ | refine jV (aQ F F oM) ?_ | refine ak F ?_ | refine jV (aG F F aS F F) ?_ | refine aE F ?_ | refine aq F ?_ | refine ab F F F cx_cut F ?_ | (refine aM F F F cx_split F ?_;rintro _ G hle ⟨b1,o1,cap1,rfl,hseg⟩;skip) | refine ab F F F (cx_pq _) F ?_ | refine ab F F F (du oM) F ?_ | refine ab F F F (cx_kq _) F ?_ | refine ab F F F (oQ oM) F ?_) | refine aw F F F ?_ | (refine al F F ?_ ?_;(focus ((first | rfl | (refine decide_eq_false ?_;(omega)) | (simp [*];done));done))) | (refine ac F (by first | rfl | assumption) ?_) | (refine ad F (by first | rfl | assumption) ?_))
        all_goals refine jZ (vs:=[_,_]) F ⟨aF F F F F,F,trivial⟩ F ⟨hle,F,?_⟩
        all_goals exact ⟨default,false,F,by rw [hno];rfl⟩
    · rw [decide_eq_false hsg,Bool.false_and] at hst
      have hno : bN s 82 = none:=by rw [hall,if_neg fun h=>by rw [(h.2.2 rfl).2] at hst;cases hst]
      refine jB [(0,_),(1,_)] Tryz.func165 Tryz.ntmps165 fun B hok hB hW=>?_
      repeat' (first | refine jR ?_ | (refine jo ?_;first | refine jL fun _=>?_ | refine jV (ao F) ?_ | refine jV (am F F) ?_ | refine jC F F F ?_ | refine jV (aQ F F oM) ?_ | refine ak F ?_ | refine jV (aG F F aS F F) ?_ | refine aE F ?_ | refine aq F ?_ | refine ab F F F cx_cut F ?_ | (refine aM F F F cx_split F ?_;rintro _ G hle ⟨b1,o1,cap1,rfl,hseg⟩;skip) | refine ab F F F (cx_pq _) F ?_ | refine ab F F F (du oM) F ?_ | refine ab F F F (cx_kq _) F ?_) | (refine aw F F (by first | rfl | (refine decide_eq_true ?_;(assumption))) ?_) | (refine al F F (by first | rfl | (refine decide_eq_false ?_;(omega))) ?_) | refine ac F F ?_ | (refine ad F (by first | rfl | assumption) ?_))
      all_goals refine jZ (vs:=[_,_]) F ⟨aF F F F F,F,trivial⟩ F ⟨hle,F,?_⟩
      all_goals exact ⟨default,false,F,by rw [hno];rfl⟩
theorem sC {s : act} {k : Nat} (h : s.length ≤ 1000) : bx acs 165 [S s,U8 k] G (o3 s k):=by
 by_cases hk : k = 69
 ·subst hk
  by_cases h2 : (a7 58 (aC 61 s).1).length = 2
  ·match e : a7 58 (aC 61 s).1,h2 with
   | [a,b],_=>exact rN h e
  ·exact mj h (by simpa using h2)
 ·by_cases h3 : (a7 58 (aC 61 s).1).length = 3
  ·match e : a7 58 (aC 61 s).1,h3 with
   | [a,b,c],_=>exact rM h hk e
  ·exact mj h (by simpa [hk] using h3)
theorem jl {s : act} {xs : List act} {k : Nat} (n : Nat) (h : s.length ≤ 100000000) (e : a7 k s = xs) (hn : xs.length = n) (h0 : 0 < n) :
  cx acs 82 [S s,U8 k] G [] (fun v L'=>∃ b cap,v = .slice (some ⟨b,0,none⟩) n cap ∧ L' = [.acc (.slice (some ⟨b,0,none⟩) n cap) kg 1 n (iw xs)]):=by
 subst hn;subst e
 refine (tD (G:=G) (k:=k) h).mono ?_
 rintro v G' L' ⟨h1,h2,h3⟩
 obtain ⟨b,cap,rfl⟩:=h3.pos oM
 exact ⟨h1,b,cap,F,h2⟩
theorem rO {s : act} {top m : Int} (h : s.length ≤ 100000000) (e : aL s top = some m) : av acs 86 [S s,I top] G (· = Tu [I m,Bo true]):=by
 refine (gZ (G:=G) (top:=top) h).mono ?_
 rintro v G' L' ⟨h1,h2,n,rfl,h3⟩
 exact ⟨h1,h2,by rw [e,h3 m e];rfl⟩
abbrev kG (s : act) (k : Nat) (v : Value) : Prop:=∃ f ok,v = Tu [Ag (gU f),Bo ok] ∧ bN s k = if ok then some f else none
theorem wL {s : act} {k : Nat} (h : (a7 58 s).length ≠ 2) (h' : (a7 58 s).length ≠ 3) : bN s k = none:=by
 unfold bN
 split
 ·rename_i e;rw [e] at h;simp at h
 ·rename_i e;rw [e] at h';simp at h'
 ·rfl
theorem pB {s : act} {k : Nat} (h : s.length ≤ 1000) (e : (a7 58 s).length ≠ 2) (e' : (a7 58 s).length ≠ 3) : av acs 192 [S s,U8 k] G (kG s k):=by
 have e0 : 0 < (a7 58 s).length:=dS
 generalize hn : (a7 58 s).length = n at *
 have cx_cut1:=jl (G:=G) (k:=58) n oM rfl hn e0
 have hno : bN s k = none:=wL oM oM
 refine jE [(0,_),(1,_)] Tryz.func192 Tryz.ntmps192 fun B hB=>?_
 repeat' (first | refine jR ?_ | (refine jo ?_;first | refine jL fun _=>?_ | refine jV (ao F) ?_ | refine aE F ?_ | refine aq F ?_ | refine jV (am F F) ?_ | refine jC F F F ?_ | (refine dq F F F cx_cut1 F ?_;rintro _ _ ⟨b1,cap1,rfl,rfl⟩;dsimp only [zA,fA])) | refine aw F F (ar oM) ?_ | refine dA F F (fun _=>?_) (fun _=>?_) | (refine ac F (by first | rfl | (refine decide_eq_true ?_;(omega))) ?_))
 all_goals refine jZ (vs:=[_,_]) F ⟨aF F F F F,F,trivial⟩ F ⟨F,F,?_⟩
 all_goals exact ⟨default,false,F,by rw [hno];rfl⟩
theorem pA {s a b : act} {k : Nat} (h : s.length ≤ 1000) (e : a7 58 s = [a,b]) : av acs 192 [S s,U8 k] G (kG s k):=by
 have ha : a.length ≤ 1000:=Nat.le_trans (di (k:=58) (s:=s) (by rw [e];simp)) h
 have hb : b.length ≤ 1000:=Nat.le_trans (di (k:=58) (s:=s) (by rw [e];simp)) h
 have cx_cut1:=jl (G:=G) (k:=58) 2 oM e rfl oM
 by_cases hk : k = 69
 case neg =>
  have hno : bN s k = none:=by unfold bN;rw [e];simp [hk]
  refine jE [(0,_),(1,_)] Tryz.func192 Tryz.ntmps192 fun B hB=>?_
  repeat' (first | refine jR ?_ | (refine jo ?_;first | refine jL fun _=>?_ | refine jV (ao F) ?_ | refine aE F ?_ | refine jV (am F F) ?_ | refine jC F F F ?_ | (refine dq F F F cx_cut1 F ?_;rintro _ _ ⟨b1,cap1,rfl,rfl⟩;dsimp only [zA,fA])) | (refine aw F F (by first | rfl | (refine decide_eq_true ?_;(omega))) ?_) | refine ac F F ?_)
  all_goals refine jZ (vs:=[_,_]) F ⟨aF F F F F,F,trivial⟩ F ⟨F,F,?_⟩
  all_goals exact ⟨default,false,F,by rw [hno];rfl⟩
 subst hk
 rcases hm : aL a 200 with _ | m
 ·have hno : bN s 69 = none:=by unfold bN;rw [e];simp [hm]
  refine jE [(0,_),(1,_)] Tryz.func192 Tryz.ntmps192 fun B hB=>?_
  repeat' (first | refine jR ?_ | (refine jo ?_;first | refine jL fun _=>?_ | refine jV (ao F) ?_ | refine aE F ?_ | refine aq F ?_ | refine jV (am F F) ?_ | refine jC F F F ?_ | refine jV (aQ F F oM) ?_ | refine jV (hZ F F F) ?_ | refine aV F ?_ | (refine dq F F F cx_cut1 F ?_;rintro _ _ ⟨b1,cap1,rfl,rfl⟩;dsimp only [zA,fA]) | (refine c8 F F F (gZ oM) F ?_;rintro _ ⟨n,rfl,hnum⟩)) | (refine aw F F ?_ ?_;(focus ((first | rfl | (simp [*];done));done))) | refine al F F F ?_ | refine ac F F ?_ | refine ad F F ?_)
  all_goals refine jZ (vs:=[_,_]) F ⟨aF F F F F,F,trivial⟩ F ⟨F,F,?_⟩
  all_goals exact ⟨⟨_,_,_,_⟩,false,F,by rw [hno];rfl⟩
 have cx_num:=rO (G:=G) oM hm
 have hyes : bN s 69 = if 1 ≤ m ∧ co b = true then some ⟨m,b,[],[]⟩ else none:=by unfold bN;rw [e];simp [hm]
 refine jE [(0,_),(1,_)] Tryz.func192 Tryz.ntmps192 fun B hB=>?_
 repeat' (first | refine jR ?_ | (refine jo ?_;first | refine jL fun _=>?_ | refine jV (ao F) ?_ | refine aE F ?_ | refine aq F ?_ | refine jV (am F F) ?_ | refine jC F F F ?_ | refine jV (aQ F F oM) ?_ | refine ak F ?_ | refine jV (hZ F F F) ?_ | refine aV F ?_ | (refine dq F F F cx_cut1 F ?_;rintro _ _ ⟨b1,cap1,rfl,rfl⟩;dsimp only [zA,fA]) | refine ab F F F cx_num F ?_ | refine ab F F F (fB oM) F ?_) | refine aw F F F ?_ | refine al F F F ?_ | refine dA F F (fun _=>?_) (fun _=>?_) | refine ac F F ?_ | refine ad F F ?_ | refine l4 F (fun _=>?_) (fun _=>?_))
 all_goals refine jZ (vs:=[_,_]) F ⟨aF F F F F,F,trivial⟩ F ⟨F,F,?_⟩
 all_goals first | exact ⟨⟨m,b,[],[]⟩,true,F,by rw [hyes];simp_all;try omega⟩ | exact ⟨⟨m,b,[],[]⟩,false,F,by rw [hyes];simp_all;try omega⟩
theorem oU {s a b c d f : act} {k : Nat} {m : Int} (h : s.length ≤ 1000) (e : a7 58 s = [a,b,c]) (hk : ¬ k = 69) (hm : aL a 200 = some m) (hg1 : 1 ≤ m) (hg2 : co b = true) (e2 : a7 61 c = [d,f]) : av acs 192 [S s,U8 k] G (kG s k):=by
 have ha : a.length ≤ 1000:=Nat.le_trans (di (k:=58) (s:=s) (by rw [e];simp)) h
 have hb : b.length ≤ 1000:=Nat.le_trans (di (k:=58) (s:=s) (by rw [e];simp)) h
 have hc : c.length ≤ 1000:=Nat.le_trans (di (k:=58) (s:=s) (by rw [e];simp)) h
 have cx_cut1:=jl (G:=G) (k:=58) 3 oM e rfl oM
 have cx_num:=rO (G:=G) oM hm
 have hyes : bN s k = if k = 82 ∧ bG d f = true then some ⟨m,b,d,f⟩ else none:=by
  unfold bN;rw [e];simp [hm,hg1,hg2,hk,e2]
 have hd : d.length ≤ 1000:=Nat.le_trans (di (k:=61) (s:=c) (by rw [e2];simp)) hc
 have hf : f.length ≤ 1000:=Nat.le_trans (di (k:=61) (s:=c) (by rw [e2];simp)) hc
 have cx_cut2:=jl (G:=G) (k:=61) 2 oM e2 rfl oM
 by_cases h82 : k = 82
 ·have h83 : (k : Int) = 82:=oM
  refine jE [(0,_),(1,_)] Tryz.func192 Tryz.ntmps192 fun B hB=>?_
  repeat' (first | refine jR ?_ | (refine jo ?_;first | refine jL fun _=>?_ | refine jV (ao F) ?_ | refine aE F ?_ | refine aq F ?_ | refine jV (am F F) ?_ | refine jD F F F ?_ | refine jC F F F ?_ | refine jV (aQ F F oM) ?_ | refine ak F ?_ | refine jV (hZ F F F) ?_ | (refine dq F F F cx_cut1 F ?_;rintro _ _ ⟨b1,cap1,rfl,rfl⟩;dsimp only [zA,fA]) | (refine dq F F F cx_cut2 F ?_;rintro _ _ ⟨b2,cap2,rfl,rfl⟩;dsimp only [zA,fA]) | refine ab F F F cx_num F ?_ | refine ab F F F (fB oM) F ?_) | refine aw F F F ?_ | (refine al F F (by first | rfl | (refine decide_eq_false ?_;(omega))) ?_) | refine ac F F ?_ | (refine ad F ?_ ?_;(focus ((first | (refine decide_eq_false ?_;(omega)) | (simp [*];done));done))) | (refine aj (dV (id:=14) (tt:=4) F ai ?_);refine jW 9 [1,2,3] (aa 12 14) ?_;(try (refine Nx.re (d:=76) (v':=Bo true) F (congrArg Value.bool (ar ‹_›)) ?_));refine jW 7 [4,6] (aa 12 94) ?_;(refine jG (aa 12 95) 0 F (bJ F F F F) ?_);(refine jG (aa 12 127) 5 F (aA F F F) ?_);(refine jG (aa 12 255) 7 F (aA F F F) ?_);((refine jA 8 F ?_;(refine ab F F F (vQ oM) F ?_);refine jK (aa 12 511) ?_));((refine jG (aa 12 1023) 9 F (bB F F ?_) ?_;(focus ((rfl);done))));refine jA 10 F ?_;(refine jC F F F ?_);refine jK (aa 12 2047) ?_;refine jW 0 [11] (aa 12 4095) ?_;refine jQ ?_))
  all_goals refine jZ (vs:=[_,_]) F ⟨aF F F F F,F,trivial⟩ F ⟨F,F,?_⟩
  all_goals exact ⟨⟨m,b,d,f⟩,bG d f,F,by rw [hyes];simp [h82]⟩
 ·have h83 : ¬ (k : Int) = 82:=oM
  refine jE [(0,_),(1,_)] Tryz.func192 Tryz.ntmps192 fun B hB=>?_
  repeat' (first | refine jR ?_ | (refine jo ?_;first | refine jL fun _=>?_ | refine jV (ao F) ?_ | refine aE F ?_ | refine aq F ?_ | refine jV (am F F) ?_ | refine jD F F F ?_ | refine jC F F F ?_ | refine jV (aQ F F oM) ?_ | refine ak F ?_ | refine jV (hZ F F F) ?_ | (refine dq F F F cx_cut1 F ?_;rintro _ _ ⟨b1,cap1,rfl,rfl⟩;dsimp only [zA,fA]) | (refine dq F F F cx_cut2 F ?_;rintro _ _ ⟨b2,cap2,rfl,rfl⟩;dsimp only [zA,fA]) | refine ab F F F cx_num F ?_ | refine ab F F F (fB oM) F ?_) | refine aw F F F ?_ | (refine al F F (by first | rfl | (refine decide_eq_false ?_;(omega))) ?_) | refine ac F F ?_ | (refine ad F ?_ ?_;(focus ((first | (refine decide_eq_false ?_;(omega)) | (simp [*];done));done))) | (refine aj (dV (id:=14) (tt:=4) F ai ?_);refine jW 9 [1,2,3] (aa 12 14) ?_;(try (refine Nx.re (d:=76) (v':=Bo false) F (congrArg Value.bool (ay ‹_›)) ?_));refine jW 7 [4,6] (aa 12 94) ?_;(refine jG (aa 12 95) 0 F (bJ F F F F) ?_);(refine jN (aa 12 127) 5 F ?_);(refine jN (aa 12 255) 7 F ?_);(refine jN (aa 12 511) 8 F ?_);((refine jG (aa 12 1023) 9 F (be F F ?_) ?_;(focus ((rfl);done))));refine jA 10 F ?_;(refine jC F F F ?_);refine jK (aa 12 2047) ?_;refine jW 0 [11] (aa 12 4095) ?_;refine jQ ?_))
  all_goals refine jZ (vs:=[_,_]) F ⟨aF F F F F,F,trivial⟩ F ⟨F,F,?_⟩
  all_goals exact ⟨⟨m,b,d,f⟩,false,F,by rw [hyes];simp [h82]⟩
theorem pz {s a b c : act} {k : Nat} (h : s.length ≤ 1000) (e : a7 58 s = [a,b,c]) : av acs 192 [S s,U8 k] G (kG s k):=by
 have ha : a.length ≤ 1000:=Nat.le_trans (di (k:=58) (s:=s) (by rw [e];simp)) h
 have hb : b.length ≤ 1000:=Nat.le_trans (di (k:=58) (s:=s) (by rw [e];simp)) h
 have hc : c.length ≤ 1000:=Nat.le_trans (di (k:=58) (s:=s) (by rw [e];simp)) h
 have cx_cut1:=jl (G:=G) (k:=58) 3 oM e rfl oM
 by_cases hk : k = 69
 case pos =>
  subst hk
  have hno : bN s 69 = none:=by unfold bN;rw [e];simp
  refine jE [(0,_),(1,_)] Tryz.func192 Tryz.ntmps192 fun B hB=>?_
  repeat' (first | refine jR ?_ | (refine jo ?_;first | refine jL fun _=>?_ | refine jV (ao F) ?_ | refine aE F ?_ | refine aq F ?_ | refine jV (am F F) ?_ | refine jC F F F ?_ | (refine dq F F F cx_cut1 F ?_;rintro _ _ ⟨b1,cap1,rfl,rfl⟩;dsimp only [zA,fA])) | refine aw F F F ?_ | refine al F F F ?_ | refine ac F F ?_)
  all_goals refine jZ (vs:=[_,_]) F ⟨aF F F F F,F,trivial⟩ F ⟨F,F,?_⟩
  all_goals exact ⟨default,false,F,by rw [hno];rfl⟩
 rcases hm : aL a 200 with _ | m
 ·have hno : bN s k = none:=by unfold bN;rw [e];simp [hm]
  refine jE [(0,_),(1,_)] Tryz.func192 Tryz.ntmps192 fun B hB=>?_
  repeat' (first | refine jR ?_ | (refine jo ?_;first | refine jL fun _=>?_ | refine jV (ao F) ?_ | refine aE F ?_ | refine aq F ?_ | refine jV (am F F) ?_ | refine jC F F F ?_ | refine jV (aQ F F oM) ?_ | refine jV (hZ F F F) ?_ | refine aV F ?_ | (refine dq F F F cx_cut1 F ?_;rintro _ _ ⟨b1,cap1,rfl,rfl⟩;dsimp only [zA,fA]) | (refine c8 F F F (gZ oM) F ?_;rintro _ ⟨n,rfl,hnum⟩)) | (refine aw F F ?_ ?_;(focus ((first | rfl | (simp [*];done));done))) | refine al F F F ?_ | refine ac F F ?_ | refine ad F (ay oM) ?_)
  all_goals refine jZ (vs:=[_,_]) F ⟨aF F F F F,F,trivial⟩ F ⟨F,F,?_⟩
  all_goals exact ⟨⟨_,_,_,_⟩,false,F,by rw [hno];rfl⟩
 have cx_num:=rO (G:=G) oM hm
 by_cases hg : 1 ≤ m ∧ co b = true
 case neg =>
  have hno : bN s k = none:=by unfold bN;rw [e];simp [hm,hg]
  have hg' : m < 1 ∨ co b = false:=by
   by_cases h1 : m < 1
   ·exact .inl h1
   ·cases hb2 : co b with
    | false=>exact .inr F
    | true=>exact absurd ⟨oM,hb2⟩ hg
  rcases hg' with hg' | hg'
  all_goals refine jE [(0,_),(1,_)] Tryz.func192 Tryz.ntmps192 fun B hB=>?_
  all_goals repeat' (first | refine jR ?_ | (refine jo ?_;first | refine jL fun _=>?_ | refine jV (ao F) ?_ | refine aE F ?_ | refine aq F ?_ | refine jV (am F F) ?_ | refine jC F F F ?_ | refine jV (aQ F F oM) ?_ | refine ak F ?_ | refine jV (hZ F F F) ?_ | refine aV F ?_ | (refine dq F F F cx_cut1 F ?_;rintro _ _ ⟨b1,cap1,rfl,rfl⟩;dsimp only [zA,fA]) | refine ab F F F cx_num F ?_ | refine ab F F F (fB oM) F ?_) | (refine aw F F (by first | rfl | (refine decide_eq_true ?_;(assumption))) ?_) | refine al F F F ?_ | refine dA F F (fun _=>?_) (fun _=>?_) | (refine ac F ?_ ?_;(focus ((first | rfl | (simp [*];done));done))) | refine ad F (ay oM) ?_)
  all_goals refine jZ (vs:=[_,_]) F ⟨aF F F F F,F,trivial⟩ F ⟨F,F,?_⟩
  all_goals exact ⟨⟨_,_,_,_⟩,false,F,by rw [hno];rfl⟩
 obtain ⟨hg1,hg2⟩:=hg
 have hyes : bN s k = match a7 61 c with
  | [d]=>if bw d = true then some ⟨m,b,d,[]⟩ else none
  | [d,e]=>if k = 82 ∧ bG d e = true then some ⟨m,b,d,e⟩ else none
  | _=>none:=by
  unfold bN;rw [e];simp only [hm,hg1,hg2,hk,if_false,if_true,and_self] <;> rfl
 have hp : 0 < (a7 61 c).length:=dS
 match e2 : a7 61 c,hp with
 | [d],_ =>
  rw [e2] at hyes
  have cx_cut2:=jl (G:=G) (k:=61) 1 oM e2 rfl oM
  refine jE [(0,_),(1,_)] Tryz.func192 Tryz.ntmps192 fun B hB=>?_
  repeat' (first | refine jR ?_ | (refine jo ?_;first | refine jL fun _=>?_ | refine jV (ao F) ?_ | refine aE F ?_ | refine aq F ?_ | refine jV (am F F) ?_ | refine jD F F F ?_ | refine jC F F F ?_ | refine jV (aD F F oM) ?_ | refine jV (aQ F F oM) ?_ | refine ak F ?_ | refine jV (hZ F F F) ?_ | (refine dq F F F cx_cut1 F ?_;rintro _ _ ⟨b1,cap1,rfl,rfl⟩;dsimp only [zA,fA]) | (refine dq F F F cx_cut2 F ?_;rintro _ _ ⟨b2,cap2,rfl,rfl⟩;dsimp only [zA,fA]) | refine ab F F F cx_num F ?_ | refine ab F F F (fB oM) F ?_) | refine aw F F F ?_ | (refine al F F (by first | rfl | (refine decide_eq_false ?_;(omega))) ?_) | (refine ad F ?_ ?_;(focus ((first | rfl | (refine decide_eq_false ?_;(omega)) | (simp [*];done));done))) | (refine aj (dV (id:=15) (tt:=4) F ai ?_);refine jW 10 [1] (aa 11 2) ?_;(refine jG (aa 11 3) 0 F (bJ F F F F) ?_);(refine jG (aa 11 7) 2 F (ao F) ?_);refine jW 6 [3,4] (aa 11 31) ?_;(try (refine Nx.re (d:=87) (v':=Bo true) F (congrArg Value.bool F) ?_));refine jW 5 [5] (aa 11 63) ?_;(refine jG (aa 11 127) 6 F (aA F F F) ?_);(refine jA 7 F ?_;(refine ab F F F mo F ?_);refine jK (aa 11 255) ?_);((refine jG (aa 11 511) 8 F (bB F F ?_) ?_;(focus ((rfl);done))));refine jA 9 F ?_;(refine jC F F F ?_);refine jK (aa 11 1023) ?_;refine jW 0 [10] (aa 11 2047) ?_;refine jQ ?_))
  all_goals refine jZ (vs:=[_,_]) F ⟨aF F F F F,F,trivial⟩ F ⟨F,F,?_⟩
  all_goals exact ⟨⟨m,b,d,[]⟩,bw d,F,hyes⟩
 | [d,f],_=>exact oU h e hk hm hg1 hg2 e2
 | d :: f :: g :: r,_ =>
  rw [e2] at hyes
  have cx_cut2:=jl (G:=G) (k:=61) (r.length + 3) oM e2 (by simp) oM
  refine jE [(0,_),(1,_)] Tryz.func192 Tryz.ntmps192 fun B hB=>?_
  repeat' (first | refine jR ?_ | (refine jo ?_;first | refine jL fun _=>?_ | refine jV (ao F) ?_ | refine aE F ?_ | refine aq F ?_ | refine jV (am F F) ?_ | refine jD F F F ?_ | refine jC F F F ?_ | refine jV (aD F F oM) ?_ | refine jV (aQ F F oM) ?_ | refine ak F ?_ | refine jV (hZ F F F) ?_ | (refine dq F F F cx_cut1 F ?_;rintro _ _ ⟨b1,cap1,rfl,rfl⟩;dsimp only [zA,fA]) | (refine dq F F F cx_cut2 F ?_;rintro _ _ ⟨b2,cap2,rfl,rfl⟩;dsimp only [zA,fA]) | refine ab F F F cx_num F ?_ | refine ab F F F (fB oM) F ?_) | refine aw F F F ?_ | (refine al F F (by first | rfl | (refine decide_eq_false ?_;(omega))) ?_) | (refine ad F ?_ ?_;(focus ((first | rfl | (refine decide_eq_false ?_;(omega)) | (simp [*];done));done))) | (refine aj (dV (id:=15) (tt:=4) F ai ?_);refine jW 10 [1] (aa 11 2) ?_;(refine jG (aa 11 3) 0 F (bJ F F F F) ?_);(refine jG (aa 11 7) 2 F (ao F) ?_);refine jW 6 [3,4] (aa 11 31) ?_;(try (refine Nx.re (d:=87) (v':=Bo false) F (congrArg Value.bool F) ?_));refine jW 5 [5] (aa 11 63) ?_;(refine jN (aa 11 127) 6 F ?_);(refine jN (aa 11 255) 7 F ?_);((refine jG (aa 11 511) 8 F (be F F ?_) ?_;(focus ((rfl);done))));refine jA 9 F ?_;(refine jC F F F ?_);refine jK (aa 11 1023) ?_;refine jW 0 [10] (aa 11 2047) ?_;refine jQ ?_))
  all_goals refine jZ (vs:=[_,_]) F ⟨aF F F F F,F,trivial⟩ F ⟨F,F,?_⟩
  all_goals exact ⟨⟨m,b,d,[]⟩,false,F,hyes⟩
theorem lG {s : act} {k : Nat} (h : s.length ≤ 1000) : av acs 192 [S s,U8 k] G (kG s k):=by
 by_cases h2 : (a7 58 s).length = 2
 ·match e : a7 58 s,h2 with
  | [a,b],_=>exact pA h e
 by_cases h3 : (a7 58 s).length = 3
 ·match e : a7 58 s,h3 with
  | [a,b,c],_=>exact pz h e
 exact pB h h2 h3
theorem rT {s : act} {k : Nat} (h : s.length ≤ 100000000) : bx acs 82 [S s,U8 k] G (fun v G'=>a8 G' v 1 (a7 k s).length (aI dE (a7 k s))):=by
 refine cx.shutP ((tD (G:=G) (k:=k) h).mono ?_)
 rintro v G' L' ⟨h1,h2,_⟩
 exact ⟨h1,v,_,_,_,_,h2,fun G' _ h3=>by rw [← uR];exact h3⟩
abbrev tV : TypeId:=150
abbrev pF : TypeId:=146
def aaU (s : act) (v : Value) (G : Gh) : Prop:=∃ fv t ok,v = Tu [Ag [U8 (t : Ty).sort,S t.name,fv],Bo ok] ∧ (c0 s = if ok = true then some t else none) ∧ a8 G fv 4 t.fields.length (aI gU t.fields)
theorem a8.nil0 {G : Gh} {sz : Nat} : a8 G aH sz 0 []:=⟨by simp,.inl ⟨rfl,rfl⟩⟩
theorem rA {α : Type} [Inhabited α] {xs : List α} {i : Nat} (h : i < xs.length) : xs.drop i = ae xs i :: xs.drop (i + 1):=by rw [aU h];exact (List.getElem_cons_drop (h:=h)).symm
theorem qr.sl {v : Value} {m : Nat} (h : qr v m) : ∃ a cap,v = .slice a m cap:=by
 rcases h with ⟨rfl,rfl⟩ | ⟨b,cap,rfl,_⟩
 ·exact ⟨none,0,F⟩
 ·exact ⟨_,cap,F⟩
theorem kH {c : UInt8} {r : act} (h : (aC 61 r).2.2 = false) : c0 (c :: r) = none:=by
 unfold c0
 split
 ·rfl
 ·rename_i h1;cases h1
  split
  ·rename_i h2;rw [h2] at h;cases h
  ·rfl
theorem my {c : UInt8} {r name rest : act} (h : aC 61 r = (name, rest, true)) : c0 (c :: r) = if co name = true ∧ d8 c.toNat then
        if rest = [] then (if c.toNat = 82 then some ⟨82,name,[]⟩ else none)
        else match cW c.toNat (a7 44 rest) [] with
          | some fs=>if fs.length ≤ 8 then some ⟨c.toNat,name,fs⟩ else none
          | none=>none
      else none:=by
  unfold c0
  simp only [h];rfl
theorem rS {s : act} (h : s.length ≤ 1000) : bx acs 155 [S s] G (aaU s):=by
  refine jB [(0,_)] Tryz.func155 Tryz.ntmps155 fun B hok hB hW=>?_
  repeat' (first | refine jR ?_ | (refine jo ?_;refine jL fun _=>?_))
  rename_i x
  refine aR (ι:=Nat) (fun i=>i ≤ s.length ∧ ∀ k,k < i → bt s k ≠ 61) (fun i=>[(0,S s),(2,Pt x 0),(4,I i)]) (fun _=>G) (fun i=>[.blk x (.cells [U8 0,S [],aH].toArray pF (0,0))]) (fun i=>s.length - i) 0 ?_ tU F aW (fun i Hi=>?_)
  · exact ⟨oM,fun k hk=>absurd hk oM⟩
  by_cases hi : i < s.length ∧ bt s i ≠ 61
  · repeat' (first | refine jM ?_ | (refine jo ?_;refine aE F ?_) | refine aw F F (ar oM) ?_ | (refine ac F ?_ ?_;(focus ((simp;omega);done))))
    refine aY (i + 1) ⟨oM,fun k hk=>?_⟩ oM tU F aW
    rcases Nat.lt_or_ge k i with h3 | h3
    · exact Hi.2 k h3
    · have : k = i:=oM
      subst this;exact hi.2
  rcases Nat.lt_or_ge i s.length with hlt | hge
  case inr =>
    have hno : c0 s = none:=by
      match s,Hi,hge with
      | [],_,_=>rfl
      | c :: r,Hi,hge =>
        refine kH ?_
        rw [pw fun j hj=>by have:=Hi.2 (j + 1) (by simp at hge;omega);rwa [dT] at this]
    repeat' (first | refine jR ?_ | (refine jo ?_;first | refine aE F ?_ | refine aq F ?_ | refine jV (am F F) ?_ | refine jC F F F ?_) | refine al F F (ay oM) ?_ | refine dA F F (fun _=>?_) (fun _=>?_) | (refine ac F (by first | rfl | (refine decide_eq_true ?_;(omega))) ?_) | refine ad F F ?_)
    all_goals refine jZ (vs:=[_,_]) F ⟨aF F F F F,F,trivial⟩ F ⟨Gh.le.refl _,F,?_⟩
    all_goals exact ⟨aH,default,false,F,by rw [hno];rfl,a8.nil0⟩
  have h61 : bt s i = 61:=by
    rcases Nat.lt_or_ge (bt s i) 61 with h1 | h1
    · exact absurd ⟨hlt,oM⟩ hi
    · rcases Nat.lt_or_ge 61 (bt s i) with h2 | h2
      · exact absurd ⟨hlt,oM⟩ hi
      · omega
  match s,i,Hi,hlt,h61,h with
  | c :: r,0,Hi,hlt,h61,h =>
    have hno : c0 (c :: r) = none:=by
      rw [bh] at h61
      cases ht : (aC 61 r).2.2 with
      | false=>exact kH ht
      | true =>
        rw [my (c:=c) (r:=r) (name:=(aC 61 r).1) (rest:=(aC 61 r).2.1) (by rw [← ht])]
        rw [if_neg]
        rintro ⟨_,h2⟩
        unfold d8 at h2;omega
    have h62 : bt (c :: r) ((0 : Nat) : Int).toNat = 61:=h61
    repeat' (first | refine jM ?_ | (refine jo ?_;first | refine aE F ?_ | refine jV (am F F) ?_ | refine jC F F F ?_) | (refine aw F F (by first | rfl | (refine decide_eq_true ?_;(omega))) ?_) | refine ac F F ?_ | refine ad F (ay oM) ?_)
    all_goals refine jZ (vs:=[_,_]) F ⟨aF F F F F,F,trivial⟩ F ⟨Gh.le.refl _,F,?_⟩
    all_goals exact ⟨aH,default,false,F,by rw [hno];rfl,a8.nil0⟩
  | c :: r,j + 1,Hi,hlt,h61,h =>
    have hj : j < r.length:=by simpa using hlt
    have hcut1 : aC 61 r = (r.take j,r.drop (j + 1),true):=mH hj (fun k hk=>by have:=Hi.2 (k + 1) oM;rwa [dT] at this) (by rwa [dT] at h61)
    have hty:=my (c:=c) hcut1
    have h62 : bt (c :: r) ((j + 1 : Nat) : Int).toNat = 61:=h61
    have e0 : bt (c :: r) (Int.toNat 0) = c.toNat:=bh c r
    have hnl : (r.take j).length ≤ 1000:=by simp at h ⊢;omega
    have cx_nm:=fB (G:=G) (s:=r.take j) oM
    by_cases hg : co (r.take j) = true ∧ d8 c.toNat
    case neg =>
      have hno : c0 (c :: r) = none:=by rw [hty,if_neg hg]
      by_cases hn : co (r.take j) = true
      · have hn2 : (!co (r.take j)) = false:=by rw [hn];rfl
        have hns : ¬ d8 c.toNat:=fun h=>hg ⟨hn,h⟩
        unfold d8 at hns
        repeat' (first | refine jM ?_ | (refine jo ?_;first | refine aE F ?_ | refine aq F ?_ | refine jC F F F ?_ | refine ak F ?_ | refine aV F ?_ | refine ab F F F cx_nm F ?_) | refine aw F F (ar oM) ?_ | (refine al F F (by first | rfl | assumption) ?_) | refine ac F (ar oM) ?_ | refine ad F (ay oM) ?_ | (refine aj (an (id:=6) _ (fun _ h=>h) ai ?_);refine jW 3 [0,1,2,3,4] (aa 8 31) ?_;(refine jG (aa 8 63) 5 F (am F F) ?_);refine jA 6 F ?_;(refine jL fun _=>?_);refine jK (aa 8 127) ?_;refine jA 7 F ?_;(refine jC F F F ?_);refine jK (aa 8 255) ?_;refine jQ ?_))
        all_goals refine jZ (vs:=[_,_]) F ⟨aF F F F F,F,trivial⟩ F ⟨Gh.le.refl _,F,?_⟩
        all_goals exact ⟨aH,⟨_,_,[]⟩,false,F,by rw [hno];rfl,a8.nil0⟩
      · have hn2 : (!co (r.take j)) = true:=by simpa using hn
        repeat' (first | refine jM ?_ | (refine jo ?_;first | refine aE F ?_ | refine aq F ?_ | refine jC F F F ?_ | refine ak F ?_ | refine aV F ?_ | refine ab F F F cx_nm F ?_) | (refine aw F F (by first | assumption | (refine decide_eq_true ?_;(omega))) ?_) | refine al F F F ?_ | refine ac F F ?_ | refine ad F (ay oM) ?_ | (refine aj (an (id:=6) _ (fun _ h=>h) ai ?_);refine jW 3 [0,1,2,3,4] (aa 8 31) ?_;(refine jG (aa 8 63) 5 F (am F F) ?_);refine jA 6 F ?_;(refine jL fun _=>?_);refine jK (aa 8 127) ?_;refine jA 7 F ?_;(refine jC F F F ?_);refine jK (aa 8 255) ?_;refine jQ ?_))
        all_goals refine jZ (vs:=[_,_]) F ⟨aF F F F F,F,trivial⟩ F ⟨Gh.le.refl _,F,?_⟩
        all_goals exact ⟨aH,⟨_,_,[]⟩,false,F,by rw [hno];rfl,a8.nil0⟩
    have hn2 : (!co (r.take j)) = false:=by rw [hg.1];rfl
    have hs2:=hg.2
    unfold d8 at hs2
    rw [if_pos hg] at hty
    by_cases hrest : r.drop (j + 1) = []
    · rw [if_pos hrest] at hty
      by_cases h82 : c.toNat = 82
      · rw [if_pos h82] at hty
        have e82 : bt (c :: r) (Int.toNat 0) = 82:=oM
        repeat' (first | refine jM ?_ | (refine jo ?_;first | refine aE F ?_ | refine aq F ?_ | refine ak F ?_ | refine ab F F F cx_nm F ?_) | refine aw F F (ar oM) ?_ | (refine al F F (by first | rfl | assumption | (refine decide_eq_false ?_;(omega))) ?_) | refine ac F (ar ‹_›) ?_ | (refine ad F (by first | rfl | (refine decide_eq_false ?_;(omega))) ?_) | (refine aj (an (id:=6) _ (fun _ h=>h) ai ?_);refine jW 3 [0,1,2,3,4] (aa 8 31) ?_;(refine jG (aa 8 63) 5 F (am F F) ?_);refine jA 6 F ?_;(refine jL fun _=>?_);refine jK (aa 8 127) ?_;refine jA 7 F ?_;(refine jC F F F ?_);refine jK (aa 8 255) ?_;refine jQ ?_) | (refine aj (dV (id:=10) (tt:=2) F ai ?_);refine jW 5 [1] (aa 6 2) ?_;(refine jG (aa 6 3) 0 F (bJ F F F F) ?_);(refine jG (aa 6 7) 2 F (aA F F F) ?_);refine jW 2 [3] (aa 6 15) ?_;refine jA 4 F ?_;(refine jC F F F ?_);refine jK (aa 6 31) ?_;refine jW 0 [5] (aa 6 63) ?_;refine jQ ?_))
        all_goals refine jZ (vs:=[_,_]) F ⟨aF F F F F,F,trivial⟩ F ⟨Gh.le.refl _,F,?_⟩
        all_goals refine ⟨aH,⟨82,r.take j,[]⟩,true,?_,hty,a8.nil0⟩
        all_goals show Tu [Ag [U8 (bt (c :: r) (Int.toNat 0) : Nat),S (r.take j),aH],Bo (decide (((bt (c :: r) (Int.toNat 0) : Nat) : Int) = 82))] = _
        all_goals (rw [e82];rfl)
      · rw [if_neg h82] at hty
        have e82 : ¬ bt (c :: r) (Int.toNat 0) = 82:=oM
        have e83 : decide (((bt (c :: r) (Int.toNat 0) : Nat) : Int) = 82) = false:=decide_eq_false oM
        repeat' (first | refine jM ?_ | (refine jo ?_;first | refine aE F ?_ | refine aq F ?_ | refine ak F ?_ | refine ab F F F cx_nm F ?_) | refine aw F F (ar oM) ?_ | (refine al F F (by first | rfl | assumption) ?_) | refine dA F F (fun _=>?_) (fun _=>?_) | refine ac F (ar ‹_›) ?_ | (refine ad F (by first | rfl | (refine decide_eq_false ?_;(omega))) ?_) | (refine aj (an (id:=6) _ (fun _ h=>h) ai ?_);refine jW 3 [0,1,2,3,4] (aa 8 31) ?_;(refine jG (aa 8 63) 5 F (am F F) ?_);refine jA 6 F ?_;(refine jL fun _=>?_);refine jK (aa 8 127) ?_;refine jA 7 F ?_;(refine jC F F F ?_);refine jK (aa 8 255) ?_;refine jQ ?_) | (refine aj (dV (id:=10) (tt:=2) F ai ?_);refine jW 5 [1] (aa 6 2) ?_;(refine jG (aa 6 3) 0 F (bJ F F F F) ?_);(refine jG (aa 6 7) 2 F (aA F F F) ?_);refine jW 2 [3] (aa 6 15) ?_;refine jA 4 F ?_;(refine jC F F F ?_);refine jK (aa 6 31) ?_;refine jW 0 [5] (aa 6 63) ?_;refine jQ ?_))
        all_goals refine jZ (vs:=[_,_]) F ⟨aF F F F F,F,trivial⟩ F ⟨Gh.le.refl _,F,?_⟩
        all_goals refine ⟨aH,⟨bt (c :: r) (Int.toNat 0),r.take j,[]⟩,false,?_,hty,a8.nil0⟩
        all_goals show Tu [Ag [U8 (bt (c :: r) (Int.toNat 0) : Nat),S (r.take j),aH],Bo (decide (((bt (c :: r) (Int.toNat 0) : Nat) : Int) = 82))] = _
        all_goals (rw [e83])
    rw [if_neg hrest] at hty
    have hrl : (r.drop (j + 1)).length ≤ 1000:=by simp at h ⊢;omega
    have hcl:=j4 (k:=44) (s:=r.drop (j + 1))
    have cx_cutS:=rT (G:=G) (s:=r.drop (j + 1)) (k:=44) oM
    have hall : ∀ y ∈ a7 44 (r.drop (j + 1)),y.length ≤ 1000:=fun y hy=>Nat.le_trans (di hy) hrl
    generalize hxs : a7 44 (r.drop (j + 1)) = xs at *
    rcases hs2 with h1 | h1 | h1
    all_goals repeat' (first | refine jM ?_ | (refine jo ?_;first | refine aE F ?_ | refine aq F ?_ | refine ak F ?_ | refine ab F F F cx_nm F ?_ | (refine aM F F F cx_cutS F ?_;rintro _ G hle hcut;skip)) | refine aw F F (ar oM) ?_ | (refine al F F (by first | rfl | assumption | (refine decide_eq_false ?_;(omega))) ?_) | (refine ad F (by first | rfl | (refine decide_eq_false ?_;first | assumption | omega)) ?_) | (refine aj (an (id:=6) _ (fun _ h=>h) ai ?_);refine jW 3 [0,1,2,3,4] (aa 8 31) ?_;(refine jG (aa 8 63) 5 F (am F F) ?_);refine jA 6 F ?_;(refine jL fun _=>?_);refine jK (aa 8 127) ?_;refine jA 7 F ?_;(refine jC F F F ?_);refine jK (aa 8 255) ?_;refine jQ ?_))
    all_goals rename_i y v
    all_goals refine Nx.addNil tV 4 ?_
    all_goals refine aR (ι:=Value × List Fld × Nat) (fun i=>i.2.2 ≤ xs.length ∧ i.2.1.length ≤ i.2.2 ∧ cW c.toNat (xs.drop i.2.2) i.2.1 = cW c.toNat xs []) (fun i=>[(2,Pt x 0),(5,Pt y 0),(6,v),(7,I i.2.2)]) (fun _=>G) (fun i=>[.acc i.1 tV 4 i.2.1.length (aI gU i.2.1),.blk y (.cells [U8 (bt (c :: r) (Int.toNat 0) : Nat),S (r.take j),i.1].toArray pF (0,0)),.blk x (.cells [U8 0,S [],aH].toArray pF (0,0))]) (fun i=>xs.length - i.2.2) (aH,[],0) ?_ tU F aW (fun i Hi=>?_)
    all_goals (first | exact ⟨Nat.zero_le _,Nat.le_refl _,F⟩ | skip)
    all_goals obtain ⟨u,fs,i⟩:=i
    all_goals dsimp only at Hi ⊢
    all_goals obtain ⟨hi1,hi2,hi3⟩:=Hi
    all_goals refine Nx.shp (v:=u) (.head _) fun hsh=>?_
    all_goals (have hsh2:=hsh;obtain ⟨au,cu,rfl⟩:=hsh.sl)
    all_goals by_cases hix : i < xs.length
    all_goals try (rw [rA hix,cW] at hi3;obtain ⟨bv,ov,cv,rfl,hsv⟩:=hcut.expl oM;have hx:=hall _ (bR hix))
    all_goals repeat' (first | refine jR ?_ | (refine jo ?_;first | refine jC F F F ?_ | refine aV F ?_ | refine jV (ao F) ?_ | refine jV (fu F aS) ?_) | refine ac F (ar oM) ?_ | refine ad F (ay oM) ?_ | refine l4 F (fun _=>?_) (fun _=>?_) | (refine aj (an (id:=15) _ (fun _ h=>h) ai ?_);refine jT 10 [0,1,4] (aa 13 19) ?_;(refine jG (aa 13 23) 2 F (aD F F oM) ?_);((refine jG (aa 13 31) 3 F (ii F F aS ?_) ?_;focus omega));(refine jG (aa 13 63) 5 F (aA F F F) ?_);refine cy [6,10] kR dC ⟨?_,?_,trivial⟩;(focus (refine a9 F F ?_;(refine c8 F F F (lG oM) F ?_;rintro _ ⟨f,ok,rfl,hfld⟩);refine jK (aa 13 127) ?_;refine jW 3 [7,8,9] (aa 13 1023) ?_;refine jA 10 F ?_;(refine jL fun _=>?_);refine jK (aa 13 2047) ?_;refine jA 11 F ?_;(refine jC F F F ?_);refine jK (aa 13 4095) ?_;refine jW 0 [12] (aa 13 8191) ?_;refine jQ ?_));rotate_left 1;(focus (refine a9 F F ?_;(refine jL fun _=>?_);refine jK (aa 13 1087) ?_;refine jA 6 F ?_;(refine c8 F F F (lG oM) F ?_;rintro _ ⟨f,ok,rfl,hfld⟩);refine jK (aa 13 1151) ?_;refine jW 2 [7,8,9] (aa 13 2047) ?_;refine jA 11 F ?_;(refine jC F F F ?_);refine jK (aa 13 4095) ?_;refine jW 0 [12] (aa 13 8191) ?_;refine jQ ?_));rotate_left 1) | (refine aj (dV (id:=24) (tt:=2) F ai ?_);refine jW 6 [1] (aa 7 2) ?_;(refine jG (aa 7 3) 0 F (bJ F F F F) ?_);(refine jG (aa 7 7) 2 F (aA F F F) ?_);(refine jG (aa 7 15) 3 F (ao F) ?_);refine jW 2 [4] (aa 7 31) ?_;refine jA 5 F ?_;(refine jC F F F ?_);refine jK (aa 7 63) ?_;refine jW 0 [6] (aa 7 127) ?_;refine jQ ?_))
    all_goals first
      | (rename_i z hq
         have hq2 : ok = false:=by simpa using hq
         subst hq2
         have hf0 : bN (ae xs i) c.toNat = none:=hfld
         have hno : c0 (c :: r) = none:=by rw [hf0] at hi3;rw [hty,← hi3]
         refine Nx.sealS (v:=.slice au fs.length cu) fun G' hle2 hsl=>?_
         refine jZ (vs:=[_,_]) F ⟨aF F F F F,F,trivial⟩ F ⟨hle.trans hle2,F,?_⟩
         exact ⟨.slice au fs.length cu,⟨bt (c :: r) (Int.toNat 0),r.take j,fs⟩,false,F,by rw [hno];rfl,hsl⟩)
      | (have ei : i = xs.length:=oM
         have hyes : c0 (c :: r) = if fs.length ≤ 8 then some ⟨c.toNat,r.take j,fs⟩ else none:=by
           rw [ei,List.drop_length,cW] at hi3
           rw [hty,← hi3]
         refine Nx.sealS (v:=.slice au fs.length cu) fun G' hle2 hsl=>?_
         refine jZ (vs:=[_,_]) F ⟨aF F F F F,F,trivial⟩ F ⟨hle.trans hle2,F,?_⟩
         refine ⟨.slice au fs.length cu,⟨c.toNat,r.take j,fs⟩,decide (fs.length ≤ 8),?_,by rw [hyes];simp,hsl⟩
         rw [dK,e0]
         refine congrArg (fun x=>Tu [_,Bo x]) (decide_eq_decide.2 ?_)
         omega)
      | (rename_i z hq
         have hq2 : ok = true:=by simpa using hq
         subst hq2
         have hf1 : bN (ae xs i) c.toNat = some f:=hfld
         rw [hf1] at hi3
         dsimp only at hi3
         refine aR (ι:=Nat) (fun k=>k ≤ fs.length ∧ ∀ m,m < k → (ae fs m).tag < f.tag ∧ (ae fs m).name ≠ f.name) (fun k=>[(2,Pt x 0),(5,Pt y 0),(6,.slice (some ⟨bv,ov,none⟩) xs.length cv),(7,I i),(8,Pt z 0),(10,I k)]) (fun _=>G) (fun k=>[.blk z (.cells (gU f).toArray tV (0,0)),.acc (.slice au fs.length cu) tV 4 fs.length (aI gU fs),.blk y (.cells [U8 (bt (c :: r) (Int.toNat 0) : Nat),S (r.take j),.slice au fs.length cu].toArray pF (0,0)),.blk x (.cells [U8 0,S [],aH].toArray pF (0,0))]) (fun k=>fs.length - k) 0 ?_ tU F aW (fun k Hk=>?_)
         · exact ⟨Nat.zero_le _,fun m hm=>absurd hm oM⟩
         by_cases hk : k < fs.length
         · obtain ⟨bu,cu2,eu⟩:=hsh2.pos oM
           simp only [Value.slice.injEq] at eu
           obtain ⟨rfl,-,rfl⟩:=eu
           by_cases hbad : (ae fs k).tag < f.tag ∧ (ae fs k).name ≠ f.name
           · obtain ⟨hb1,hb2⟩:=hbad
             repeat' (first | refine jM ?_ | (refine jo ?_;first | refine ak F ?_ | refine jV (ao F) ?_) | refine ac F (ar oM) ?_ | refine ad F (ay ‹_›) ?_ | (refine aj (an (id:=21) _ (fun _ h=>h) ai ?_);refine jT 17 [0,2,6] (aa 20 69) ?_;(refine jG (aa 20 71) 1 F (aA F F F) ?_);(refine jG (aa 20 79) 3 F (aD F F oM) ?_);refine jT 14 [4] (aa 20 95) ?_;(refine jG (aa 20 127) 5 F (mG F F F oM F F) ?_);(refine jG (aa 20 255) 7 F (aA F F F) ?_);refine jT 10 [8,9] (aa 20 1023) ?_;(try ((refine Nx.re (d:=107) (v':=Bo false) F (congrArg Value.bool (ay oM)) ?_)));refine jT 7 [10,12,16] (aa 20 71679) ?_;(refine jG (aa 20 73727) 11 F (aA F F F) ?_);(refine jG (aa 20 81919) 13 F (aD F F oM) ?_);refine jT 4 [14] (aa 20 98303) ?_;(refine jG (aa 20 131071) 15 F (mG F F F oM F F) ?_);(refine jG (aa 20 262143) 17 F (aA F F F) ?_);refine jT 1 [18] (aa 20 524287) ?_;(refine jG (aa 20 1048575) 19 F (be F F F) ?_);refine jQ ?_))
             refine aY (k + 1) ⟨oM,fun m hm=>?_⟩ oM tU F aW
             rcases Nat.lt_or_ge m k with h3 | h3
             · exact Hk.2 m h3
             · have : m = k:=oM
               subst this;exact ⟨hb1,hb2⟩
           · have hfr : fresh f fs = false:=by
               unfold fresh
               rw [List.all_eq_false]
               exact ⟨ae fs k,bR hk,by simpa using hbad⟩
             have hno : c0 (c :: r) = none:=by
               rw [hfr,if_neg (by simp)] at hi3
               rw [hty,← hi3]
             by_cases htag : f.tag ≤ (ae fs k).tag
             case' neg => have hnm : (ae fs k).name = f.name := by
                           by_cases h6 : (ae fs k).name = f.name
                           · exact h6
                           · exact absurd ⟨oM,h6⟩ hbad
             all_goals repeat' (first | refine jR ?_ | (refine jo ?_;first | refine jC F F F ?_ | refine ak F ?_ | refine aV F ?_ | refine jV (ao F) ?_) | (refine ac F (by first | rfl | (refine decide_eq_true ?_;first | assumption | omega)) ?_) | (refine aj (an (id:=21) _ (fun _ h=>h) ai ?_);refine jT 17 [0,2,6] (aa 20 69) ?_;(refine jG (aa 20 71) 1 F (aA F F F) ?_);(refine jG (aa 20 79) 3 F (aD F F oM) ?_);refine jT 14 [4] (aa 20 95) ?_;(refine jG (aa 20 127) 5 F (mG F F F oM F F) ?_);(refine jG (aa 20 255) 7 F (aA F F F) ?_);refine jT 10 [8,9] (aa 20 1023) ?_;(try (first | (refine Nx.re (d:=107) (v':=Bo true) F (congrArg Value.bool (ar ‹_›)) ?_) | (refine Nx.re (d:=107) (v':=Bo false) F (congrArg Value.bool (ay ‹_›)) ?_)));refine jT 7 [10,12,16] (aa 20 71679) ?_;(first | refine jG (aa 20 73727) 11 F (aA F F F) ?_ | refine jN (aa 20 73727) 11 F ?_);(first | refine jG (aa 20 81919) 13 F (aD F F oM) ?_ | refine jN (aa 20 81919) 13 F ?_);refine jT 4 [14] (aa 20 98303) ?_;(first | refine jG (aa 20 131071) 15 F (mG F F F oM F F) ?_ | refine jN (aa 20 131071) 15 F ?_);(first | refine jG (aa 20 262143) 17 F (aA F F F) ?_ | refine jN (aa 20 262143) 17 F ?_);refine jT 1 [18] (aa 20 524287) ?_;(first | refine jG (aa 20 1048575) 19 F (bB F F F) ?_ | refine jG (aa 20 1048575) 19 F (be F F F) ?_);refine jQ ?_))
             all_goals refine Nx.sealS (v:=.slice (some ⟨bu,0,none⟩) fs.length cu) fun G' hle2 hsl=>?_
             all_goals refine jZ (vs:=[_,_]) F ⟨aF F F F F,F,trivial⟩ F ⟨hle.trans hle2,F,?_⟩
             all_goals exact ⟨.slice (some ⟨bu,0,none⟩) fs.length cu,⟨bt (c :: r) (Int.toNat 0),r.take j,fs⟩,false,F,by rw [hno];rfl,hsl⟩
         · have hfr : fresh f fs = true:=by
             unfold fresh
             rw [List.all_eq_true]
             intro g hg
             obtain ⟨m,hm,rfl⟩:=mF hg
             simpa using Hk.2 m oM
           rw [hfr,if_pos rfl] at hi3
           have hxl : xs.length ≤ 1001:=oM
           repeat' (first | refine jR ?_ | (refine jo ?_;first | refine ak F ?_ | refine aV F ?_ | refine jV (ao F) ?_ | refine jF fun _=>?_ | refine mJ F F F F F F F F oM fun _=>?_) | refine ad F (ay oM) ?_)
           rename_i u2
           refine Nx.shp (v:=u2) (.head _) fun hs4=>?_
           obtain ⟨a4,c4,rfl⟩:=hs4.sl
           repeat' (first | refine jM ?_ | (refine jo ?_;refine jD F F F ?_))
           refine aY (.slice a4 (fs.length + 1) c4,fs ++ [f],i + 1) ⟨by dsimp only;omega,by simp;omega,hi3⟩ (by dsimp only;omega) tU rfl (by dsimp only;simp only [cl,List.length_append,List.length_cons,List.length_nil,Nat.zero_add];repeat (first | exact List.Sublist.refl _ | apply List.Sublist.cons_cons | apply List.Sublist.cons)))
def ir (G : Gh) (b : Nat) (t : Ty) : Prop:=∃ fv ln,cM G b 0 [U8 t.sort,S t.name,fv,S ln] ∧ a8 G fv 6 t.fields.length (aI je t.fields)
theorem ir.mono {G G' : Gh} {b : Nat} {t : Ty} (h : ir G b t) (hl : Gh.le G G') : ir G' b t:=by
 obtain ⟨fv,ln,h1,h2⟩:=h
 exact ⟨fv,ln,h1.mono hl,h2.mono hl⟩
def aaV (s : act) (v : Value) (G : Gh) : Prop:=(c0 s = none ∧ ∃ p,v = Tu [p,Bo false]) ∨ ∃ b t,v = Tu [Pt b 0,Bo true] ∧ c0 s = some t ∧ ir G b t
abbrev uQ : TypeId:=167
abbrev tTi : TypeId:=165
theorem ma {k : Nat} : ∀ {xs : List act} {fs gs : List Fld},cW k xs fs = some gs → gs.length = fs.length + xs.length
 | [],fs,gs,h=>by simp only [cW,Option.some.injEq] at h;subst h;simp
 | x :: xs,fs,gs,h=>by
  unfold cW at h
  split at h
  ·cases h
  ·split at h
   ·have:=ma h;simp at this ⊢;omega
   ·cases h
theorem rue (c : UInt8) : decide (0 ≤ fe c.toNat [82,85,69]) = decide (d8 c.toNat):=by
 have h : ∀ n : Nat,n < 256 → decide (0 ≤ fe n [82,85,69]) = decide (d8 n):=by decide +kernel
 exact h _ c.toNat_lt
theorem oR {s : act} (h : s.length ≤ 1000) : bx acs 127 [S s] G (aaV s):=by
  match s,h with
  | [],h =>
    refine jB [(0,_)] Tryz.func127 Tryz.ntmps127 fun B hok hB hW=>?_
    repeat' (first | refine jR ?_ | (refine jo ?_;refine aE F ?_) | refine aw F F F ?_ | refine ac F F ?_)
    all_goals refine jZ (vs:=[_,_]) F ⟨F,F,trivial⟩ F ⟨Gh.le.refl _,F,?_⟩
    all_goals exact .inl ⟨F,_,F⟩
  | c :: r,h =>
    have cx_cont : av acs 164 [S [82,85,69],S [c]] G (· = Bo (decide (d8 c.toNat))):=by rw [← rue];exact uD
    by_cases hs : d8 c.toNat
    case neg =>
      have hno : c0 (c :: r) = none:=by
        cases ht : (aC 61 r).2.2 with
        | false=>exact kH ht
        | true=>rw [my (c:=c) (r:=r) (name:=(aC 61 r).1) (rest:=(aC 61 r).2.1) (by rw [← ht]),if_neg fun h=>hs h.2]
      have hs2 : (!decide (d8 c.toNat)) = true:=by simpa using hs
      refine jB [(0,_)] Tryz.func127 Tryz.ntmps127 fun B hok hB hW=>?_
      repeat' (first | refine jX ?_ | (refine jo ?_;first | refine aq F ?_ | refine ab F F F cx_cont F ?_) | refine al F F F ?_ | refine ac F ‹_› ?_)
      all_goals refine jZ (vs:=[_,_]) F ⟨F,F,trivial⟩ F ⟨Gh.le.refl _,F,?_⟩
      all_goals exact .inl ⟨hno,_,F⟩
    have hs2 : (!decide (d8 c.toNat)) = false:=by simpa using hs
    have hcl:=jf (k:=61) (s:=r)
    have hrl : r.length ≤ 1000:=by simp at h;omega
    have cx_cut : av acs 126 [S r,S [61]] G (· = Tu [S (aC 61 r).1,S (aC 61 r).2.1,Bo (aC 61 r).2.2]):=oX (c:=61) oM
    cases ht : (aC 61 r).2.2 with
    | false =>
      rw [ht] at cx_cut
      refine jB [(0,_)] Tryz.func127 Tryz.ntmps127 fun B hok hB hW=>?_
      repeat' (first | refine jX ?_ | (refine jo ?_;first | refine aE F ?_ | refine aq F ?_ | refine ab F F F cx_cont F ?_ | refine ab F F F cx_cut F ?_) | refine aw F F F ?_ | refine al F F F ?_ | refine ac F F ?_ | refine ad F ‹_› ?_)
      all_goals refine jZ (vs:=[_,_]) F ⟨F,F,trivial⟩ F ⟨Gh.le.refl _,F,?_⟩
      all_goals exact .inl ⟨kH ht,_,F⟩
    | true =>
      have hty:=my (c:=c) (r:=r) (name:=(aC 61 r).1) (rest:=(aC 61 r).2.1) (by rw [← ht])
      rw [ht] at cx_cut
      generalize (aC 61 r).1 = name at *
      generalize (aC 61 r).2.1 = rest at *
      have e0 : bt (c :: r) (Int.toNat 0) = c.toNat:=bh c r
      by_cases hn : co name = true
      case neg =>
        have hn2 : (!co name) = true:=by simpa using hn
        have hno : c0 (c :: r) = none:=by rw [hty,if_neg fun h=>hn h.1]
        refine jB [(0,_)] Tryz.func127 Tryz.ntmps127 fun B hok hB hW=>?_
        repeat' (first | refine jX ?_ | (refine jo ?_;first | refine aq F ?_ | refine ab F F F cx_cont F ?_ | refine ab F F F cx_cut F ?_ | refine ab F F F (du oM) F ?_) | refine al F F F ?_ | refine ac F ‹_› ?_ | refine ad F ‹_› ?_)
        all_goals refine jZ (vs:=[_,_]) F ⟨F,F,trivial⟩ F ⟨Gh.le.refl _,F,?_⟩
        all_goals exact .inl ⟨hno,_,F⟩
      have hn2 : (!co name) = false:=by rw [hn];rfl
      rw [if_pos ⟨hn,hs⟩] at hty
      by_cases hr : rest = []
      · rw [if_pos hr] at hty
        by_cases h82 : c.toNat = 82
        · rw [if_pos h82] at hty
          have e82 : bt (c :: r) (Int.toNat 0) = 82:=oM
          refine jB [(0,_)] Tryz.func127 Tryz.ntmps127 fun B hok hB hW=>?_
          repeat' (first | refine jX ?_ | (refine jo ?_;first | refine aq F ?_ | refine jV (am F F) ?_ | refine jO fun _=>?_ | refine ab F F F cx_cont F ?_ | refine ab F F F cx_cut F ?_ | refine ab F F F (du oM) F ?_) | refine al F F F ?_ | refine ac F (ar ‹_›) ?_ | refine ad F ‹_› ?_ | (refine aj (an (id:=8) _ (fun _ h=>h) ai ?_);refine jT 3 [0,1,2,3,6] (aa 8 79) ?_;(refine jG (aa 8 95) 4 F (aA F F F) ?_);refine jT 0 [5,7] (aa 8 255) ?_;refine jQ ?_))
          rename_i x
          refine Nx.sealC (b:=x) fun G' hle hseg=>?_
          refine jZ (vs:=[_,_]) F ⟨F,F,trivial⟩ F ⟨hle,F,?_⟩
          rw [e82] at hseg
          refine .inr ⟨x,⟨82,name,[]⟩,?_,hty,_,_,hseg,a8.nil0⟩
          show Tu [Pt x 0,Bo (decide (((bt (c :: r) (Int.toNat 0) : Nat) : Int) = 82))] = _
          rw [e82];rfl
        · rw [if_neg h82] at hty
          have e82 : ¬ bt (c :: r) (Int.toNat 0) = 82:=oM
          refine jB [(0,_)] Tryz.func127 Tryz.ntmps127 fun B hok hB hW=>?_
          repeat' (first | refine jX ?_ | (refine jo ?_;first | refine aq F ?_ | refine jV (am F F) ?_ | refine jO fun _=>?_ | refine ab F F F cx_cont F ?_ | refine ab F F F cx_cut F ?_ | refine ab F F F (du oM) F ?_) | refine al F F F ?_ | refine ac F (ar ‹_›) ?_ | refine ad F ‹_› ?_ | (refine aj (an (id:=8) _ (fun _ h=>h) ai ?_);refine jT 3 [0,1,2,3,6] (aa 8 79) ?_;(refine jG (aa 8 95) 4 F (aA F F F) ?_);refine jT 0 [5,7] (aa 8 255) ?_;refine jQ ?_))
          all_goals refine jZ (vs:=[_,_]) F ⟨F,F,trivial⟩ F ⟨Gh.le.refl _,F,?_⟩
          all_goals exact .inl ⟨hty,_,by rw [dK,decide_eq_false (show ¬ ((bt (c :: r) (Int.toNat 0) : Nat) : Int) = 82 by omega)]⟩
      · rw [if_neg hr] at hty
        have hall : ∀ y ∈ a7 44 rest,y.length ≤ 1000:=fun y hy=>Nat.le_trans (di hy) oM
        have hcnt:=j4 (k:=44) (s:=rest)
        have cx_split : bx acs 97 [S rest,S [44]] G (fun v G'=>∃ b o cap,v = .slice (some ⟨b,o,none⟩) (a7 44 rest).length cap ∧ cM G' b o (aI dE (a7 44 rest))):=lm (c:=44) _ oM rfl rfl rfl dS
        generalize a7 44 rest = xs at *
        refine jB [(0,_)] Tryz.func127 Tryz.ntmps127 fun B hok hB hW=>?_
        repeat' (first | refine jX ?_ | (refine jo ?_;first | refine aq F ?_ | refine jV (am F F) ?_ | refine jO fun _=>?_ | refine jV (ao F) ?_ | refine ab F F F cx_cont F ?_ | refine ab F F F cx_cut F ?_ | refine ab F F F (du oM) F ?_ | (refine aM F F F cx_split F ?_;rintro _ G hle ⟨b1,o1,cap1,rfl,hseg⟩;skip)) | refine al F F F ?_ | (refine ad F (by first | assumption | (refine decide_eq_false ?_;(assumption))) ?_))
        rename_i x
        have hle0:=hle
        refine Nx.addNil uQ 6 ?_
        refine aR (ι:=Value × List Fld × Nat × Gh) (fun i=>((i.2.2.1 ≤ xs.length ∧ i.2.1.length ≤ i.2.2.1) ∧ i.2.1.length ≤ 8) ∧ cW c.toNat (xs.drop i.2.2.1) i.2.1 = cW c.toNat xs [] ∧ Gh.le G i.2.2.2) (fun i=>[(7,Pt x 0),(51,.slice (some ⟨b1,o1,none⟩) xs.length cap1),(52,I xs.length),(53,I i.2.2.1)]) (fun i=>i.2.2.2) (fun i=>[.acc i.1 uQ 6 i.2.1.length (aI je i.2.1),.blk x (.cells [U8 (bt (c :: r) (Int.toNat 0) : Nat),S name,i.1,S (c :: r)].toArray tTi (0,0))]) (fun i=>xs.length - i.2.2.1) (aH,[],0,G) ?_ tU F aW (fun i Hi=>?_)
        · exact ⟨⟨⟨Nat.zero_le _,Nat.le_refl _⟩,by simp⟩,F,Gh.le.refl _⟩
        obtain ⟨u,fs,i,Gk⟩:=i
        dsimp only at Hi ⊢
        obtain ⟨⟨⟨hi1,hi2⟩,hi8⟩,hi3,hgk⟩:=Hi
        have hsk:=hseg.mono hgk
        refine Nx.shp (v:=u) (.head _) fun hsh=>?_
        have hsh2:=hsh
        obtain ⟨au,cu,rfl⟩:=hsh.sl
        by_cases hix : i < xs.length
        case neg =>
          have ei : i = xs.length:=oM
          rw [ei,List.drop_length,cW] at hi3
          have hyes : c0 (c :: r) = some ⟨c.toNat,name,fs⟩:=by rw [hty,← hi3];exact if_pos hi8
          repeat' (first | refine jR ?_ | refine ad F (ay oM) ?_)
          refine Nx.sealS (v:=.slice au fs.length cu) fun G1 hle1 hsl=>?_
          refine Nx.sealC (b:=x) fun G2 hle2 hsg2=>?_
          refine jZ (vs:=[_,_]) F ⟨F,F,trivial⟩ F ⟨((hle.trans hgk).trans hle1).trans hle2,F,?_⟩
          exact .inr ⟨x,⟨c.toNat,name,fs⟩,F,hyes,_,_,hsg2,hsl.mono hle2⟩
        rw [rA hix,cW] at hi3
        have hx:=hall _ (bR hix)
        repeat' (first | refine jR ?_ | (refine jo ?_;first | refine aE F ?_ | refine aq F ?_ | refine ak F ?_ | (refine jV (ii F F aS ?_) ?_;focus omega) | refine jV (ao F) ?_ | refine jV (aD F F oM) ?_ | refine jL fun _=>?_ | refine jC F F F ?_ | (refine aM F F F (sC oM) F ?_;rintro _ G hle ⟨f,ok,rfl,hfld⟩;skip)) | refine kq F F (fun _=>?_) (fun _=>?_) | (refine ac F (by first | rfl | (refine decide_eq_true ?_;(omega))) ?_) | refine cR F (fun _=>?_) (fun _=>?_))
        all_goals first
          | (rename_i z hq h8
             have hq2 : ok = true:=by simpa using hq
             subst hq2
             have hf1 : bN (ae xs i) c.toNat = some f:=hfld
             rw [hf1] at hi3
             dsimp only at hi3
             have h9 : fs.length = 8:=oM
             have hno : c0 (c :: r) = none:=by
               rw [hty]
               cases hgs : cW c.toNat xs [] with
               | none=>rfl
               | some gs =>
                 rw [hgs] at hi3
                 split at hi3
                 · have:=ma hi3
                   simp at this
                   exact if_neg oM
                 · cases hi3
             refine jZ (vs:=[_,_]) F ⟨F,F,trivial⟩ F ⟨(hle0.trans hgk).trans hle,F,?_⟩
             exact .inl ⟨hno,_,F⟩)
          | (rename_i z hq
             have hq2 : ok = false:=by simpa using hq
             subst hq2
             have hf0 : bN (ae xs i) c.toNat = none:=hfld
             have hno : c0 (c :: r) = none:=by rw [hf0] at hi3;rw [hty,← hi3]
             refine jZ (vs:=[_,_]) F ⟨F,F,trivial⟩ F ⟨(hle0.trans hgk).trans hle,F,?_⟩
             exact .inl ⟨hno,_,F⟩)
          | (rename_i z hq h8
             have hq2 : ok = true:=by simpa using hq
             subst hq2
             have hf1 : bN (ae xs i) c.toNat = some f:=hfld
             rw [hf1] at hi3
             dsimp only at hi3
             have h9 : fs.length ≠ 8:=oM
             refine aR (ι:=Nat) (fun k=>k ≤ fs.length ∧ ∀ m,m < k → (ae fs m).tag < f.tag ∧ (ae fs m).name ≠ f.name) (fun k=>[(7,Pt x 0),(10,Pt z 0),(51,.slice (some ⟨b1,o1,none⟩) xs.length cap1),(52,I xs.length),(53,I i),(79,.slice au fs.length cu),(80,I fs.length),(81,I k)]) (fun _=>G) (fun k=>[.blk z (.cells (je f).toArray uQ (0,0)),.acc (.slice au fs.length cu) uQ 6 fs.length (aI je fs),.blk x (.cells [U8 (bt (c :: r) (Int.toNat 0) : Nat),S name,.slice au fs.length cu,S (c :: r)].toArray tTi (0,0))]) (fun k=>fs.length - k) 0 ?_ tU F aW (fun k Hk=>?_)
             · exact ⟨Nat.zero_le _,fun m hm=>absurd hm oM⟩
             by_cases hk : k < fs.length
             · obtain ⟨bu,cu2,eu⟩:=hsh2.pos oM
               simp only [Value.slice.injEq] at eu
               obtain ⟨rfl,-,rfl⟩:=eu
               by_cases hbad : (ae fs k).tag < f.tag ∧ (ae fs k).name ≠ f.name
               · obtain ⟨hb1,hb2⟩:=hbad
                 repeat' (first | refine jM ?_ | (refine jo ?_;first | refine aq F ?_ | refine ak F ?_ | refine jV (vg F F F oM) ?_ | refine jV (aD F F oM) ?_ | refine jL fun _=>?_ | refine jC F F F ?_) | refine al F F (ay ‹_›) ?_ | refine ac F (ar oM) ?_ | refine ad F (ay oM) ?_)
                 refine aY (k + 1) ⟨oM,fun m hm=>?_⟩ oM tU F sB
                 rcases Nat.lt_or_ge m k with h3 | h3
                 · exact Hk.2 m h3
                 · have : m = k:=oM
                   subst this;exact ⟨hb1,hb2⟩
               · have hfr : fresh f fs = false:=by
                   unfold fresh
                   rw [List.all_eq_false]
                   exact ⟨ae fs k,bR hk,by simpa using hbad⟩
                 have hno : c0 (c :: r) = none:=by
                   rw [hfr,if_neg (by simp)] at hi3
                   rw [hty,← hi3]
                 by_cases hnm : (ae fs k).name = f.name
                 case' neg => have htag : f.tag ≤ (ae fs k).tag := by
                               rcases Int.lt_or_le (ae fs k).tag f.tag with h6 | h6
                               · exact absurd ⟨h6,hnm⟩ hbad
                               · exact h6
                 all_goals repeat' (first | refine jR ?_ | (refine jo ?_;first | refine aE F ?_ | refine aq F ?_ | refine ak F ?_ | refine jV (vg F F F oM) ?_ | refine jV (aD F F oM) ?_ | refine jL fun _=>?_ | refine jC F F F ?_) | refine aw F F (ar ‹_›) ?_ | refine al F F (ay ‹_›) ?_ | (refine ac F (by first | rfl | (refine decide_eq_true ?_;first | assumption | omega)) ?_))
                 all_goals refine jZ (vs:=[_,_]) F ⟨F,F,trivial⟩ F ⟨(hle0.trans hgk).trans hle,F,?_⟩
                 all_goals exact .inl ⟨hno,_,F⟩
             · have hfr : fresh f fs = true:=by
                 unfold fresh
                 rw [List.all_eq_true]
                 intro g hg
                 obtain ⟨m,hm,rfl⟩:=mF hg
                 simpa using Hk.2 m oM
               rw [hfr,if_pos rfl] at hi3
               have hxl : xs.length ≤ 1001:=oM
               repeat' (first | refine jR ?_ | refine ad F (ay oM) ?_)
               (refine aj (an (id:=21) [.blk z (.cells (je f).toArray uQ (0,0))] (by intro y hy;simp only [List.mem_cons,List.not_mem_nil,or_false] at hy ⊢;simp [hy]) ai ?_);refine jW 7 [0,1,2,3] (aa 11 15) ?_;(refine jG (aa 11 47) 5 F (bJ F F F F) ?_);refine cy [4,6] kR dC ⟨?_,?_,trivial⟩;(focus (refine a9 F F ?_;(refine ak F ?_);refine jK (aa 11 63) ?_;refine jA 6 F ?_;(refine jF fun _=>?_);refine jK (aa 11 127) ?_;refine jA 7 F ?_;((refine cj F F F F F F F F F ?_ fun _ _=>?_;focus omega));refine jK (aa 11 255) ?_;refine jW 1 [8,9] (aa 11 1023) ?_;refine jA 10 F ?_;(refine jD F F F ?_);refine jK (aa 11 2047) ?_;refine jQ ?_));rotate_left 1;(focus (refine a9 F F ?_;(refine jF fun _=>?_);refine jK (aa 11 111) ?_;refine jA 4 F ?_;(refine ak F ?_);refine jK (aa 11 127) ?_;refine jA 7 F ?_;((refine cj F F F F F F F F F ?_ fun _ _=>?_;focus omega));refine jK (aa 11 255) ?_;refine jW 1 [8,9] (aa 11 1023) ?_;refine jA 10 F ?_;(refine jD F F F ?_);refine jK (aa 11 2047) ?_;refine jQ ?_));rotate_left 1)
               all_goals rename_i w b2 c2
               all_goals repeat' (refine jM ?_)
               all_goals refine aY (.slice (some ⟨b2,0,none⟩) (fs.length + 1) c2,fs ++ [f],i + 1,G) ⟨⟨⟨by dsimp only;omega,by simp;omega⟩,by simp;omega⟩,hi3,hgk.trans hle⟩ (by dsimp only;omega) tU rfl (by dsimp only;simp only [cl,List.length_append,List.length_cons,List.length_nil,Nat.zero_add];repeat (first | exact List.Sublist.refl _ | apply List.Sublist.cons_cons | apply List.Sublist.cons)))
abbrev bL:=(Option Addr × Nat) × Ty
def gf (x : bL) : Value:=.slice x.1.1 x.2.fields.length x.1.2
def iZ (x : bL) : List Value:=[U8 x.2.sort,S x.2.name,gf x]
instance : RowF iZ 3:=⟨fun _=>rfl⟩
def zT : bL:=((none,0),⟨0,[],[]⟩)
theorem a8.sl {G : Gh} {v : Value} {sz m : Nat} {xs : List Value} (h : a8 G v sz m xs) : ∃ a cap,v = .slice a m cap:=by
 obtain ⟨_,⟨rfl,rfl⟩ | ⟨b,o,cap,rfl,_⟩⟩:=h
 ·exact ⟨none,0,F⟩
 ·exact ⟨_,cap,F⟩
structure SchR (G : Gh) (u : Value) (vs : List bL) : Prop where
 sl : a8 G u 3 vs.length (aI iZ vs)
 fl : ∀ x ∈ vs,a8 G (gf x) 4 x.2.fields.length (aI gU x.2.fields)
theorem SchR.mono {G G' : Gh} {u : Value} {vs : List bL} (h : SchR G u vs) (hl : Gh.le G G') : SchR G' u vs:=⟨h.sl.mono hl,fun x hx=>(h.fl x hx).mono hl⟩
def af (vs : List bL) : List Ty:=vs.map (·.2)
def fj (vs : List bL) (n : act) : Option bL:=vs.find? fun x=>decide (x.2.name = n)
def dU (vs : List bL) (k : act) : Option bL:=(bE k).bind (fj vs)
theorem rr (vs : List bL) (n : act) : (fj vs n).map (·.2) = gB (af vs) n:=by
 unfold fj gB af
 induction vs with
 | nil=>rfl
 | cons x vs ih =>
  simp only [List.map_cons,List.find?_cons]
  split <;> simp_all
theorem vq {vs : List bL} {n : act} {x : bL} (h : fj vs n = some x) : x ∈ vs ∧ x.2.name = n:=by
 unfold fj at h
 exact ⟨List.mem_of_find?_eq_some h,by simpa using List.find?_some h⟩
theorem wM {vs : List bL} {n : act} {i : Nat} (hi : i < vs.length) (h : ∀ k,k < i → (ae vs k).2.name ≠ n) (h2 : (ae vs i).2.name = n) : fj vs n = some (ae vs i):=by
 unfold fj
 rw [List.find?_eq_some_iff_getElem]
 rw [aU hi] at h2 ⊢
 refine ⟨by simpa using h2,i,hi,F,fun j hj=>?_⟩
 have:=h j hj
 rw [aU oM] at this
 simpa using this
theorem um {vs : List bL} {n : act} (h : ∀ k,k < vs.length → (ae vs k).2.name ≠ n) : fj vs n = none:=by
 unfold fj
 rw [List.find?_eq_none]
 intro x hx
 obtain ⟨i,hi,rfl⟩:=List.mem_iff_getElem.1 hx
 have:=h i hi
 rw [aU hi] at this
 simpa using this
theorem rZ {u : Value} {vs : List bL} {n : act} (h : SchR G u vs) (hn : vs.length ≤ 1000000) : av acs 120 [u,S n] G (· = Tu [Ag (iZ ((fj vs n).getD zT)),Bo (fj vs n).isSome]):=by
 have hsl:=h.sl
 refine jE [(0,_),(1,_)] Tryz.func120 Tryz.ntmps120 fun B hB=>?_
 repeat' (first | refine jR ?_ | (refine jo ?_;refine jL fun _=>?_))
 rename_i x
 refine aR (ι:=Nat) (fun i=>i ≤ vs.length ∧ ∀ k,k < i → (ae vs k).2.name ≠ n) (fun i=>[(0,u),(1,S n),(4,Pt x 0),(6,I i)]) (fun _=>G) (fun i=>[.blk x (.cells [U8 0,S [],aH].toArray pF (0,0))]) (fun i=>vs.length - i) 0 ?_ tU F aW (fun i Hi=>?_)
 ·exact ⟨oM,fun k hk=>absurd hk oM⟩
 by_cases hi : i < vs.length
 ·obtain ⟨b,o,cap,rfl,hs⟩:=hsl.expl oM
  repeat' (first | refine jM ?_ | (refine jo ?_;first | refine jV (ao F) ?_ | refine jV (aD F F oM) ?_ | (refine jV (dD F F aS ?_) ?_;focus omega) | (refine jV (bY F F aS ?_ F F) ?_;focus omega) | refine jC F F F ?_) | refine ac F (ar oM) ?_ | refine cR F (fun _=>?_) (fun _=>?_))
  ·rename_i he
   refine jZ (vs:=[_,_]) F ⟨aF F F F F,F,trivial⟩ F ⟨F,F,?_⟩
   rw [wM hi Hi.2 he];rfl
  ·rename_i he
   refine aY (i + 1) ⟨oM,fun k hk=>?_⟩ oM tU F aW
   rcases Nat.lt_or_ge k i with h3 | h3
   ·exact Hi.2 k h3
   ·have : k = i:=oM
    subst this;exact he
 ·repeat' (first | refine jR ?_ | (refine jo ?_;first | refine jV (fu F aS) ?_ | refine jC F F F ?_ | refine jV (am F F) ?_) | refine ad F (ay oM) ?_)
  refine jZ (vs:=[_,_]) F ⟨aF F F F F,F,trivial⟩ F ⟨F,F,?_⟩
  rw [um fun k hk=>Hi.2 k oM];rfl
theorem lv {s : act} (h : dX s = true) (hl : s.length ≤ 1000000) : av acs 118 [S s] G (· = Tu [S ((bE s).getD []),Bo (bE s).isSome]):=by
 match s,h with
 | c :: r,h =>
  by_cases hr : r = []
  ·have hc : ¬ c.toNat = 64:=by
    intro hc
    subst hr
    rw [dX,if_neg oM,if_pos hc] at h
    simp [bh,hc] at h
   have e0:=lA c r
   have hq : bE (c :: r) = none:=by simp [bE,hc]
   rw [hq]
   refine jE [(0,_)] Tryz.func118 Tryz.ntmps118 fun B hB=>?_
   repeat' (first | refine jX ?_ | (refine ac F ?_ ?_;(focus ((simp;omega);done))))
   all_goals refine jY (vs:=[_,_]) ?_
   all_goals rfl
  ·have:=yT (G:=G) (c:=c) hr (by simp at hl;omega)
   refine this.mono ?_
   rintro v G' L' ⟨h1,h2,h3⟩
   refine ⟨h1,h2,h3.trans ?_⟩
   by_cases hc : c.toNat = 64 <;> simp [bE,hc]
theorem gE {u : Value} {vs : List bL} {k : act} (h : SchR G u vs) (hn : vs.length ≤ 1000000) (hk : dX k = true) (hl : k.length ≤ 1000000) : av acs 160 [u,S k] G (· = Tu [Ag (iZ ((dU vs k).getD zT)),Bo (dU vs k).isSome]):=by
 rcases hr : bE k with _ | n
 ·have e : dU vs k = none:=by simp [dU,hr]
  rw [e]
  have cx_ref : av acs 118 [S k] G (· = Tu [S [],Bo false]):=by have:=lv (G:=G) hk hl;rwa [hr] at this
  refine jE [(0,_),(1,_)] Tryz.func160 Tryz.ntmps160 fun B hB=>?_
  repeat' (first | refine jR ?_ | (refine jo ?_;first | refine jL fun _=>?_ | refine jV (am F F) ?_ | refine jC F F F ?_ | refine ab F F F cx_ref F ?_) | refine ac F F ?_)
  all_goals refine jZ (vs:=[_,_]) F ⟨aF F F F F,F,trivial⟩ F ⟨F,F,?_⟩
  all_goals rfl
 ·have e : dU vs k = fj vs n:=by simp [dU,hr]
  rw [e]
  have cx_ref : av acs 118 [S k] G (· = Tu [S n,Bo true]):=by have:=lv (G:=G) hk hl;rwa [hr] at this
  refine jE [(0,_),(1,_)] Tryz.func160 Tryz.ntmps160 fun B hB=>?_
  repeat' (first | refine jR ?_ | (refine jo ?_;first | refine jL fun _=>?_ | refine jC F F F ?_ | refine ab F F F cx_ref F ?_ | (refine ab F F F (rZ (by (repeat (assumption));done) oM) rfl ?_)) | refine ad F F ?_)
  all_goals refine jZ (vs:=[_,_]) F ⟨aF F F F F,F,trivial⟩ F ⟨F,F,?_⟩
  all_goals rfl
end Go.E
