/- Contracts and plain laws that the statement rests on, part 5. Conditions: as each says. -/
import Derived.Test.YtlkjjgmfhafnaaaGreatDoorT4
set_option linter.unusedVariables false
set_option linter.unusedSimpArgs false
namespace Go.E
set_option maxRecDepth 20000
set_option maxHeartbeats 2000000
open Go.Proofs
theorem gX {ts : List Ty} {k : adE} (h : aB ts k = true) : ∃ c r,k = c :: r:=by
 cases k with
 | nil=>unfold aB bC d9 at h;simp at h
 | cons c r=>exact ⟨c,r,F⟩
theorem aci {t : Ty} (hw : TyW t) (hs : t.sort ≠ 82) : t.fields.headD default ∈ t.fields:=by
 have:=hw.ne hs
 cases h : t.fields with
 | nil=>exact absurd h this
 | cons d r=>simp
theorem acy : a8 0 = [48]:=by rw [dP dC dC];decide
theorem lQ : V.out (.nd 110 (a8 0) 0 []) = [48]:=by rw [V.out];exact acy
theorem uY {ts : List Ty} (hw : SchW ts) : ∀ (n : Nat) {k : adE},aB ts k = true → (∀ t,aX ts k = some t → bR ts n t = true) → ∃ u,OfK ts k u ∧ u.out = cA ts (n + 1) k ∧ u.deep ≤ n + 1 ∧ u.out.length ≤ 30 * (n + 1) ∧ u.size ≤ 1:=by
 intro n
 induction n with
 | zero =>
  intro k hk he
  obtain ⟨c,r,rfl⟩:=gX hk
  unfold cA
  by_cases h91 : c.toNat = 91
  ·obtain rfl:=bn h91 dC
   exact ⟨_,.lst _ [] (by simp) (by simp),by rw [if_pos h91,V.out];rfl,by simp [V.deep,V.deeps],by rw [V.out];decide,by simp [V.size,cN,V.sizes]⟩
  by_cases h63 : c.toNat = 63
  ·obtain rfl:=bn h63 dC
   exact ⟨_,.non _,by rw [if_neg h91,if_pos h63,V.out];rfl,by simp [V.deep,V.deeps],by rw [V.out];decide,by simp [V.size,cN]⟩
  rw [if_neg h91,if_neg h63]
  cases hr : aX ts (c :: r) with
  | some t=>have:=he t hr;simp [bR] at this
  | none =>
   dsimp only
   rcases dK hk (by rintro (h | h) <;> contradiction) hr with e | e | e
   all_goals rw [e]
   ·exact ⟨_,.num [] 0 dC dC,by rw [lQ];decide,by simp [V.deep,V.deeps],by rw [lQ];decide,by simp [V.size,cN]⟩
   ·exact ⟨_,.txt [] [] dC,by rw [V.out];decide,by simp [V.deep,V.deeps],by rw [V.out];decide,by simp [V.size,cN]⟩
   ·exact ⟨_,.flg [] _ (.inr F),by rw [V.out];decide,by simp [V.deep,V.deeps],by rw [V.out];decide,by simp [V.size,cN]⟩
 | succ n ih =>
  intro k hk he
  obtain ⟨c,r,rfl⟩:=gX hk
  unfold cA
  by_cases h91 : c.toNat = 91
  ·obtain rfl:=bn h91 dC
   exact ⟨_,.lst _ [] (by simp) (by simp),by rw [if_pos h91,V.out];rfl,by simp [V.deep,V.deeps],by rw [V.out];simp [cO,V.outs,aO];omega,by simp [V.size,cN,V.sizes]⟩
  by_cases h63 : c.toNat = 63
  ·obtain rfl:=bn h63 dC
   exact ⟨_,.non _,by rw [if_neg h91,if_pos h63,V.out];rfl,by simp [V.deep,V.deeps],by rw [V.out];simp [cO];omega,by simp [V.size,cN]⟩
  rw [if_neg h91,if_neg h63]
  cases hr : aX ts (c :: r) with
  | none =>
   dsimp only
   rcases dK hk (by rintro (h | h) <;> contradiction) hr with e | e | e
   all_goals rw [e]
   ·exact ⟨_,.num [] 0 dC dC,by rw [lQ];decide,by simp [V.deep,V.deeps],by rw [lQ];simp;omega,by simp [V.size,cN]⟩
   ·exact ⟨_,.txt [] [] dC,by rw [V.out];decide,by simp [V.deep,V.deeps],by rw [V.out];simp [cO];omega,by simp [V.size,cN]⟩
   ·exact ⟨_,.flg [] _ (.inr F),by rw [V.out];decide,by simp [V.deep,V.deeps],by rw [V.out];simp [cO];omega,by simp [V.size,cN]⟩
  | some t =>
   have htm:=bi hr
   have htw:=hw.ty t htm
   dsimp only
   by_cases h82 : t.sort = 82
   ·rw [if_pos h82]
    exact ⟨_,.recd _ t [] hr h82 (by simp) (by simp) (by simp) (by simp),by rw [V.out];rfl,by simp [V.deep,V.deeps],by rw [V.out];simp [cO,V.outs,aO];omega,by simp [V.size,cN,V.sizes]⟩
   rw [if_neg h82]
   have hd:=aci htw h82
   have htg:=(htw.fld _ hd).tag
   have hdl:=gz (m:=tag0 t) (by unfold tag0;omega)
   by_cases h69 : t.sort = 69
   ·rw [if_pos h69]
    exact ⟨_,.enm _ t _ hr h69 hd,by rw [V.out];rfl,by simp [V.deep,V.deeps],by rw [V.out];show (35 :: a8 (tag0 t)).length ≤ _;simp only [List.length_cons];omega,by simp [V.size,cN]⟩
   rw [if_neg h69]
   have h85 : t.sort = 85:=by have:=htw.sort;unfold ep at this;omega
   have he1:=he t hr
   unfold bR at he1
   rw [if_neg (by simpa using h85)] at he1
   obtain ⟨u,g1,g2,g3,g4,g5⟩:=ih (k:=fV t) (dk hw htm h69 hd) (fun t' ht'=>by rw [ht'] at he1;exact he1)
   refine ⟨_,.uni _ t _ u hr h82 h69 hd g1,?_,?_,?_,?_⟩
   ·rw [V.out,← g2];simp [cO,V.outs,aO,tag0]
   ·rw [cy dC,V.deeps,V.deeps];omega
   ·have e:=qp (v:=u) (n:=tag0 t) (r:=[])
    rw [List.append_nil] at e
    show (V.out (.nd 85 [] (tag0 t) [u])).length ≤ _
    rw [e];simp only [List.length_cons,List.length_append,List.length_nil];omega
   ·rw [V.size,if_neg (by unfold cN;simp),V.sizes,V.sizes];omega
theorem uZ {ts : List Ty} (hw : SchW ts) {k : adE} (hk : aB ts k = true) : ∃ u,OfK ts k u ∧ u.out = pi ts k ∧ u.deep ≤ 12 ∧ u.out.length ≤ 400 ∧ u.size ≤ 1:=by
 have hl:=hw.len
 obtain ⟨u,h1,h2,h3,h4,h5⟩:=uY hw (ts.length + 1) hk (fun t ht=>by
  have hm:=bi ht
  obtain ⟨i,hi,rfl⟩:=List.mem_iff_getElem.1 hm
  have:=hw.valid.2 i hi
  rwa [aI hi] at this)
 exact ⟨u,h1,h2,oM,oM,h5⟩
theorem u3 {ts : List Ty} (hw : SchW ts) {t : Ty} (ht : t ∈ ts) (hs : t.sort ≠ 69) {d : Fld} (hd : d ∈ t.fields) : ∃ u,OfK ts d.kind u ∧ u.out = bK ts d ∧ u.deep ≤ 12 ∧ u.out.length ≤ 400:=by
 unfold bK
 by_cases h0 : d.stand = []
 ·rw [if_pos h0]
  obtain ⟨u,h1,h2,h3,h4,_⟩:=uZ hw (dk hw ht hs hd)
  exact ⟨u,h1,h2,h3,h4⟩
 ·rw [if_neg h0]
  have h1:=(((hw.ty t ht).fld d hd).stand h0).2
  unfold bN at h1
  split at h1
  ·rename_i hk
   rw [hk]
   simp only [Bool.and_eq_true] at h1
   obtain ⟨m,hm⟩:=Option.isSome_iff_exists.1 h1.1
   have h2:=dE hm
   have h3:=ke hm
   refine ⟨_,.num [] m h3 h2.1,by rw [V.out];exact h2.2.1.symm,by simp [V.deep,V.deeps],?_⟩
   rw [V.out]
   show (a8 m).length ≤ 400
   have:=gz h2.1;omega
  ·split at h1
   ·rename_i hk
    rw [hk]
    simp only [Bool.and_eq_true] at h1
    have hx:=h1.1
    have hx2:=hx
    unfold dc at hx
    rw [decide_eq_true_eq] at hx
    obtain ⟨⟨h2,h3⟩,h4,h5,_⟩:=hx
    obtain ⟨x,hxs⟩ : ∃ x,d.stand = 39 :: (x ++ [39]):=by
     cases hs : d.stand with
     | nil=>exact absurd hs h0
     | cons c r =>
      rw [hs] at h4 h5 h2
      have hc : c = 39:=UInt8.toNat_inj.1 (by rw [a6] at h4;exact h4)
      have hr : r ≠ []:=by rintro rfl;simp at h2
      refine ⟨r.dropLast,?_⟩
      have hl : r.getLast hr = 39:=by
       refine UInt8.toNat_inj.1 ?_
       simp only [List.length_cons,Nat.add_sub_cancel] at h5
       obtain ⟨m,hm⟩ : ∃ m,r.length = m + 1:=⟨r.length - 1,by have:=List.length_pos_iff.2 hr;omega⟩
       rw [hm,dQ] at h5
       rw [List.getLast_eq_getElem]
       have : bt r m = (r[r.length - 1]'(by have:=List.length_pos_iff.2 hr;omega)).toNat:=by simp [bt,List.getD,hm]
       rw [← this,h5];rfl
      rw [hc];congr 1
      rw [← hl,List.dropLast_concat_getLast]
    rw [hxs] at hx2 h3 ⊢
    refine ⟨_,.txt [] x hx2,by rw [V.out];rfl,by simp [V.deep,V.deeps],?_⟩
    rw [V.out]
    show (39 :: (x ++ [39])).length ≤ 400
    omega
   ·split at h1
    ·rename_i hk
     rw [hk]
     rw [decide_eq_true_eq] at h1
     rw [h1]
     exact ⟨_,.flg [] _ (.inl F),by rw [V.out];rfl,by simp [V.deep,V.deeps],by rw [V.out];decide⟩
    ·cases h1
def cj : List adE → Option (List Int)
 | []=>some []
 | x :: xs=>match aM x 999999 with
  | none=>none
  | some n=>(cj xs).map (n :: ·)
def cJ (s : adE) : Option (List Int):=if s = [] then some [] else match cj (aY 47 s) with
 | some p=>if p.length ≤ 8 then some p else none
 | none=>none
theorem kT : ∀ {xs : List adE} {p : List Int},cj xs = some p → p.length = xs.length ∧ ∀ n ∈ p,0 ≤ n ∧ n ≤ 999999
 | [],p,h=>by simp only [cj,Option.some.injEq] at h;subst h;simp
 | x :: xs,p,h=>by
  unfold cj at h
  cases hn : aM x 999999 with
  | none=>rw [hn] at h;cases h
  | some n =>
   rw [hn] at h
   dsimp only at h
   cases hs : cj xs with
   | none=>rw [hs] at h;cases h
   | some q =>
    rw [hs] at h
    simp only [Option.map_some,Option.some.injEq] at h
    subst h
    obtain ⟨h1,h2⟩:=kT hs
    refine ⟨by simp [h1],fun m hm=>?_⟩
    rcases List.mem_cons.1 hm with rfl | hm
    ·exact ⟨ke hn,(dE hn).1⟩
    ·exact h2 m hm
def fI (ts : List Ty) (f : Fld) : V:=(bV ts f.kind (bK ts f)).getD default
def cT (f : Fld) : List V → Option V
 | []=>none
 | x :: r=>if x.tag = f.tag then some (ae x.kids 0) else cT f r
def fk (ts : List Ty) (v : V) (f : Fld) : V:=(cT f v.kids).getD (fI ts f)
def bw (ts : List Ty) (k : adE) (v : V) (n : Int) : Option (adE × V):=match k with
 | []=>none
 | c :: r=>if c.toNat = 91 ∨ c.toNat = 63 then (if n < (v.kids.length : Nat) then some (r,ae v.kids n.toNat) else none)
  else match aX ts (c :: r) with
   | none=>none
   | some t=>match bB t.fields n with
    | none=>none
    | some f=>if t.sort = 69 then none else if t.sort = 82 then some (f.kind,fk ts v f) else if v.tag = n then some (f.kind,ae v.kids 0) else none
def bD (ts : List Ty) : adE → V → List Int → Option (adE × V)
 | k,v,[]=>some (k,v)
 | k,v,n :: p=>match bw ts k v n with
  | none=>none
  | some (k',v')=>bD ts k' v' p
theorem gV {ts : List Ty} (hw : SchW ts) {t : Ty} (ht : t ∈ ts) (hs : t.sort ≠ 69) {d : Fld} (hd : d ∈ t.fields) : OfK ts d.kind (fI ts d) ∧ bV ts d.kind (bK ts d) = some (fI ts d) ∧ (fI ts d).out = bK ts d:=by
 obtain ⟨u,h1,h2,h3,h4⟩:=u3 hw ht hs hd
 have h5:=iu hw h1 h4 h3
 rw [h2] at h5
 have h6 : fI ts d = u:=by unfold fI;rw [h5];rfl
 rw [h6]
 exact ⟨h1,h5,h2⟩
theorem lC {ts : List Ty} {t : Ty} (hw : TyW t) {f : Fld} (hf : f ∈ t.fields) : ∀ {fs : List (Fld × V)} {u : V},(∀ p ∈ fs,p.1 ∈ t.fields ∧ OfK ts p.1.kind p.2) → cT f (fs.map aV) = some u → OfK ts f.kind u ∧ ∃ p ∈ fs,p.1 = f ∧ p.2 = u
 | [],u,_,h=>by simp [cT] at h
 | p :: fs,u,hp,h=>by
  simp only [List.map_cons,cT] at h
  split at h
  ·rename_i he
   simp only [Option.some.injEq] at h
   have h1 : p.2 = u:=h
   have h2:=jJ hw (hp p (by simp)).1 hf he
   subst h1
   exact ⟨by rw [← h2];exact (hp p (by simp)).2,p,by simp,h2,F⟩
  ·obtain ⟨h1,q,h2,h3⟩:=lC hw hf (fun q hq=>hp q (by simp [hq])) h
   exact ⟨h1,q,by simp [h2],h3⟩
theorem y7 {ts : List Ty} (hw : SchW ts) {t : Ty} (ht : t ∈ ts) (hs : t.sort = 82) {f : Fld} (hf : f ∈ t.fields) {fs : List (Fld × V)} (hp : ∀ p ∈ fs,p.1 ∈ t.fields ∧ OfK ts p.1.kind p.2) : OfK ts f.kind (fk ts (.nd 82 [] 0 (fs.map aV)) f):=by
 unfold fk
 cases h : cT f (V.kids (.nd 82 [] 0 (fs.map aV))) with
 | none=>exact (gV hw ht oM hf).1
 | some u=>exact (lC (hw.ty t ht) hf hp h).1
theorem gI {ts : List Ty} (hw : SchW ts) {k : adE} {v : V} (h : OfK ts k v) (hk : aB ts k = true) {n : Int} (hn : 0 ≤ n) {k' : adE} {v' : V} (e : bw ts k v n = some (k',v')) : OfK ts k' v' ∧ aB ts k' = true:=by
 obtain ⟨c,r,rfl⟩:=gX hk
 unfold bw at e
 dsimp only at e
 split at e
 ·rename_i hc
  split at e
  ·rename_i hlt
   simp only [Option.some.injEq,Prod.mk.injEq] at e
   obtain ⟨rfl,rfl⟩:=e
   refine ⟨?_,dy hc hk⟩
   rcases iY h oM with ⟨h1,_⟩ | ⟨h1,_⟩ | ⟨h1,_⟩ | ⟨h1,ks,_,h3,rfl⟩ | ⟨h1,rfl | ⟨u,h3,rfl⟩⟩
   ·omega
   ·omega
   ·omega
   ·rw [V.kids] at hlt ⊢
    have : n.toNat < ks.length:=oM
    rw [aI this];exact h3 _ (List.getElem_mem this)
   ·simp [V.kids] at hlt;omega
   ·simp [V.kids] at hlt
    have : n.toNat = 0:=oM
    rw [this];exact h3
  ·cases e
 ·split at e
  ·cases e
  ·rename_i t hr
   have ht:=bi hr
   split at e
   ·cases e
   ·rename_i f hf
    have hfm:=List.mem_of_find?_eq_some hf
    split at e
    ·cases e
    ·rename_i h69
     have hki:=dk hw ht h69 hfm
     split at e
     ·rename_i h82
      simp only [Option.some.injEq,Prod.mk.injEq] at e
      obtain ⟨rfl,rfl⟩:=e
      rcases dR h hr with ⟨_,fs,rfl,g3,g4,_,_⟩ | ⟨h1,_⟩ | ⟨h1,_⟩
      ·exact ⟨y7 hw ht h82 hfm fun p hp=>⟨g3 p hp,g4 p hp⟩,hki⟩
      ·omega
      ·omega
     ·rename_i h82
      split at e
      ·rename_i htg
       simp only [Option.some.injEq,Prod.mk.injEq] at e
       obtain ⟨rfl,rfl⟩:=e
       rcases dR h hr with ⟨h1,_⟩ | ⟨h1,_⟩ | ⟨_,_,d,u,rfl,g4,g5⟩
       ·omega
       ·omega
       ·have h7 : f.tag = n:=by have:=List.find?_some hf;simpa using this
        have h8:=jJ (hw.ty t ht) g4 hfm (by rw [h7];exact htg)
        rw [V.kids]
        exact ⟨by rw [← h8];exact g5,hki⟩
      ·cases e
theorem fC {ts : List Ty} (hw : SchW ts) : ∀ {p : List Int} {k : adE} {v : V} {k' : adE} {v' : V},OfK ts k v → aB ts k = true → (∀ n ∈ p,0 ≤ n) → bD ts k v p = some (k',v') → OfK ts k' v' ∧ aB ts k' = true
 | [],k,v,k',v',h,hk,_,e=>by
  simp only [bD,Option.some.injEq,Prod.mk.injEq] at e
  obtain ⟨rfl,rfl⟩:=e
  exact ⟨h,hk⟩
 | n :: p,k,v,k',v',h,hk,hp,e=>by
  unfold bD at e
  cases hs : bw ts k v n with
  | none=>rw [hs] at e;cases e
  | some x =>
   rw [hs] at e
   obtain ⟨k1,v1⟩:=x
   obtain ⟨h1,h2⟩:=gI hw h hk (hp n (by simp)) hs
   exact fC hw h1 h2 (fun m hm=>hp m (by simp [hm])) e
def fP (ts : List Ty) (f : Fld) (x : V) : List V → List V
 | []=>if x.out = bK ts f then [] else [.nd 61 [] f.tag [x]]
 | y :: r=>if y.tag < f.tag then y :: fP ts f x r
  else (if x.out = bK ts f then [] else [.nd 61 [] f.tag [x]]) ++ (if y.tag = f.tag then r else y :: r)
def dm (ts : List Ty) : adE → V → List Int → V → V
 | _,_,[],x=>x
 | k,v,n :: p,x=>match bw ts k v n with
  | none=>v
  | some (k',v')=>if v.what = 82 then (match aX ts k with
    | some t=>(match bB t.fields n with
     | some f=>.nd 82 [] 0 (fP ts f (dm ts k' v' p x) v.kids)
     | none=>v)
    | none=>v)
   else .nd v.what [] v.tag (if v.what = 91 then v.kids.set n.toNat (dm ts k' v' p x) else [dm ts k' v' p x])
theorem t8 {ts : List Ty} {t : Ty} (hw : TyW t) {f : Fld} (hf : f ∈ t.fields) {x : V} (hx : OfK ts f.kind x) : ∀ {fs : List (Fld × V)},(∀ p ∈ fs,p.1 ∈ t.fields ∧ OfK ts p.1.kind p.2 ∧ p.2.out ≠ bK ts p.1) → fs.Pairwise (fun a b=>a.1.tag < b.1.tag) →
  ∃ gs : List (Fld × V),fP ts f x (fs.map aV) = gs.map aV ∧ (∀ p ∈ gs,(p.1 ∈ t.fields ∧ OfK ts p.1.kind p.2 ∧ p.2.out ≠ bK ts p.1) ∧ (p ∈ fs ∨ p.1 = f)) ∧ gs.Pairwise (fun a b=>a.1.tag < b.1.tag)
 | [],_,_=>by
  simp only [List.map_nil,fP]
  split
  ·exact ⟨[],F,by simp,by simp⟩
  ·rename_i hne
   exact ⟨[(f,x)],F,fun p hp=>by simp only [List.mem_singleton] at hp;subst hp;exact ⟨⟨hf,hx,hne⟩,.inr F⟩,by simp⟩
 | q :: fs,hp,hpw=>by
  rw [List.pairwise_cons] at hpw
  simp only [List.map_cons,fP]
  show ∃ gs : List (Fld × V),(if q.1.tag < f.tag then aV q :: fP ts f x (fs.map aV) else (if x.out = bK ts f then [] else [.nd 61 [] f.tag [x]]) ++ (if q.1.tag = f.tag then fs.map aV else aV q :: fs.map aV)) = gs.map aV ∧ _
  by_cases hlt : q.1.tag < f.tag
  ·rw [if_pos hlt]
   obtain ⟨gs,e1,e2,e3⟩:=t8 hw hf hx (fun p h=>hp p (by simp [h])) hpw.2
   refine ⟨q :: gs,by rw [e1];rfl,fun p h=>?_,?_⟩
   ·rcases List.mem_cons.1 h with rfl | h
    ·exact ⟨hp _ (by simp),.inl (by simp)⟩
    ·exact ⟨(e2 p h).1,(e2 p h).2.imp (fun h=>by simp [h]) id⟩
   ·rw [List.pairwise_cons]
    refine ⟨fun p h=>?_,e3⟩
    rcases (e2 p h).2 with h1 | h1
    ·exact hpw.1 p h1
    ·rw [h1];exact hlt
  ·rw [if_neg hlt]
   have hB : ∃ gs : List (Fld × V),(if q.1.tag = f.tag then fs.map aV else aV q :: fs.map aV) = gs.map aV ∧ (∀ p ∈ gs,(p.1 ∈ t.fields ∧ OfK ts p.1.kind p.2 ∧ p.2.out ≠ bK ts p.1) ∧ p ∈ q :: fs ∧ f.tag < p.1.tag) ∧ gs.Pairwise (fun a b=>a.1.tag < b.1.tag):=by
    split
    ·rename_i he
     exact ⟨fs,F,fun p h=>⟨hp p (by simp [h]),by simp [h],by have:=hpw.1 p h;omega⟩,hpw.2⟩
    ·rename_i he
     refine ⟨q :: fs,F,fun p h=>⟨hp p h,h,?_⟩,by rw [List.pairwise_cons];exact hpw⟩
     rcases List.mem_cons.1 h with rfl | h
     ·omega
     ·have:=hpw.1 p h;omega
   obtain ⟨gs,e1,e2,e3⟩:=hB
   rw [e1]
   split
   ·exact ⟨gs,F,fun p h=>⟨(e2 p h).1,.inl (e2 p h).2.1⟩,e3⟩
   ·rename_i hne
    refine ⟨(f,x) :: gs,F,fun p h=>?_,?_⟩
    ·rcases List.mem_cons.1 h with rfl | h
     ·exact ⟨⟨hf,hx,hne⟩,.inr F⟩
     ·exact ⟨(e2 p h).1,.inl (e2 p h).2.1⟩
    ·rw [List.pairwise_cons]
     exact ⟨fun p h=>(e2 p h).2.2,e3⟩
theorem pV {ts : List Ty} (hw : SchW ts) : ∀ {p : List Int} {k : adE} {v x : V} {k' : adE} {v' : V},OfK ts k v → aB ts k = true → (∀ n ∈ p,0 ≤ n) → bD ts k v p = some (k',v') → OfK ts k' x → OfK ts k (dm ts k v p x)
 | [],k,v,x,k',v',h,hk,_,e,hx=>by
  simp only [bD,Option.some.injEq,Prod.mk.injEq] at e
  obtain ⟨rfl,rfl⟩:=e
  exact hx
 | n :: p,k,v,x,k',v',h,hk,hp,e,hx=>by
  unfold bD at e
  cases hs : bw ts k v n with
  | none=>rw [hs] at e;cases e
  | some y =>
   rw [hs] at e
   obtain ⟨k1,v1⟩:=y
   obtain ⟨h1,h2⟩:=gI hw h hk (hp n (by simp)) hs
   have ih:=pV hw h1 h2 (fun m hm=>hp m (by simp [hm])) e hx
   have hn:=hp n (by simp)
   unfold dm
   rw [hs]
   dsimp only
   obtain ⟨c,r,rfl⟩:=gX hk
   unfold bw at hs
   dsimp only at hs
   split at hs
   ·rename_i hc
    split at hs
    ·rename_i hlt
     simp only [Option.some.injEq,Prod.mk.injEq] at hs
     obtain ⟨rfl,rfl⟩:=hs
     rcases iY h oM with ⟨g1,_⟩ | ⟨g1,_⟩ | ⟨g1,_⟩ | ⟨g1,ks,g2,g3,rfl⟩ | ⟨g1,rfl | ⟨u,g3,rfl⟩⟩
     ·omega
     ·omega
     ·omega
     ·rw [V.what,if_neg dC,if_pos rfl]
      obtain rfl:=bn g1 dC
      refine .lst _ _ (by rw [List.length_set];exact g2) fun u hu=>?_
      rcases List.mem_or_eq_of_mem_set hu with hu | rfl
      ·exact g3 u hu
      ·exact ih
     ·simp [V.kids] at hlt;omega
     ·rw [V.what,if_neg dC,if_neg dC]
      obtain rfl:=bn g1 dC
      exact .opt _ _ ih
    ·cases hs
   ·split at hs
    ·cases hs
    ·rename_i t hr
     have ht:=bi hr
     split at hs
     ·cases hs
     ·rename_i f hf
      have hfm:=List.mem_of_find?_eq_some hf
      split at hs
      ·cases hs
      ·rename_i h69
       split at hs
       ·rename_i h82
        simp only [Option.some.injEq,Prod.mk.injEq] at hs
        obtain ⟨rfl,rfl⟩:=hs
        rcases dR h hr with ⟨_,fs,rfl,g3,g4,g5,g6⟩ | ⟨g1,_⟩ | ⟨g1,_⟩
        ·rw [V.what,if_pos rfl,hr]
         dsimp only
         rw [hf]
         dsimp only
         rw [V.kids]
         obtain ⟨gs,e1,e2,e3⟩:=t8 (hw.ty t ht) hfm ih (fun p hp=>⟨g3 p hp,g4 p hp,g5 p hp⟩) g6
         rw [e1]
         exact .recd _ t gs hr h82 (fun p hp=>(e2 p hp).1.1) (fun p hp=>(e2 p hp).1.2.1) (fun p hp=>(e2 p hp).1.2.2) e3
        ·omega
        ·omega
       ·rename_i h82
        split at hs
        ·rename_i htg
         simp only [Option.some.injEq,Prod.mk.injEq] at hs
         obtain ⟨rfl,rfl⟩:=hs
         rcases dR h hr with ⟨g1,_⟩ | ⟨g1,_⟩ | ⟨_,_,d,u,rfl,g4,g5⟩
         ·omega
         ·omega
         ·have h7 : f.tag = n:=by have:=List.find?_some hf;simpa using this
          have h8:=jJ (hw.ty t ht) g4 hfm (by rw [h7];exact htg)
          rw [V.what,if_neg dC,if_neg dC]
          exact .uni _ t d _ hr h82 h69 g4 (by rw [h8];exact ih)
        ·cases hs
theorem pA {f : adE → Option (V × adE)} {r : adE} : ∀ (ks : List V) (acc : List V),(∀ v ∈ ks,∀ r,f (v.bys ++ r) = some (v,r)) → bO f ks.length ((V.byss ks).flatten ++ r) acc = some (acc ++ ks,r)
 | [],acc,_=>by simp [bO,V.byss]
 | v :: ks,acc,h=>by
  rw [V.byss,List.flatten_cons,List.append_assoc,List.length_cons,bO,h v (by simp)]
  dsimp only
  rw [pA ks (acc ++ [v]) fun u hu=>h u (by simp [hu])]
  simp
theorem gK {f : adE → adE → Option (V × adE)} {k p : adE} {v : V} (h : f k p = some (v,[])) : cU f k p = some v:=by unfold cU;rw [h]
theorem mr (p : Fld × V) : (aV p).bys = bL p.1.tag ++ (bL p.2.bys.length ++ p.2.bys):=by
 show V.bys (.nd 61 [] p.1.tag [p.2]) = _
 rw [V.bys];simp [V.byss,fR]
theorem aaM (r : adE) : bI (0 :: r) = some (0,r):=by rw [bI,if_pos dC];rfl
theorem qZ {ts : List Ty} {f : adE → adE → Option (V × adE)} {t : Ty} (hw : TyW t) {r : adE} : ∀ (fs : List (Fld × V)) (m : Nat) (last : Int) (acc : List V),fs.length < m → (∀ p ∈ fs,p.1 ∈ t.fields ∧ p.2.out ≠ bK ts p.1 ∧ last < p.1.tag ∧ p.2.bys.length ≤ 999999 ∧ f p.1.kind p.2.bys = some (p.2,[])) → fs.Pairwise (fun a b=>a.1.tag < b.1.tag) →
  bS ts f t m last ((V.byss (fs.map aV)).flatten ++ 0 :: r) acc = some (acc ++ fs.map aV,r)
 | [],m,last,acc,hm,_,_=>by
  obtain ⟨m,rfl⟩ : ∃ n,m = n + 1:=⟨m - 1,by simp at hm;omega⟩
  simp only [List.map_nil,V.byss,List.flatten_nil,List.nil_append,bS,aaM,if_pos,List.append_nil]
 | p :: fs,m,last,acc,hm,hf,hp=>by
  obtain ⟨m,rfl⟩ : ∃ n,m = n + 1:=⟨m - 1,by simp at hm;omega⟩
  obtain ⟨h1,h2,h3,h4,h5⟩:=hf p (by simp)
  have ht:=(hw.fld _ h1).tag
  rw [List.pairwise_cons] at hp
  have ih:=qZ (ts:=ts) (f:=f) hw (r:=r) fs m p.1.tag (acc ++ [aV p]) (by simp at hm;omega) (fun q hq=>⟨(hf q (by simp [hq])).1,(hf q (by simp [hq])).2.1,hp.1 q hq,(hf q (by simp [hq])).2.2.2⟩) hp.2
  rw [List.map_cons,V.byss,List.flatten_cons,mr,bS]
  simp only [List.append_assoc]
  rw [jv oM oM]
  dsimp only
  rw [if_neg oM,mY h4]
  dsimp only
  rw [if_neg oM,ga hw h1]
  dsimp only
  rw [gK h5]
  dsimp only
  rw [if_neg h2]
  show bS ts f t m p.1.tag _ (acc ++ [aV p]) = _
  rw [ih];simp
theorem tC {ks : List V} {v : V} (h : v ∈ ks) : v.bys.length ≤ (V.byss ks).flatten.length:=by
 rw [iH]
 induction ks with
 | nil=>cases h
 | cons u ks ih =>
  simp only [List.map_cons,List.flatten_cons,List.length_append]
  rcases List.mem_cons.1 h with rfl | h
  ·omega
  ·have:=ih h;omega
theorem uK : ∀ {fs : List (Fld × V)},fs.length ≤ (V.byss (fs.map aV)).flatten.length
 | []=>by simp [V.byss]
 | p :: fs=>by
  have:=uK (fs:=fs)
  have h2:=f3 p.1.tag
  rw [List.map_cons,V.byss,List.flatten_cons,List.length_append,mr]
  simp only [List.length_append,List.length_cons]
  omega
theorem lk {ts : List Ty} {k : adE} {t : Ty} (h : aX ts k = some t) : ∃ k',k = 64 :: k':=by
 cases k with
 | nil=>simp [aX,bH] at h
 | cons c k' =>
  by_cases h64 : c.toNat = 64
  ·exact ⟨k',by rw [show c = 64 from UInt8.toNat_inj.1 h64]⟩
  ·exact (dg h F h64).elim
theorem py {ts : List Ty} (hw : SchW ts) : ∀ (n : Nat) {k : adE} {v : V},OfK ts k v → v.deep ≤ n → v.bys.length ≤ 999999 → ∀ r,rb ts n k (v.bys ++ r) = some (v,r)
 | 0,k,v,h,hd,_,r=>by
  obtain ⟨w,x,t,ks⟩:=v
  have hne : w ≠ 61:=by cases h <;> decide
  rw [cy hne] at hd;omega
 | n + 1,k,v,h,hd,hl,r=>by
  have ih:=fun {k : adE} {v : V}=>py hw n (k:=k) (v:=v)
  show fT ts (rb ts n) k (v.bys ++ r) = some (v,r)
  cases h with
  | num k m h1 h2 =>
   have e : V.bys (.nd 110 (a8 m) 0 []) = bL m:=by rw [V.bys];unfold fR;rw [if_pos rfl,jl h1 h2 dC];rfl
   have hrf : aX ts (110 :: k) = none:=by cases h : aX ts (110 :: k) with | none=>rfl | some t=>exact (dg h F dC).elim
   rw [e]
   unfold fT
   try dsimp only
   rw [if_neg dC,if_neg dC,hrf]
   try dsimp only
   rw [if_pos dC,jv h1 h2];rfl
  | txt k x h1 =>
   have e : V.bys (.nd 116 x 0 []) = bL x.length ++ x:=by rw [V.bys];rfl
   have hrf : aX ts (116 :: k) = none:=by cases h : aX ts (116 :: k) with | none=>rfl | some t=>exact (dg h F dC).elim
   rw [e] at hl ⊢
   rw [List.length_append] at hl
   unfold fT
   try dsimp only
   rw [if_neg dC,if_neg dC,hrf]
   try dsimp only
   rw [if_neg dC,if_pos dC,List.append_assoc,mY oM]
   dsimp only
   rw [if_pos h1]
  | flg k x h1 =>
   have hrf : aX ts (102 :: k) = none:=by cases h : aX ts (102 :: k) with | none=>rfl | some t=>exact (dg h F dC).elim
   unfold fT
   try dsimp only
   rw [if_neg dC,if_neg dC,hrf]
   try dsimp only
   rw [if_neg dC,if_neg dC,if_pos dC]
   rcases h1 with rfl | rfl
   ·rw [show V.bys (.nd 102 [121,101,115] 0 []) = [1] by rw [V.bys];rfl];rfl
   ·rw [show V.bys (.nd 102 [110,111] 0 []) = [0] by rw [V.bys];rfl];rfl
  | lst k ks h1 h2 =>
   rw [cy dC] at hd
   have e : V.bys (.nd 91 [] 0 ks) = bL ks.length ++ (V.byss ks).flatten:=by rw [V.bys];rfl
   rw [e] at hl ⊢
   rw [List.length_append] at hl
   have hI:=pA (f:=rb ts n k) (r:=r) ks [] fun v hv r=>ih (h2 v hv) (by have:=V.deep_mem hv;omega) (by have:=tC hv;omega) r
   unfold fT
   try dsimp only
   rw [if_pos dC,List.append_assoc,jv oM oM]
   dsimp only
   rw [if_pos oM,Int.toNat_natCast,hI];rfl
  | non k =>
   rw [show V.bys (.nd 63 [] 0 []) = [0] by rw [V.bys];rfl]
   unfold fT
   try dsimp only
   rw [if_neg dC,if_pos dC];rfl
  | opt k v h1 =>
   rw [cy dC] at hd
   have hd2 : v.deep ≤ n:=by have:=V.deep_mem (ks:=[v]) (v:=v) (by simp);omega
   have e : V.bys (.nd 63 [] 0 [v]) = 1 :: v.bys:=by rw [V.bys];simp [V.byss,fR]
   rw [e] at hl ⊢
   rw [List.length_cons] at hl
   unfold fT
   try dsimp only
   rw [if_neg dC,if_pos dC]
   rw [show cI (1 :: v.bys ++ r) = some (true,v.bys ++ r) from rfl]
   try dsimp only
   rw [ih h1 hd2 oM];rfl
  | recd k t fs h1 h2 h3 h4 h5 h6 =>
   rw [cy dC] at hd
   obtain ⟨k',rfl⟩:=lk h1
   have e : V.bys (.nd 82 [] 0 (fs.map aV)) = (V.byss (fs.map aV)).flatten ++ [0]:=by rw [V.bys];rfl
   have hg:=uK (fs:=fs)
   rw [e] at hl ⊢
   rw [List.length_append] at hl
   have hW:=hw.ty t (bi h1)
   have hF:=qZ (ts:=ts) (f:=rb ts n) hW (r:=r) fs (((V.byss (fs.map aV)).flatten ++ 0 :: r).length + 1) 0 [] (by rw [List.length_append];omega) (fun p hp=>by
    have hdp : p.2.deep ≤ n:=by
     have h7:=V.deep_mem (List.mem_map_of_mem (f:=aV) hp)
     have h8 : (aV p).deep = p.2.deep:=by
      show V.deep (.nd 61 [] p.1.tag [p.2]) = _
      rw [V.deep,if_pos rfl];simp [V.deeps]
     omega
    have hbp : p.2.bys.length ≤ 999999:=by
     have h7:=tC (List.mem_map_of_mem (f:=aV) hp)
     rw [mr] at h7
     simp only [List.length_append] at h7
     omega
    have ht:=(hW.fld _ (h3 p hp)).tag
    refine ⟨h3 p hp,h5 p hp,oM,hbp,?_⟩
    have:=ih (h4 p hp) hdp hbp []
    rwa [List.append_nil] at this) h6
   unfold fT
   try dsimp only
   rw [if_neg dC,if_neg dC,h1]
   try dsimp only
   unfold b8
   rw [if_pos h2,List.append_assoc,List.singleton_append,hF];rfl
  | enm k t d h1 h2 h3 =>
   obtain ⟨k',rfl⟩:=lk h1
   have hW:=hw.ty t (bi h1)
   have ht:=(hW.fld _ h3).tag
   rw [show V.bys (.nd 69 [] d.tag []) = bL d.tag by rw [V.bys];rfl]
   unfold fT
   try dsimp only
   rw [if_neg dC,if_neg dC,h1]
   try dsimp only
   unfold b8
   rw [if_neg oM,jv oM oM]
   dsimp only
   rw [ga hW h3]
   dsimp only
   rw [if_pos h2]
  | uni k t d v h1 h2 h3 h4 h5 =>
   rw [cy dC] at hd
   have hd2 : v.deep ≤ n:=by have:=V.deep_mem (ks:=[v]) (v:=v) (by simp);omega
   obtain ⟨k',rfl⟩:=lk h1
   have hW:=hw.ty t (bi h1)
   have ht:=(hW.fld _ h4).tag
   have e : V.bys (.nd 85 [] d.tag [v]) = bL d.tag ++ (bL v.bys.length ++ v.bys):=by rw [V.bys];simp [V.byss,fR]
   rw [e] at hl ⊢
   simp only [List.length_append] at hl
   unfold fT
   try dsimp only
   rw [if_neg dC,if_neg dC,h1]
   try dsimp only
   unfold b8
   simp only [List.append_assoc]
   rw [if_neg h2,jv oM oM]
   dsimp only
   rw [ga hW h4]
   dsimp only
   rw [if_neg h3,mY oM]
   dsimp only
   have:=ih h5 hd2 oM []
   rw [List.append_nil] at this
   rw [gK this];rfl
theorem oR : ∀ {xs ys : List adE},xs.length = ys.length → (∀ i,i < xs.length → (ae ys i).length ≤ (ae xs i).length + 1) → ys.flatten.length ≤ (aO 44 xs).length + 1
 | [],ys,h,_=>by
  obtain rfl:=List.eq_nil_of_length_eq_zero h.symm
  simp
 | [x],ys,h,hl=>by
  match ys,h with
  | [y],_ =>
   have:=hl 0 (by simp)
   simpa [aO,ae] using this
 | x :: x2 :: xs,ys,h,hl=>by
  match ys,h with
  | y :: ys,h =>
   have h0:=hl 0 (by simp)
   have ih:=oR (xs:=x2 :: xs) (ys:=ys) (by simpa using h) fun i hi=>by
    have:=hl (i + 1) (by simpa using hi)
    simpa [ae] using this
   have h1 : (ae (y :: ys) 0).length = y.length:=rfl
   have h2 : (ae (x :: x2 :: xs) 0).length = x.length:=rfl
   rw [h1,h2] at h0
   rw [aO,List.flatten_cons,List.length_append,List.length_append,List.length_cons]
   omega
theorem abo {n : Int} (h : 10 ≤ n) : 2 ≤ (a8 n).length:=by
 rw [g7 oM,List.length_append]
 have:=fE (n / 10)
 simp;omega
theorem abn {n : Int} (h : 100 ≤ n) : 3 ≤ (a8 n).length:=by
 rw [g7 oM,List.length_append]
 have:=abo (n:=n / 10) oM
 simp;omega
theorem sm {n : Int} (h : n < 16384) : (bL n).length ≤ 2:=nH _ 1 oM
theorem v9 {n : Int} (h : n < 128) : (bL n).length ≤ 1:=nH _ 0 oM
theorem nI {n : Int} (h0 : 0 ≤ n) (h : n ≤ 999999) : (bL n).length ≤ (a8 n).length:=by
 by_cases h1 : n < 128
 ·have:=v9 h1;have:=fE n;omega
 ·have:=cL h;have:=abn (n:=n) oM;omega
theorem q6 {ks : List V} : (V.nd 91 [] 0 ks).out = 91 :: (aO 44 (ks.map V.out) ++ [93]):=by rw [V.out,V.outs_map];rfl
theorem sh {ks : List V} : (V.nd 82 [] 0 ks).out = 123 :: (aO 44 (ks.map V.out) ++ [125]):=by rw [V.out,V.outs_map];rfl
theorem kE {xs : List adE} {x : adE} (h : x ∈ xs) : x.length ≤ (aO 44 xs).length:=by
 induction xs with
 | nil=>cases h
 | cons y xs ih =>
  cases xs with
  | nil =>
   simp only [List.mem_singleton] at h;subst h;simp [aO]
  | cons z xs =>
   rw [aO,List.length_append,List.length_cons]
   rcases List.mem_cons.1 h with rfl | h
   ·omega
   ·have:=ih h;omega
theorem aae {ts : List Ty} (hw : SchW ts) {k : adE} {v : V} (h : OfK ts k v) : v.out.length ≤ 16000 → v.bys.length ≤ v.out.length:=by
 induction h with
 | num k m h1 h2 =>
  intro _
  have e : V.bys (.nd 110 (a8 m) 0 []) = bL m:=by rw [V.bys];unfold fR;rw [if_pos rfl,jl h1 h2 dC];rfl
  rw [e,show V.out (.nd 110 (a8 m) 0 []) = a8 m by rw [V.out];rfl]
  exact nI h1 h2
 | txt k x h1 =>
  intro hl
  have e : V.out (.nd 116 x 0 []) = 39 :: (x ++ [39]):=by rw [V.out];rfl
  rw [e] at hl ⊢
  rw [show V.bys (.nd 116 x 0 []) = bL x.length ++ x by rw [V.bys];rfl]
  simp only [List.length_append,List.length_cons,List.length_nil] at hl ⊢
  have:=sm (n:=x.length) oM
  omega
 | flg k x h1 =>
  intro _
  rcases h1 with rfl | rfl
  ·rw [V.bys,V.out];decide
  ·rw [V.bys,V.out];decide
 | lst k ks h1 h2 ih =>
  intro hl
  rw [q6] at hl ⊢
  rw [show V.bys (.nd 91 [] 0 ks) = bL ks.length ++ (V.byss ks).flatten by rw [V.bys];rfl]
  simp only [List.length_append,List.length_cons,List.length_nil] at hl ⊢
  have h3:=v9 (n:=ks.length) oM
  have h4:=oR (xs:=ks.map V.out) (ys:=V.byss ks) (by rw [iH];simp) fun i hi=>by
   have hi : i < ks.length:=by simpa using hi
   have hm:=kE (xs:=ks.map V.out) (List.mem_map_of_mem (f:=V.out) (bh hi))
   have:=ih _ (bh hi) oM
   rw [o9 hi,show ae (ks.map V.out) i = (ae ks i).out by rw [aI (by simpa using hi),aI hi];simp]
   omega
  omega
 | non k=>intro _;rw [V.bys,V.out];decide
 | opt k v h1 ih =>
  intro hl
  have e : V.out (.nd 63 [] 0 [v]) = 43 :: v.out:=by rw [V.out];simp [V.outs,aO,cO]
  rw [e] at hl ⊢
  rw [show V.bys (.nd 63 [] 0 [v]) = 1 :: v.bys by rw [V.bys];simp [V.byss,fR]]
  simp only [List.length_cons] at hl ⊢
  have:=ih oM
  omega
 | recd k t fs h1 h2 h3 h4 h5 h6 ih =>
  intro hl
  rw [sh] at hl ⊢
  rw [show V.bys (.nd 82 [] 0 (fs.map aV)) = (V.byss (fs.map aV)).flatten ++ [0] by rw [V.bys];rfl]
  simp only [List.length_append,List.length_cons,List.length_nil] at hl ⊢
  have hW:=hw.ty t (bi h1)
  have h4:=oR (xs:=(fs.map aV).map V.out) (ys:=V.byss (fs.map aV)) (by rw [iH];simp) fun i hi=>by
   have hi : i < fs.length:=by simpa using hi
   have hm:=kE (xs:=(fs.map aV).map V.out) (List.mem_map_of_mem (f:=V.out) (List.mem_map_of_mem (f:=aV) (bh hi)))
   have ht:=(hW.fld _ (h3 _ (bh hi))).tag
   have eo : (aV (ae fs i)).out = a8 (ae fs i).1.tag ++ 61 :: (ae fs i).2.out:=fN
   have:=ih _ (bh hi) (by rw [eo] at hm;simp only [List.length_append,List.length_cons] at hm;omega)
   rw [o9 (by simpa using hi),show ae ((fs.map aV).map V.out) i = (aV (ae fs i)).out by rw [aI (by simpa using hi),aI hi];simp,
    show ae (fs.map aV) i = aV (ae fs i) by rw [aI (by simpa using hi),aI hi];simp,mr,eo]
   rw [eo] at hm
   simp only [List.length_append,List.length_cons] at hm ⊢
   have g1:=nI (n:=(ae fs i).1.tag) oM oM
   have g2:=sm (n:=(ae fs i).2.bys.length) oM
   omega
  omega
 | enm k t d h1 h2 h3 =>
  intro _
  have hW:=hw.ty t (bi h1)
  have ht:=(hW.fld _ h3).tag
  rw [show V.bys (.nd 69 [] d.tag []) = bL d.tag by rw [V.bys];rfl,show V.out (.nd 69 [] d.tag []) = 35 :: a8 d.tag by rw [V.out];rfl,List.length_cons]
  have:=nI (n:=d.tag) oM oM
  omega
 | uni k t d v h1 h2 h3 h4 h5 ih =>
  intro hl
  have hW:=hw.ty t (bi h1)
  have ht:=(hW.fld _ h4).tag
  have e : V.out (.nd 85 [] d.tag [v]) = 60 :: (a8 d.tag ++ 61 :: (v.out ++ [62])):=by rw [V.out];simp [V.outs,aO,cO]
  rw [e] at hl ⊢
  rw [show V.bys (.nd 85 [] d.tag [v]) = bL d.tag ++ (bL v.bys.length ++ v.bys) by rw [V.bys];simp [V.byss,fR]]
  simp only [List.length_append,List.length_cons,List.length_nil] at hl ⊢
  have:=ih oM
  have g1:=nI (n:=d.tag) oM oM
  have g2:=sm (n:=v.bys.length) oM
  omega
def km (ts : List Ty) (k b : adE) : Option V:=match rb ts 12 k b with
 | some (v,[])=>if v.bys = b ∧ v.out.length ≤ 400 then some v else none
 | _=>none
theorem pW {ts : List Ty} (hw : SchW ts) {k b : adE} (hb : b.length ≤ 999999) {v : V} : km ts k b = some v ↔ OfK ts k v ∧ v.deep ≤ 12 ∧ v.out.length ≤ 400 ∧ v.bys = b:=by
 constructor
 ·intro h
  unfold km at h
  split at h
  ·rename_i u hu
   obtain ⟨g1,g2⟩:=lL _ _ _ _ hu
   split at h
   ·rename_i hc
    simp only [Option.some.injEq] at h;subst h
    exact ⟨g1,g2,hc.2,hc.1⟩
   ·cases h
  ·cases h
 ·rintro ⟨h1,h2,h3,rfl⟩
  have:=py hw 12 h1 h2 hb []
  rw [List.append_nil] at this
  unfold km
  rw [this]
  dsimp only
  rw [if_pos ⟨rfl,h3⟩]
theorem sV {ts : List Ty} (hw : SchW ts) {k b : adE} (hb : b.length ≤ 999999) {v : V} : km ts k b = some v ↔ rb ts 13 k b = some (v,[]) ∧ v.deep ≤ 12 ∧ v.out.length ≤ 400 ∧ v.bys = b:=by
 rw [pW hw hb]
 constructor
 ·rintro ⟨h1,h2,h3,rfl⟩
  have:=py hw 13 h1 oM hb []
  rw [List.append_nil] at this
  exact ⟨this,h2,h3,F⟩
 ·rintro ⟨h1,h2,h3,h4⟩
  exact ⟨(lL _ _ _ _ h1).1,h2,h3,h4⟩
def adp (w : Nat) (x : adE) (t : Int) (js : List adE) : adE :=
 if w = 110 then [u8 ((aM x 999999).getD 0 / 65536),u8 ((aM x 999999).getD 0 / 256),u8 ((aM x 999999).getD 0)] else if w = 116 then x ++ [0] else if w = 102 then (if x = [121,101,115] then [1] else [0]) else if w = 69 then [u8 t]
 else if w = 63 ∧ js = [] then [0] else if w = 85 ∨ w = 61 then u8 t :: js.flatten else if w = 63 then (js.map (1 :: ·)).flatten else (js.map (1 :: ·)).flatten ++ [0]
mutual
def V.key : V → adE
 | .nd w x t ks=>adp w x t (V.keys ks)
def V.keys : List V → List adE
 | []=>[]
 | v :: r=>V.key v :: V.keys r
end
theorem fB {s r : adE} {b : Bool} (h : cI s = some (b,r)) : s = (if b = true then 1 else 0) :: r:=by
 unfold cI at h
 split at h
 ·cases h
 ·rename_i c q
  split at h
  ·rename_i hc
   simp only [Option.some.injEq,Prod.mk.injEq] at h
   obtain ⟨rfl,rfl⟩:=h
   rw [bn hc dC];rfl
  ·split at h
   ·rename_i hc
    simp only [Option.some.injEq,Prod.mk.injEq] at h
    obtain ⟨rfl,rfl⟩:=h
    rw [bn hc dC];rfl
   ·cases h
theorem xp (r : adE) : cI (0 :: r) = some (false,r):=by rw [cI,if_pos dC]
theorem xn (r : adE) : cI (1 :: r) = some (true,r):=by rw [cI,if_neg dC,if_pos dC]
section
variable {ts : List Ty}
end
variable {ts : List Ty}
inductive LoK (ts : List Ty) : adE → V → Prop
 | num (k : adE) (n : Int) : 0 ≤ n → LoK ts (110 :: k) (.nd 110 (a8 n) 0 [])
 | txt (k x : adE) : dc (39 :: (x ++ [39])) = true → LoK ts (116 :: k) (.nd 116 x 0 [])
 | flg (k x : adE) : x = [121,101,115] ∨ x = [110,111] → LoK ts (102 :: k) (.nd 102 x 0 [])
 | lst (k : adE) (ks : List V) : (∀ v ∈ ks,LoK ts k v) → LoK ts (91 :: k) (.nd 91 [] 0 ks)
 | non (k : adE) : LoK ts (63 :: k) (.nd 63 [] 0 [])
 | opt (k : adE) (v : V) : LoK ts k v → LoK ts (63 :: k) (.nd 63 [] 0 [v])
 | recd (k : adE) (t : Ty) (fs : List (Fld × V)) : aX ts k = some t → t.sort = 82 → (∀ p ∈ fs,p.1 ∈ t.fields) → (∀ p ∈ fs,LoK ts p.1.kind p.2) → LoK ts k (.nd 82 [] 0 (fs.map aV))
 | enm (k : adE) (t : Ty) (d : Fld) : aX ts k = some t → t.sort = 69 → d ∈ t.fields → LoK ts k (.nd 69 [] d.tag [])
 | uni (k : adE) (t : Ty) (d : Fld) (v : V) : aX ts k = some t → t.sort ≠ 82 → t.sort ≠ 69 → d ∈ t.fields → LoK ts d.kind v → LoK ts k (.nd 85 [] d.tag [v])
variable {ts : List Ty} {st : Bool}
theorem q3 {e : UInt8} {t : adE} (h0 : e.toNat ≠ 0) (h1 : e.toNat ≠ 1) : cI (e :: t) = none:=by rw [cI,if_neg h0,if_neg h1]
variable {ts : List Ty}
theorem n7 {f : adE → Option (V × adE)} (h : ∀ s v r,f s = some (v,r) → r.length < s.length) : ∀ (m : Nat) (s : adE) (acc : List V) {x : List V × adE},bO f m s acc = some x → x.2.length + m ≤ s.length
 | 0,s,acc,x,e=>by simp only [bO,Option.some.injEq] at e;subst e;dsimp only;omega
 | m + 1,s,acc,x,e=>by
  unfold bO at e
  cases hf : f s with
  | none=>rw [hf] at e;cases e
  | some y =>
   rw [hf] at e
   obtain ⟨v,r⟩:=y
   have h1:=n7 h m r _ e
   have h2:=h _ _ _ hf
   omega
theorem lO {f : adE → adE → Option (V × adE)} {t : Ty} : ∀ (m : Nat) (last : Int) (s : adE) (acc : List V) {x : List V × adE},bS ts f t m last s acc = some x → x.2.length < s.length
 | 0,_,_,_,_,e=>by cases e
 | m + 1,last,s,acc,x,e=>by
  unfold bS at e
  cases hn : bI s with
  | none=>rw [hn] at e;cases e
  | some y =>
   rw [hn] at e
   obtain ⟨n,r⟩:=y
   have hl:=ce hn
   dsimp only at e
   split at e
   ·simp only [Option.some.injEq] at e;subst e;exact hl
   ·split at e
    ·cases e
    ·rename_i p r' hp
     have hl2:=eB hp
     split at e
     ·cases e
     ·split at e
      ·have:=lO m n r' _ e;omega
      ·split at e
       ·cases e
       ·have:=lO m n r' _ e;omega
theorem tJ {f : adE → adE → Option (V × adE)} {t : Ty} {s r : adE} {v : V} (e : b8 ts f t s = some (v,r)) : r.length < s.length:=by
 unfold b8 at e
 split at e
 ·cases hi : bS ts f t (s.length + 1) 0 s [] with
  | none=>rw [hi] at e;cases e
  | some y=>rw [hi] at e;cases e;exact lO _ _ _ _ hi
 ·split at e
  ·cases e
  ·rename_i n q hn
   have hl:=ce hn
   split at e
   ·cases e
   ·rename_i d hd
    split at e
    ·cases e;exact hl
    ·split at e
     ·cases e
     ·rename_i p r' hp
      have hl2:=eB hp
      cases ha : cU f d.kind p with
      | none=>rw [ha] at e;cases e
      | some w=>rw [ha] at e;cases e;omega
theorem px : ∀ (n : Nat) (k s : adE) (v : V) (r : adE),rb ts n k s = some (v,r) → r.length < s.length
 | 0,_,_,_,_,e=>by cases e
 | n + 1,k,s,v,r,e=>by
  have ih:=px n
  replace e : fT ts (rb ts n) k s = some (v,r):=e
  cases k with
  | nil=>cases e
  | cons c k =>
   unfold fT at e
   dsimp only at e
   split at e
   ·split at e
    ·cases e
    ·rename_i q1 q hn
     have hl:=ce hn
     split at e
     ·cases hi : bO (rb ts n k) q1.toNat q [] with
      | none=>rw [hi] at e;cases e
      | some y=>rw [hi] at e;cases e;have:=n7 (ih k) _ _ _ hi;omega
     ·cases e
   ·split at e
    ·cases hb : cI s with
     | none=>rw [hb] at e;cases e
     | some y =>
      rw [hb] at e
      obtain ⟨b,q⟩:=y
      have hl : s.length = q.length + 1:=by rw [fB hb];rfl
      cases b with
      | false=>cases e;omega
      | true =>
       dsimp only at e
       cases hf : rb ts n k q with
       | none=>rw [hf] at e;cases e
       | some y=>rw [hf] at e;obtain ⟨w,q2⟩:=y;cases e;have:=ih _ _ _ _ hf;dsimp only;omega
    ·split at e
     ·exact tJ e
     ·split at e
      ·cases hn : bI s with
       | none=>rw [hn] at e;cases e
       | some y=>rw [hn] at e;obtain ⟨a,q⟩:=y;cases e;exact ce hn
      ·split at e
       ·split at e
        ·cases e
        ·rename_i p q hp
         have hl2:=eB hp
         split at e
         ·cases e;omega
         ·cases e
       ·split at e
        ·cases hb : cI s with
         | none=>rw [hb] at e;cases e
         | some y=>rw [hb] at e;obtain ⟨b,q⟩:=y;have hl : s.length = q.length + 1:=by { rw [fB hb];rfl };cases e;dsimp only;omega
        ·cases e
theorem aaG {n : Nat} {k : adE} : rb ts n k [] = none:=by
 cases h : rb ts n k [] with
 | none=>rfl
 | some x=>have:=px n k [] x.1 x.2 h;simp at this
theorem v3 {n : Nat} {k s : adE} : rb ts (n + 1) (91 :: k) s = match bI s with
      | none=>none
      | some (m,r)=>if m ≤ 20 then (bO (rb ts n k) m.toNat r []).map fun x=>(.nd 91 [] 0 x.1,x.2) else none:=by
  rw [rb];unfold fT;dsimp only;rw [if_pos dC]
  all_goals (rcases bI s with _ | ⟨b,r⟩)
  all_goals rfl
theorem vZ {n : Nat} {k s : adE} : rb ts (n + 1) (63 :: k) s = match cI s with
      | none=>none
      | some (false,r)=>some (.nd 63 [] 0 [],r)
      | some (true,r)=>(rb ts n k r).map fun x=>(.nd 63 [] 0 [x.1],x.2):=by
  rw [rb];unfold fT;dsimp only;rw [if_neg dC,if_pos dC]
  all_goals (rcases cI s with _ | ⟨b,r⟩)
  all_goals (try cases b)
  all_goals rfl
theorem xm {n : Nat} {r s : adE} {t : Ty} (h : aX ts (64 :: r) = some t) : rb ts (n + 1) (64 :: r) s = b8 ts (rb ts n) t s:=by
 rw [rb];unfold fT;dsimp only;rw [if_neg dC,if_neg dC,h]
theorem aaH {n : Nat} {s : adE} (h : aX ts [110] = none) : rb ts (n + 1) [110] s = (bI s).map fun x=>(.nd 110 (a8 x.1) 0 [],x.2):=by
 rw [rb];unfold fT;dsimp only;rw [if_neg dC,if_neg dC,h];dsimp only;rw [if_pos dC]
theorem aaF {n : Nat} {s : adE} (h : aX ts [116] = none) : rb ts (n + 1) [116] s = match cx s with
          | none=>none
          | some (p,r)=>if dc (39 :: (p ++ [39])) = true then some (.nd 116 p 0 [],r) else none:=by
  rw [rb];unfold fT;dsimp only;rw [if_neg dC,if_neg dC,h];dsimp only;rw [if_neg dC,if_pos dC]
  all_goals (rcases cx s with _ | ⟨b,r⟩)
  all_goals rfl
theorem aaI {n : Nat} {s : adE} (h : aX ts [102] = none) : rb ts (n + 1) [102] s = (cI s).map fun x=>(.nd 102 (if x.1 = true then [121,101,115] else [110,111]) 0 [],x.2):=by
 rw [rb];unfold fT;dsimp only;rw [if_neg dC,if_neg dC,h];dsimp only;rw [if_neg dC,if_neg dC,if_pos dC]
theorem n6 {f : adE → Option (V × adE)} (h : ∀ s v r,f s = some (v,r) → v.tot + 100 * r.length ≤ 100 * s.length) : ∀ (m : Nat) (s : adE) (acc : List V) {x : List V × adE},bO f m s acc = some x → V.tots x.1 + 100 * x.2.length ≤ V.tots acc + 100 * s.length
 | 0,s,acc,x,e=>by simp only [bO,Option.some.injEq] at e;subst e;exact Nat.le_refl _
 | m + 1,s,acc,x,e=>by
  unfold bO at e
  cases hf : f s with
  | none=>rw [hf] at e;cases e
  | some y =>
   rw [hf] at e
   obtain ⟨v,r⟩:=y
   have h1:=n6 h m r _ e
   have h2:=h _ _ _ hf
   have e2 : V.tots (acc ++ [v]) = V.tots acc + v.tot:=by simp [dW,V.tots]
   omega
theorem lM {f : adE → adE → Option (V × adE)} (h : ∀ k s v r,f k s = some (v,r) → v.tot + 100 * r.length ≤ 100 * s.length) {t : Ty} : ∀ (m : Nat) (last : Int) (s : adE) (acc : List V) {x : List V × adE},bS ts f t m last s acc = some x → V.tots x.1 + 100 * x.2.length + 100 ≤ V.tots acc + 100 * s.length
 | 0,_,_,_,_,e=>by cases e
 | m + 1,last,s,acc,x,e=>by
  unfold bS at e
  cases hn : bI s with
  | none=>rw [hn] at e;cases e
  | some y =>
   rw [hn] at e
   obtain ⟨n,r⟩:=y
   have hl:=ce hn
   dsimp only at e
   split at e
   ·simp only [Option.some.injEq] at e;subst e;dsimp only;omega
   ·split at e
    ·cases e
    ·rename_i p r' hp
     have hl2:=eB hp
     split at e
     ·cases e
     ·split at e
      ·have:=lM h m n r' _ e;omega
      ·rename_i d hd
       split at e
       ·cases e
       ·rename_i v hv
        have h1:=lM h m n r' _ e
        have h2:=h _ _ _ _ (cS hv)
        have e2 : V.tots (acc ++ [V.nd 61 [] d.tag [v]]) = V.tots acc + (20 + v.tot):=by simp [dW,V.tots,V.tot]
        simp only [List.length_nil] at h2
        split at h1
        ·omega
        ·omega
theorem tI {f : adE → adE → Option (V × adE)} (h : ∀ k s v r,f k s = some (v,r) → v.tot + 100 * r.length ≤ 100 * s.length) {t : Ty} {s r : adE} {v : V} (e : b8 ts f t s = some (v,r)) : v.tot + 100 * r.length ≤ 100 * s.length:=by
 unfold b8 at e
 split at e
 ·cases hi : bS ts f t (s.length + 1) 0 s [] with
  | none=>rw [hi] at e;cases e
  | some y =>
   rw [hi] at e;cases e
   have:=lM h _ _ _ _ hi
   simp only [V.tot,V.tots,List.length_nil] at this ⊢;omega
 ·split at e
  ·cases e
  ·rename_i n q hn
   have hl:=ce hn
   split at e
   ·cases e
   ·rename_i d _
    split at e
    ·cases e;simp only [V.tot,V.tots,List.length_nil];omega
    ·split at e
     ·cases e
     ·rename_i p r' hp
      have hl2:=eB hp
      cases ha : cU f d.kind p with
      | none=>rw [ha] at e;cases e
      | some w =>
       rw [ha] at e;cases e
       have:=h _ _ _ _ (cS ha)
       simp only [V.tot,V.tots,List.length_nil] at this ⊢;omega
theorem j9 : ∀ (n : Nat) (k s : adE) (v : V) (r : adE),rb ts n k s = some (v,r) → v.tot + 100 * r.length ≤ 100 * s.length
 | 0,_,_,_,_,e=>by cases e
 | n + 1,k,s,v,r,e=>by
  have ih:=j9 n
  replace e : fT ts (rb ts n) k s = some (v,r):=e
  cases k with
  | nil=>cases e
  | cons c k =>
   unfold fT at e
   dsimp only at e
   split at e
   ·split at e
    ·cases e
    ·rename_i q1 q hn
     have hl:=ce hn
     split at e
     ·cases hi : bO (rb ts n k) q1.toNat q [] with
      | none=>rw [hi] at e;cases e
      | some y =>
       rw [hi] at e;cases e
       have:=n6 (ih k) _ _ _ hi
       simp only [V.tot,V.tots,List.length_nil] at this ⊢;omega
     ·cases e
   ·split at e
    ·cases hb : cI s with
     | none=>rw [hb] at e;cases e
     | some y =>
      rw [hb] at e
      obtain ⟨b,q⟩:=y
      have hl : s.length = q.length + 1:=by rw [fB hb];rfl
      cases b with
      | false=>cases e;simp only [V.tot,V.tots,List.length_nil];omega
      | true =>
       dsimp only at e
       cases hf : rb ts n k q with
       | none=>rw [hf] at e;cases e
       | some y=>rw [hf] at e;obtain ⟨w,q2⟩:=y;cases e;have:=ih _ _ _ _ hf;simp only [V.tot,V.tots,List.length_nil];omega
    ·split at e
     ·exact tI ih e
     ·split at e
      ·cases hn : bI s with
       | none=>rw [hn] at e;cases e
       | some y =>
        rw [hn] at e;obtain ⟨a,q⟩:=y;cases e
        have hl:=ce hn
        obtain ⟨h0,h1,_⟩:=di hn
        have:=gz (m:=a) h1
        simp only [V.tot,V.tots];omega
      ·split at e
       ·split at e
        ·cases e
        ·rename_i p q hp
         have hl2:=eB hp
         split at e
         ·cases e;simp only [V.tot,V.tots];omega
         ·cases e
       ·split at e
        ·cases hb : cI s with
         | none=>rw [hb] at e;cases e
         | some y =>
          rw [hb] at e;obtain ⟨b,q⟩:=y
          have hl : s.length = q.length + 1:=by rw [fB hb];rfl
          cases e
          cases b
          all_goals (simp [V.tot,V.tots];omega)
        ·cases e
theorem mZ {f : adE → Option (V × adE)} {m : Nat} {t r : adE} {acc : List V} {v : V} (hf : f t = some (v,r)) : bO f (m + 1) t acc = bO f m r (acc ++ [v]):=by
 rw [bO,hf]
theorem pz {f : adE → Option (V × adE)} {m : Nat} {t : adE} {acc : List V} (hf : f t = none) : bO f (m + 1) t acc = none:=by
 rw [bO,hf]
theorem r6 {f : adE → adE → Option (V × adE)} {ty : Ty} {m : Nat} {la : Int} {t r : adE} {acc : List V} (h : bI t = some (0,r)) : bS ts f ty (m + 1) la t acc = some (acc,r):=by rw [bS,h];dsimp only;rw [if_pos rfl]
theorem pE {f : adE → adE → Option (V × adE)} {ty : Ty} {m : Nat} {la : Int} {t : adE} {acc : List V} (h : bI t = none) : bS ts f ty (m + 1) la t acc = none:=by rw [bS,h]
theorem lN {f : adE → adE → Option (V × adE)} {ty : Ty} {m : Nat} {la n : Int} {t r : adE} {acc : List V} (h : bI t = some (n,r)) (h0 : n ≠ 0) (hp : cx r = none) : bS ts f ty (m + 1) la t acc = none:=by rw [bS,h];dsimp only;rw [if_neg h0,hp]
theorem pD {f : adE → adE → Option (V × adE)} {ty : Ty} {m : Nat} {la n : Int} {t r p r' : adE} {acc : List V} (h : bI t = some (n,r)) (h0 : n ≠ 0) (hp : cx r = some (p,r')) (hl : n ≤ la) : bS ts f ty (m + 1) la t acc = none:=by rw [bS,h];dsimp only;rw [if_neg h0,hp];dsimp only;rw [if_pos hl]
theorem n9 {f : adE → adE → Option (V × adE)} {ty : Ty} {m : Nat} {la n : Int} {t r p r' : adE} {acc : List V} (h : bI t = some (n,r)) (h0 : n ≠ 0) (hp : cx r = some (p,r')) (hl : ¬ n ≤ la) (hd : bB ty.fields n = none) : bS ts f ty (m + 1) la t acc = bS ts f ty m n r' acc:=by rw [bS,h];dsimp only;rw [if_neg h0,hp];dsimp only;rw [if_neg hl,hd]
theorem pC {f : adE → adE → Option (V × adE)} {ty : Ty} {m : Nat} {la n : Int} {t r p r' : adE} {acc : List V} {d : Fld} (h : bI t = some (n,r)) (h0 : n ≠ 0) (hp : cx r = some (p,r')) (hl : ¬ n ≤ la) (hd : bB ty.fields n = some d) (ha : cU f d.kind p = none) : bS ts f ty (m + 1) la t acc = none:=by rw [bS,h];dsimp only;rw [if_neg h0,hp];dsimp only;rw [if_neg hl,hd];dsimp only;rw [ha]
theorem pB {f : adE → adE → Option (V × adE)} {ty : Ty} {m : Nat} {la n : Int} {t r p r' : adE} {acc : List V} {d : Fld} {v : V} (h : bI t = some (n,r)) (h0 : n ≠ 0) (hp : cx r = some (p,r')) (hl : ¬ n ≤ la) (hd : bB ty.fields n = some d) (ha : cU f d.kind p = some v) : bS ts f ty (m + 1) la t acc = bS ts f ty m n r' (if v.out = bK ts d then acc else acc ++ [.nd 61 [] d.tag [v]]):=by rw [bS,h];dsimp only;rw [if_neg h0,hp];dsimp only;rw [if_neg hl,hd];dsimp only;rw [ha]
variable {G : Gh}
def lg (n : Int) : Value:=if 0 ≤ n ∧ n ≤ 999999 then Tu [S (bL n),Bo true] else Tu [S [],Bo false]
theorem w2 {n : Int} : aG adD 78 [I n] G (· = lg n):=by
 refine jE [(0,_)] Tryz.func78 Tryz.ntmps78 fun B hB=>?_
 repeat' (first | refine jR ?_ | (refine jo ?_;first | refine aK F ?_ | refine aw F ?_) | refine eD F F (fun _=>?_) (fun _=>?_) | refine ab F F ?_ | refine dJ F (fun _=>?_) (fun _=>?_))
 ·refine jY (vs:=[_,_]) ?_
  rw [eC,lg,if_neg oM]
 ·refine jY (vs:=[_,_]) ?_
  rw [eC,lg,if_neg oM]
 ·refine Nx.addNil 5 1 ?_
  refine aU (ι:=Value × adE × Int) (fun i=>0 ≤ i.2.2 ∧ i.2.2 ≤ 999999 ∧ i.2.1 ++ bL i.2.2 = bL n ∧ i.2.1.length ≤ 100) (fun i=>[(0,I i.2.2),(4,i.1)]) (fun _=>G) (fun i=>[.acc i.1 5 1 i.2.1.length (bM i.2.1)]) (fun i=>i.2.2.toNat) (aN,[],n) ?_ tU F aZ (fun i hI=>?_)
  ·dsimp only;refine ⟨?_,?_,?_,?_⟩ <;> first | omega | simp
  ·obtain ⟨v,l,m⟩:=i
   dsimp only at hI ⊢
   repeat' (first | refine jM ?_ | (refine jo ?_;first | refine jF fun _=>?_ | refine rO F F F F F F F F oM fun _=>?_ | refine jV (act F (by (repeat (first | exact BL.nil | apply BL.cons | apply BL.ap));done)) ?_) | refine dJ F (fun _=>?_) (fun _=>?_))
   ·have h1:=iA (n:=m) oM
    (refine a7 (_,l ++ [u8 (m % 128 + 128)],m / 128) ?_ ?_ tU F (by (dsimp only;simp only [xe,List.length_append,List.length_cons,List.length_nil,Nat.zero_add];repeat (first | exact List.nil_sublist _ | apply List.Sublist.cons_cons))))
    ·refine ⟨?_,?_,?_,?_⟩ <;> dsimp only
     ·omega
     ·omega
     ·rw [← hI.2.2.1,h1,Int.add_comm];simp
     ·have:=cL (n:=n) oM
      rw [← hI.2.2.1,h1] at this
      simp at this ⊢;omega
    ·dsimp only;omega
   ·refine jY (vs:=[_,_]) ?_
    rw [eC,lg,if_pos oM,← hI.2.2.1,gj oM hI.1]
theorem i5 {n : Int} (h : 0 ≤ n ∧ n ≤ 999999) : aG adD 41 [I n] G (· = S (bL n)):=by
 have e : lg n = Tu [S (bL n),Bo true]:=by rw [lg,if_pos h]
 have cx_NumPut : aG adD 78 [I n] G (· = Tu [S (bL n),Bo true]):=by rw [← e];exact w2
 refine jE [(0,_)] Tryz.func41 Tryz.ntmps41 fun B hB=>?_
 repeat' (first | refine jR ?_ | (refine jo ?_;refine ac F F F cx_NumPut F ?_))
 refine jY (vs:=[_]) ?_
 rfl
theorem ux {s : adE} (h : s.length ≤ 999999) : aG adD 71 [S s] G (· = S (bL s.length ++ s)):=by
 have:=cL (n:=s.length) oM
 refine jE [(0,_)] Tryz.func71 Tryz.ntmps71 fun B hB=>?_
 repeat' (first | refine jM ?_ | (refine jo ?_;refine ac F F F (i5 oM) F ?_))
 refine jY (vs:=[_]) ?_
 rfl
def ngV (o : Option (Int × adE)) : Value:=match o with
 | some (n,r)=>Tu [I n,S r,Bo true]
 | none=>Tu [I 0,S [],Bo false]
def tkV (o : Option (adE × adE)) : Value:=match o with
 | some (p,r)=>Tu [S p,S r,Bo true]
 | none=>Tu [S [],S [],Bo false]
def gk : Nat → Nat → adE → Option (Int × adE)
 | 0,_,s=>bI s
 | 1,m,s=>gC m s
 | 2,m,s=>gl m s
 | _,_,_=>none
theorem q8 : ∀ {i m : Nat},gk i m [] = none
 | 0,_=>rfl
 | 1,_=>rfl
 | 2,_=>rfl
 | _ + 3,_=>rfl
def fS : Nat → Int
 | 0=>1
 | 1=>128
 | 2=>16384
 | _=>2097152
def kv : Nat → Nat
 | 0=>1
 | 1=>128
 | 2=>16384
 | _=>2097152
theorem rf {m : Nat} {c : UInt8} {r : adE} (h : c.toNat < 128) : gk 0 m (c :: r) = some ((c.toNat : Int),r):=by show bI (c :: r) = _;rw [bI,if_pos h]
theorem ri {m : Nat} {c : UInt8} {r : adE} (h : ¬ c.toNat < 128) : gk 0 m (c :: r) = gk 1 (c.toNat % 128) r:=by show bI (c :: r) = gC (c.toNat % 128) r;rw [bI,if_neg h]
theorem nJ {i m : Nat} {c : UInt8} {r : adE} (h : c.toNat = 0) (hi : 1 ≤ i) : gk i m (c :: r) = none:=by
 match i,hi with
 | 1,_=>show gC m (c :: r) = none;rw [gC,if_pos oM,if_pos h]
 | 2,_=>show gl m (c :: r) = none;rw [gl,if_pos oM,if_pos (.inl h)]
 | _ + 3,_=>rfl
theorem rc {m : Nat} {c : UInt8} {r : adE} (h : c.toNat < 128) (h0 : c.toNat ≠ 0) : gk 1 m (c :: r) = some (((m + c.toNat * 128 : Nat) : Int),r):=by show gC m (c :: r) = _;rw [gC,if_pos h,if_neg h0]
theorem rh {m : Nat} {c : UInt8} {r : adE} (h : ¬ c.toNat < 128) : gk 1 m (c :: r) = gk 2 (m + c.toNat % 128 * 128) r:=by show gC m (c :: r) = gl (m + c.toNat % 128 * 128) r;rw [gC,if_neg h]
theorem ra {m : Nat} {c : UInt8} {r : adE} (h : c.toNat < 128) (h0 : c.toNat ≠ 0) (hm : m + c.toNat * 16384 ≤ 999999) : gk 2 m (c :: r) = some (((m + c.toNat * 16384 : Nat) : Int),r):=by show gl m (c :: r) = _;rw [gl,if_pos h,if_neg oM]
theorem rj {m : Nat} {c : UInt8} {r : adE} (h : c.toNat < 128) (hm : ¬ m + c.toNat * 16384 ≤ 999999) : gk 2 m (c :: r) = none:=by show gl m (c :: r) = _;rw [gl,if_pos h,if_pos oM]
theorem rg {m : Nat} {c : UInt8} {r : adE} (h : ¬ c.toNat < 128) : gk 2 m (c :: r) = none:=by show gl m (c :: r) = _;rw [gl,if_neg h]
theorem hO {s : adE} (hs : s.length ≤ 1000000) : aG adD 106 [S s] G (· = ngV (bI s)):=by
 refine jE [(0,_)] Tryz.func106 Tryz.ntmps106 fun B hB=>?_
 repeat' (refine jR ?_)
 refine aU (ι:=Nat × Nat) (fun q=>(q.1 ≤ s.length ∧ q.1 ≤ 3) ∧ q.2 < kv q.1 ∧ bI s = gk q.1 q.2 (s.drop q.1)) (fun q=>[(0,S s),(5,I q.2),(6,I (fS q.1)),(7,I q.1)]) (fun _=>G) (fun q=>[]) (fun q=>s.length - q.1) (0,0) ?_ tU F aZ (fun q Hq=>?_)
 ·exact ⟨⟨Nat.zero_le _,by decide⟩,by decide,F⟩
 obtain ⟨i,m⟩:=q
 dsimp only at Hq ⊢
 obtain ⟨⟨hi0,hi3⟩,hm,hng⟩:=Hq
 by_cases hi : i < s.length
 case neg =>
  have hno : bI s = none:=by rw [hng,List.drop_of_length_le oM];exact q8
  rw [hno]
  repeat' (first | refine jR ?_ | (refine jo ?_;refine aw F ?_) | refine am F F (aE oM) ?_ | refine ad F F ?_)
  all_goals refine jY (vs:=[_,_,_]) ?_
  all_goals rfl
 by_cases h3 : i = 3
 ·subst h3
  have hno : bI s = none:=by rw [hng];rfl
  rw [hno]
  repeat' (first | refine jR ?_ | (refine jo ?_;refine aK F ?_) | refine aA F F (aD oM) ?_ | refine ad F F ?_)
  all_goals refine jY (vs:=[_,_,_]) ?_
  all_goals rfl
 obtain ⟨c,hc1,hc2⟩:=iF hi
 rw [hc1] at hng
 have hc3 : bt s ((i : Int).toNat) = c.toNat:=hc2
 have hcl:=c.toNat_lt
 have hdl : s.drop ((i : Int) + 1).toNat = s.drop (i + 1):=by congr 1
 obtain rfl | rfl | rfl : i = 0 ∨ i = 1 ∨ i = 2:=oM
 ·have hm : m < 1:=hm
  rw [show fS 0 = 1 from rfl]
  by_cases h1 : c.toNat < 128
  ·rw [rf h1] at hng
   rw [hng]
   repeat' (first | refine jM ?_ | (refine jo ?_;first | refine aK F ?_ | refine aw F ?_) | refine aA F F (aD oM) ?_ | refine am F F F ?_ | (refine ab F (by first | rfl | (refine decide_eq_true ?_;(omega))) ?_) | refine ad F (aE oM) ?_ | (refine ak (ar (id:=11) _ (fun _ h=>h) aj ?_);refine jW 0 [0,1,2,3,4,5,6,7] (aa 8 255) ?_;refine jQ ?_))
   all_goals (try rw [hdl])
   all_goals refine jY (vs:=[_,_,_]) ?_
   all_goals (rw [hc3];exact (aL _ _ _).trans (congrArg (fun z : Int=>Tu [I z,S (s.drop (0 + 1)),Bo true]) oM))
  ·rw [ri h1] at hng
   repeat' (first | refine jM ?_ | (refine jo ?_;refine aK F ?_) | refine aA F F (aD oM) ?_ | refine ab F F ?_ | refine ad F (aE oM) ?_)
   refine Nx.re (d:=5) (v':=I ((c.toNat % 128 : Nat) : Int)) F (congrArg (Value.int .i64) (by rw [hc3];omega)) ?_
   refine Nx.re (d:=6) (v':=I (fS 1)) F (congrArg (Value.int .i64) F) ?_
   refine Nx.re (d:=7) (v':=I ((1 : Nat) : Int)) F (congrArg (Value.int .i64) F) ?_
   exact a7 (1,c.toNat % 128) ⟨⟨oM,oM⟩,by show _ < _;simp only [kv];omega,hng⟩ oM tU rfl aZ
 ·have hm : m < 128:=hm
  rw [show fS 1 = 128 from rfl]
  by_cases h1 : c.toNat < 128
  ·by_cases h0 : c.toNat = 0
   ·rw [nJ h0 dC] at hng
    rw [hng]
    repeat' (first | refine jM ?_ | (refine jo ?_;refine aK F ?_) | (refine aA F F (by first | rfl | (refine decide_eq_true ?_;(omega))) ?_) | (refine ab F (by first | rfl | (refine decide_eq_true ?_;(omega))) ?_))
    all_goals refine jY (vs:=[_,_,_]) ?_
    all_goals rfl
   rw [rc h1 h0] at hng
   rw [hng]
   repeat' (first | refine jM ?_ | (refine jo ?_;first | refine aK F ?_ | refine aw F ?_) | (refine aA F F (by first | rfl | (refine decide_eq_true ?_;(omega))) ?_) | refine am F F (aE oM) ?_ | (refine ab F (by first | rfl | (refine decide_eq_true ?_;(omega))) ?_) | refine ad F (aE oM) ?_ | (refine ak (ar (id:=11) _ (fun _ h=>h) aj ?_);refine jW 0 [0,1,2,3,4,5,6,7] (aa 8 255) ?_;refine jQ ?_))
   all_goals (try rw [hdl])
   all_goals refine jY (vs:=[_,_,_]) ?_
   all_goals (rw [hc3];exact (aL _ _ _).trans (congrArg (fun z : Int=>Tu [I z,S (s.drop (1 + 1)),Bo true]) oM))
  ·rw [rh h1] at hng
   repeat' (first | refine jM ?_ | (refine jo ?_;refine aK F ?_) | refine aA F F (aD oM) ?_ | refine ab F F ?_ | refine ad F (aE oM) ?_)
   refine Nx.re (d:=5) (v':=I ((m + c.toNat % 128 * 128 : Nat) : Int)) F (congrArg (Value.int .i64) (by rw [hc3];omega)) ?_
   refine Nx.re (d:=6) (v':=I (fS 2)) F (congrArg (Value.int .i64) (by show _ = (16384 : Int);omega)) ?_
   refine Nx.re (d:=7) (v':=I ((2 : Nat) : Int)) F (congrArg (Value.int .i64) F) ?_
   exact a7 (2,m + c.toNat % 128 * 128) ⟨⟨oM,oM⟩,by show _ < _;simp only [kv];omega,hng⟩ oM tU rfl aZ
 ·have hm : m < 16384:=hm
  rw [show fS 2 = 16384 from rfl]
  by_cases h1 : c.toNat < 128
  ·by_cases h0 : c.toNat = 0
   ·rw [nJ h0 dC] at hng
    rw [hng]
    repeat' (first | refine jM ?_ | (refine jo ?_;refine aK F ?_) | (refine aA F F (by first | rfl | (refine decide_eq_true ?_;(omega))) ?_) | (refine ab F (by first | rfl | (refine decide_eq_true ?_;(omega))) ?_))
    all_goals refine jY (vs:=[_,_,_]) ?_
    all_goals rfl
   by_cases hbig : m + c.toNat * 16384 ≤ 999999
   case neg =>
    rw [rj h1 hbig] at hng
    rw [hng]
    repeat' (first | refine jM ?_ | (refine jo ?_;first | refine aK F ?_ | refine aw F ?_) | (refine aA F F (by first | rfl | (refine decide_eq_true ?_;(omega))) ?_) | refine am F F (aE oM) ?_ | (refine ab F (by first | rfl | (refine decide_eq_true ?_;(omega))) ?_))
    all_goals refine jY (vs:=[_,_,_]) ?_
    all_goals rfl
   rw [ra h1 h0 hbig] at hng
   rw [hng]
   repeat' (first | refine jM ?_ | (refine jo ?_;first | refine aK F ?_ | refine aw F ?_) | (refine aA F F (by first | rfl | (refine decide_eq_true ?_;(omega))) ?_) | refine am F F (aE oM) ?_ | (refine ab F (by first | rfl | (refine decide_eq_true ?_;(omega))) ?_) | refine ad F (aE oM) ?_ | (refine ak (ar (id:=11) _ (fun _ h=>h) aj ?_);refine jW 0 [0,1,2,3,4,5,6,7] (aa 8 255) ?_;refine jQ ?_))
   all_goals (try rw [hdl])
   all_goals refine jY (vs:=[_,_,_]) ?_
   all_goals (rw [hc3];exact (aL _ _ _).trans (congrArg (fun z : Int=>Tu [I z,S (s.drop (2 + 1)),Bo true]) oM))
  ·rw [rg h1] at hng
   repeat' (first | refine jM ?_ | (refine jo ?_;refine aK F ?_) | refine aA F F (aD oM) ?_ | refine ab F F ?_ | refine ad F (aE oM) ?_)
   refine Nx.re (d:=5) (v':=I ((m + c.toNat % 128 * 16384 : Nat) : Int)) F (congrArg (Value.int .i64) (by rw [hc3];omega)) ?_
   refine Nx.re (d:=6) (v':=I (fS 3)) F (congrArg (Value.int .i64) (by show _ = (2097152 : Int);omega)) ?_
   refine Nx.re (d:=7) (v':=I ((3 : Nat) : Int)) F (congrArg (Value.int .i64) F) ?_
   exact a7 (3,m + c.toNat % 128 * 16384) ⟨⟨oM,oM⟩,by show _ < _;simp only [kv];omega,hng⟩ oM tU rfl aZ
theorem rH {s : adE} (hs : s.length ≤ 1000000) : aG adD 31 [S s] G (· = ngV (bI s)):=by
 refine jE [(0,_)] Tryz.func31 Tryz.ntmps31 fun B hB=>?_
 repeat' (refine jR ?_)
 refine aU (ι:=Nat × Nat) (fun q=>(q.1 ≤ s.length ∧ q.1 ≤ 3) ∧ q.2 < kv q.1 ∧ bI s = gk q.1 q.2 (s.drop q.1)) (fun q=>[(0,S s),(5,I q.2),(6,I (fS q.1)),(7,I q.1)]) (fun _=>G) (fun q=>[]) (fun q=>s.length - q.1) (0,0) ?_ tU F aZ (fun q Hq=>?_)
 ·exact ⟨⟨Nat.zero_le _,by decide⟩,by decide,F⟩
 obtain ⟨i,m⟩:=q
 dsimp only at Hq ⊢
 obtain ⟨⟨hi0,hi3⟩,hm,hng⟩:=Hq
 by_cases hi : i < s.length
 case neg =>
  have hno : bI s = none:=by rw [hng,List.drop_of_length_le oM];exact q8
  rw [hno]
  repeat' (first | refine jR ?_ | (refine jo ?_;refine aw F ?_) | refine am F F (aE oM) ?_ | refine ad F F ?_)
  all_goals refine jY (vs:=[_,_,_]) ?_
  all_goals rfl
 by_cases h3 : i = 3
 ·subst h3
  have hno : bI s = none:=by rw [hng];rfl
  rw [hno]
  repeat' (first | refine jR ?_ | (refine jo ?_;refine aK F ?_) | refine aA F F (aD oM) ?_ | refine ad F F ?_)
  all_goals refine jY (vs:=[_,_,_]) ?_
  all_goals rfl
 obtain ⟨c,hc1,hc2⟩:=iF hi
 rw [hc1] at hng
 have hc3 : bt s ((i : Int).toNat) = c.toNat:=hc2
 have hcl:=c.toNat_lt
 have hdl : s.drop ((i : Int) + 1).toNat = s.drop (i + 1):=by congr 1
 obtain rfl | rfl | rfl : i = 0 ∨ i = 1 ∨ i = 2:=oM
 ·have hm : m < 1:=hm
  rw [show fS 0 = 1 from rfl]
  by_cases h1 : c.toNat < 128
  ·rw [rf h1] at hng
   rw [hng]
   repeat' (first | refine jM ?_ | (refine jo ?_;first | refine aK F ?_ | refine aw F ?_) | refine aA F F (aD oM) ?_ | refine am F F F ?_ | (refine ab F (by first | rfl | (refine decide_eq_true ?_;(omega))) ?_) | refine ad F (aE oM) ?_ | (refine ak (ar (id:=11) _ (fun _ h=>h) aj ?_);refine jW 0 [0,1,2,3,4,5,6,7] (aa 8 255) ?_;refine jQ ?_))
   all_goals (try rw [hdl])
   all_goals refine jY (vs:=[_,_,_]) ?_
   all_goals (rw [hc3];exact (aL _ _ _).trans (congrArg (fun z : Int=>Tu [I z,S (s.drop (0 + 1)),Bo true]) oM))
  ·rw [ri h1] at hng
   repeat' (first | refine jM ?_ | (refine jo ?_;refine aK F ?_) | refine aA F F (aD oM) ?_ | refine ab F F ?_ | refine ad F (aE oM) ?_)
   refine Nx.re (d:=5) (v':=I ((c.toNat % 128 : Nat) : Int)) F (congrArg (Value.int .i64) (by rw [hc3];omega)) ?_
   refine Nx.re (d:=6) (v':=I (fS 1)) F (congrArg (Value.int .i64) F) ?_
   refine Nx.re (d:=7) (v':=I ((1 : Nat) : Int)) F (congrArg (Value.int .i64) F) ?_
   exact a7 (1,c.toNat % 128) ⟨⟨oM,oM⟩,by show _ < _;simp only [kv];omega,hng⟩ oM tU rfl aZ
 ·have hm : m < 128:=hm
  rw [show fS 1 = 128 from rfl]
  by_cases h1 : c.toNat < 128
  ·by_cases h0 : c.toNat = 0
   ·rw [nJ h0 dC] at hng
    rw [hng]
    repeat' (first | refine jM ?_ | (refine jo ?_;refine aK F ?_) | (refine aA F F (by first | rfl | (refine decide_eq_true ?_;(omega))) ?_) | (refine ab F (by first | rfl | (refine decide_eq_true ?_;(omega))) ?_))
    all_goals refine jY (vs:=[_,_,_]) ?_
    all_goals rfl
   rw [rc h1 h0] at hng
   rw [hng]
   repeat' (first | refine jM ?_ | (refine jo ?_;first | refine aK F ?_ | refine aw F ?_) | (refine aA F F (by first | rfl | (refine decide_eq_true ?_;(omega))) ?_) | refine am F F (aE oM) ?_ | (refine ab F (by first | rfl | (refine decide_eq_true ?_;(omega))) ?_) | refine ad F (aE oM) ?_ | (refine ak (ar (id:=11) _ (fun _ h=>h) aj ?_);refine jW 0 [0,1,2,3,4,5,6,7] (aa 8 255) ?_;refine jQ ?_))
   all_goals (try rw [hdl])
   all_goals refine jY (vs:=[_,_,_]) ?_
   all_goals (rw [hc3];exact (aL _ _ _).trans (congrArg (fun z : Int=>Tu [I z,S (s.drop (1 + 1)),Bo true]) oM))
  ·rw [rh h1] at hng
   repeat' (first | refine jM ?_ | (refine jo ?_;refine aK F ?_) | refine aA F F (aD oM) ?_ | refine ab F F ?_ | refine ad F (aE oM) ?_)
   refine Nx.re (d:=5) (v':=I ((m + c.toNat % 128 * 128 : Nat) : Int)) F (congrArg (Value.int .i64) (by rw [hc3];omega)) ?_
   refine Nx.re (d:=6) (v':=I (fS 2)) F (congrArg (Value.int .i64) (by show _ = (16384 : Int);omega)) ?_
   refine Nx.re (d:=7) (v':=I ((2 : Nat) : Int)) F (congrArg (Value.int .i64) F) ?_
   exact a7 (2,m + c.toNat % 128 * 128) ⟨⟨oM,oM⟩,by show _ < _;simp only [kv];omega,hng⟩ oM tU rfl aZ
 ·have hm : m < 16384:=hm
  rw [show fS 2 = 16384 from rfl]
  by_cases h1 : c.toNat < 128
  ·by_cases h0 : c.toNat = 0
   ·rw [nJ h0 dC] at hng
    rw [hng]
    repeat' (first | refine jM ?_ | (refine jo ?_;refine aK F ?_) | (refine aA F F (by first | rfl | (refine decide_eq_true ?_;(omega))) ?_) | (refine ab F (by first | rfl | (refine decide_eq_true ?_;(omega))) ?_))
    all_goals refine jY (vs:=[_,_,_]) ?_
    all_goals rfl
   by_cases hbig : m + c.toNat * 16384 ≤ 999999
   case neg =>
    rw [rj h1 hbig] at hng
    rw [hng]
    repeat' (first | refine jM ?_ | (refine jo ?_;first | refine aK F ?_ | refine aw F ?_) | (refine aA F F (by first | rfl | (refine decide_eq_true ?_;(omega))) ?_) | refine am F F (aE oM) ?_ | (refine ab F (by first | rfl | (refine decide_eq_true ?_;(omega))) ?_))
    all_goals refine jY (vs:=[_,_,_]) ?_
    all_goals rfl
   rw [ra h1 h0 hbig] at hng
   rw [hng]
   repeat' (first | refine jM ?_ | (refine jo ?_;first | refine aK F ?_ | refine aw F ?_) | (refine aA F F (by first | rfl | (refine decide_eq_true ?_;(omega))) ?_) | refine am F F (aE oM) ?_ | (refine ab F (by first | rfl | (refine decide_eq_true ?_;(omega))) ?_) | refine ad F (aE oM) ?_ | (refine ak (ar (id:=11) _ (fun _ h=>h) aj ?_);refine jW 0 [0,1,2,3,4,5,6,7] (aa 8 255) ?_;refine jQ ?_))
   all_goals (try rw [hdl])
   all_goals refine jY (vs:=[_,_,_]) ?_
   all_goals (rw [hc3];exact (aL _ _ _).trans (congrArg (fun z : Int=>Tu [I z,S (s.drop (2 + 1)),Bo true]) oM))
  ·rw [rg h1] at hng
   repeat' (first | refine jM ?_ | (refine jo ?_;refine aK F ?_) | refine aA F F (aD oM) ?_ | refine ab F F ?_ | refine ad F (aE oM) ?_)
   refine Nx.re (d:=5) (v':=I ((m + c.toNat % 128 * 16384 : Nat) : Int)) F (congrArg (Value.int .i64) (by rw [hc3];omega)) ?_
   refine Nx.re (d:=6) (v':=I (fS 3)) F (congrArg (Value.int .i64) (by show _ = (2097152 : Int);omega)) ?_
   refine Nx.re (d:=7) (v':=I ((3 : Nat) : Int)) F (congrArg (Value.int .i64) F) ?_
   exact a7 (3,m + c.toNat % 128 * 16384) ⟨⟨oM,oM⟩,by show _ < _;simp only [kv];omega,hng⟩ oM tU rfl aZ
theorem o7 {s : adE} (hs : s.length ≤ 1000000) : aG adD 68 [S s] G (· = tkV (cx s)):=by
 have cx_ng0:=hO (G:=G) (s:=s) hs
 unfold cx
 cases hg : bI s with
 | none =>
  rw [hg] at cx_ng0
  have cx_ng : aG adD 106 [S s] G (· = Tu [I 0,S [],Bo false]):=cx_ng0
  refine jE [(0,_)] Tryz.func68 Tryz.ntmps68 fun B hB=>?_
  repeat' (first | refine jR ?_ | (refine jo ?_;first | refine aK F ?_ | refine ac F F F cx_ng F ?_) | refine aA F F F ?_ | refine ab F F ?_)
  all_goals refine jY (vs:=[_,_,_]) ?_
  all_goals rfl
 | some z =>
  obtain ⟨n,r⟩:=z
  obtain ⟨h0,h1,_⟩:=di hg
  have hl:=ce hg
  rw [hg] at cx_ng0
  have cx_ng : aG adD 106 [S s] G (· = Tu [I n,S r,Bo true]):=cx_ng0
  dsimp only
  by_cases hb : n.toNat ≤ r.length
  ·rw [if_pos hb]
   refine jE [(0,_)] Tryz.func68 Tryz.ntmps68 fun B hB=>?_
   repeat' (first | refine jR ?_ | (refine jo ?_;first | refine aw F ?_ | refine ac F F F cx_ng F ?_) | refine am F F F ?_ | refine ad F (aE oM) ?_ | (refine ak (ar (id:=4) _ (fun _ h=>h) aj ?_);refine jW 0 [0,1,2,3,4,5,6,7,8] (aa 9 511) ?_;refine jQ ?_))
   all_goals refine jY (vs:=[_,_,_]) ?_
   all_goals rfl
  ·rw [if_neg hb]
   refine jE [(0,_)] Tryz.func68 Tryz.ntmps68 fun B hB=>?_
   repeat' (first | refine jR ?_ | (refine jo ?_;first | refine aw F ?_ | refine ac F F F cx_ng F ?_) | refine am F F F ?_ | refine ab F (aD oM) ?_)
   all_goals refine jY (vs:=[_,_,_]) ?_
   all_goals rfl
theorem xa {ts : List Ty} {k s : adE} {u : V} {t : adE} {N : Nat} (hN : 12 ≤ N) (hl : s.length ≤ 400) (h : rd ts N k s = some (u,t)) : bV ts k s = if t = [] ∧ V.deep u ≤ 12 then some u else none:=by
 unfold bV
 rw [if_pos hl]
 cases h12 : rd ts 12 k s with
 | none =>
  dsimp only
  rw [if_neg]
  rintro ⟨_,hd⟩
  have:=yp _ 12 k s _ h hd
  rw [h12] at this;cases this
 | some x =>
  have h1:=yo (m:=N) hN h12
  rw [h] at h1
  have hd:=jk _ _ _ _ h12
  obtain rfl:=Option.some.inj h1
  dsimp only at hd ⊢
  cases t with
  | nil=>dsimp only;rw [if_pos ⟨rfl,hd⟩]
  | cons c t=>dsimp only;rw [if_neg (fun h=>by cases h.1)]
theorem xd {ts : List Ty} {k s : adE} {N : Nat} (hN : 12 ≤ N) (hl : s.length ≤ 400) (h : rd ts N k s = none) : bV ts k s = none:=by
 unfold bV
 rw [if_pos hl]
 cases h12 : rd ts 12 k s with
 | none=>rfl
 | some x=>rw [yo (m:=N) hN h12] at h;cases h
theorem qJ {b : Nat} {qs : List cC} {k s : adE} (hS : ScI G b qs) (hw : SchW (ah qs)) (hk : aB (ah qs) k = true) (hs : s.length ≤ 10000000) :
  bd adD 96 [Pt b 0,Ag (c7 k),S s] G (fun v G'=>(bV (ah qs) k s = none ∧ v = Tu [zP,Bo false]) ∨ ∃ u c,bV (ah qs) k s = some u ∧ v = Tu [Ag (bG c),Bo true] ∧ V.rep G' u c):=by
 unfold c7
 by_cases hl : s.length ≤ 400
 case neg =>
  have hno : bV (ah qs) k s = none:=by unfold bV;rw [if_neg hl]
  refine jB [(0,_),(1,_),(2,_)] Tryz.func96 Tryz.ntmps96 fun B hok hB hW=>?_
  repeat' (first | refine jR ?_ | (refine jo ?_;first | refine jO fun _=>?_ | refine jL fun _=>?_ | refine jV (ao F F) ?_ | refine jC F F F ?_) | refine ab F (aD oM) ?_)
  all_goals refine jZ (vs:=[_,_]) F ⟨ay F F F F,F,trivial⟩ F ⟨Gh.le.refl _,F,?_⟩
  all_goals exact .inl ⟨hno,F⟩
 obtain ⟨N,hN⟩ : ∃ N,s.length + 12 ≤ N:=⟨_,Nat.le_refl _⟩
 have hN2 : 12 ≤ N:=oM
 have hV:=rR (sc:=b) hw N
 have cy_vl : ∀ {r : Nat},dD adD 144 [Pt r 0,Ag (c7 k)] G [eh r b s false] (iJ (rd (ah qs) N k) r b s false):=fun {r}=>hV G r k s false hS hk oM oM
 refine jB [(0,_),(1,_),(2,_)] Tryz.func96 Tryz.ntmps96 fun B hok hB hW=>?_
 repeat' (first | refine jR ?_ | (refine jo ?_;first | refine jO fun _=>?_ | refine jL fun _=>?_ | refine jV (ao F F) ?_ | refine aQ F ?_) | refine ad F (aE oM) ?_)
 refine jo ?_
 rename_i r
 refine cY F F F (cy_vl (r:=r)) F ?_
 rintro _ G1 _ hle ⟨u1,c1,t1,b1,rfl,hrep,rfl,hP⟩
 dsimp only [zA,fA]
 obtain ⟨hPl,hP0,hP1⟩:=hP
 cases b1 with
 | true =>
  have hno : bV (ah qs) k s = none:=xd hN2 hl (by rcases (hP1 rfl).1 with h | h;cases h;exact h)
  repeat' (first | refine jR ?_ | (refine jo ?_;first | refine jL fun _=>?_ | refine jV (ao F F) ?_ | refine jC F F F ?_ | refine al F ?_ | refine aK F ?_) | refine aA F F F ?_ | refine ab F F ?_)
  all_goals refine jZ (vs:=[_,_]) F ⟨ay F F F F,F,trivial⟩ F ⟨hle,F,?_⟩
  all_goals exact .inl ⟨hno,F⟩
 | false =>
  have hrd:=(hP0 rfl).2
  have hof:=xa hN2 hl hrd
  have htt:=iW _ _ _ _ hrd
  dsimp only at htt
  by_cases ht : t1 = []
  case neg =>
   have hno : bV (ah qs) k s = none:=by rw [hof,if_neg (fun h=>ht h.1)]
   repeat' (first | refine jR ?_ | (refine jo ?_;first | refine jL fun _=>?_ | refine jV (ao F F) ?_ | refine jC F F F ?_ | refine al F ?_ | refine aK F ?_ | refine aw F ?_) | refine aA F F (aD ‹_›) ?_ | refine am F F F ?_ | refine ab F F ?_)
   all_goals refine jZ (vs:=[_,_]) F ⟨ay F F F F,F,trivial⟩ F ⟨hle,F,?_⟩
   all_goals exact .inl ⟨hno,F⟩
  have hnn : ¬ t1 ≠ []:=fun h=>h ht
  have cx_dp:=wS (G:=G1) u1.tot (Nat.le_refl _) oM hrep
  have hdt:=oV u1
  by_cases hd : V.deep u1 ≤ 12
  ·have hyes : bV (ah qs) k s = some u1:=by rw [hof,if_pos ⟨ht,hd⟩]
   repeat' (first | refine jR ?_ | (refine jo ?_;first | refine jL fun _=>?_ | refine jC F F F ?_ | refine al F ?_ | refine aQ F ?_ | refine aw F ?_ | refine ac F F F cx_dp F ?_) | (refine am F F (by first | rfl | (refine decide_eq_false ?_;(assumption))) ?_) | refine ad F (aE oM) ?_)
   all_goals refine jZ (vs:=[_,_]) F ⟨ay F F F F,F,trivial⟩ F ⟨hle,F,?_⟩
   all_goals exact .inr ⟨u1,c1,hyes,F,hrep⟩
  ·have hno : bV (ah qs) k s = none:=by rw [hof,if_neg (fun h=>hd h.2)]
   repeat' (first | refine jR ?_ | (refine jo ?_;first | refine jL fun _=>?_ | refine jV (ao F F) ?_ | refine jC F F F ?_ | refine al F ?_ | refine aQ F ?_ | refine aw F ?_ | refine ac F F F cx_dp F ?_) | (refine am F F (by first | rfl | (refine decide_eq_false ?_;(assumption))) ?_) | refine ab F (aD oM) ?_)
   all_goals refine jZ (vs:=[_,_]) F ⟨ay F F F F,F,trivial⟩ F ⟨hle,F,?_⟩
   all_goals exact .inl ⟨hno,F⟩
theorem iQ {s k : adE} (h : cz s k = true) : ∃ ts,aP s = some ts ∧ aB ts k = true ∧ SchW ts:=by
 unfold cz at h
 cases h1 : aP s with
 | none=>rw [h1] at h;cases h
 | some ts=>rw [h1] at h;exact ⟨ts,F,h,b6 h1⟩
def cW (s k v : adE) : Option V:=match aP s with
 | some ts=>if aB ts k = true then bV ts k v else none
 | none=>none
theorem s9 {s k w : adE} (h : s.length ≤ 1048576 ∧ k.length ≤ 1048576 ∧ w.length ≤ 1048576) (hno : cW s k w = none) : bd adD 53 [S s,S k,S w] G (fun v _=>∃ p a b c,v = Tu [p,Ag [S a,S b,S c],zP,Bo false]):=by
 by_cases hk : cz s k = true
 case neg =>
  have cx_bo1 : ∀ G,bd adD 50 [S s,S k] G (fun v _=>∃ p a b c,v = Tu [p,Ag [S a,S b,S c],Bo false]):=fun G=>by
   refine (nx (G:=G) (s:=s) (k:=k) oM oM).mono ?_
   rintro v G' L' ⟨h1,h2,⟨_,p,a,b,c,rfl⟩ | ⟨b,qs,rfl,h4,h5,_⟩⟩
   ·exact ⟨h1,h2,p,a,b,c,F⟩
   ·exact absurd (by unfold cz;rw [h4];exact h5) hk
  refine jB [(0,_),(1,_),(2,_)] Tryz.func53 Tryz.ntmps53 fun B hok hB hW=>?_
  repeat' (first | refine jR ?_ | (refine jo ?_;first | refine jL fun _=>?_ | refine jC F F F ?_ | refine jV (ao F F) ?_ | (refine aF F F F (cx_bo1 _) F ?_;rintro _ G hle ⟨p1,a1,b1,c1,rfl⟩;skip)) | refine ab F F ?_)
  all_goals refine jZ (vs:=[_,_,_,_]) F ⟨F,ay F F F F,ay F F F F,F,trivial⟩ F ⟨hle,F,?_⟩
  all_goals exact ⟨_,_,_,_,F⟩
 obtain ⟨ts,hs,hki,hw⟩:=iQ hk
 have hvo : bV ts k w = none:=by unfold cW at hno;rw [hs] at hno;dsimp only at hno;rwa [if_pos hki] at hno
 have cx_boa : ∀ G,bd adD 50 [S s,S k] G (fun v G'=>∃ b qs,v = Tu [Pt b 0,Ag [S (sg k),S (bs k),S (nm k)],Bo true] ∧ ah qs = ts ∧ ScI G' b qs):=fun G=>by
  refine (nx (G:=G) (s:=s) (k:=k) oM oM).mono ?_
  rintro v G' L' ⟨h1,h2,⟨h4,_⟩ | ⟨b,qs,rfl,h4,h5,h6⟩⟩
  ·rw [h4] at hk;cases hk
  ·rw [hs] at h4;exact ⟨h1,h2,b,qs,F,(Option.some.inj h4).symm,h6⟩
 have cx_ri0 : ∀ G b qs,ah qs = ts → ScI G b qs → bd adD 96 [Pt b 0,Ag [S (sg k),S (bs k),S (nm k)],S w] G (fun v _=>v = Tu [zP,Bo false]):=fun G b qs hq hS=>by
  subst hq
  refine (qJ (G:=G) (b:=b) (s:=w) hS hw hki oM).mono ?_
  rintro v G' L' ⟨h1,h2,⟨_,rfl⟩ | ⟨u,c,h4,_⟩⟩
  ·exact ⟨h1,h2,F⟩
  ·rw [hvo] at h4;cases h4
 refine jB [(0,_),(1,_),(2,_)] Tryz.func53 Tryz.ntmps53 fun B hok hB hW=>?_
 repeat' (first | refine jR ?_ | (refine jo ?_;first | refine jL fun _=>?_ | refine jC F F F ?_ | refine aQ F ?_ | (refine aF F F F (cx_boa _) F ?_;rintro _ G hle ⟨ba,qa,rfl,hT1,hR1⟩;skip) | (refine aF F F F ((cx_ri0 _ _ _) (by (repeat (assumption));done) (by (repeat (assumption));done)) rfl ?_;rintro _ G hle rfl;skip)) | refine ad F F ?_ | (refine ak (dL (id:=5) (tt:=7) F aj ?_);refine jW 5 [0,3,4] (aa 8 25) ?_;(refine jG (aa 8 27) 1 F (bz F F F F) ?_);(refine jG (aa 8 31) 2 F (bz F F F F) ?_);refine jA 5 F ?_;(refine jC F F F ?_);refine jK (aa 8 63) ?_;refine jA 6 F ?_;(refine jC F F F ?_);refine jK (aa 8 127) ?_;refine jW 0 [7] (aa 8 255) ?_;refine jQ ?_))
 all_goals refine jZ (vs:=[_,_,_,_]) F ⟨F,ay F F F F,ay F F F F,F,trivial⟩ F ⟨(Gh.le.trans aS hle),F,?_⟩
 all_goals exact ⟨_,_,_,_,F⟩
theorem s8 {s k w : adE} {u : V} {ts : List Ty} (h : s.length ≤ 1048576 ∧ k.length ≤ 1048576 ∧ w.length ≤ 1048576) (hs : aP s = some ts) (hki : aB ts k = true) (hvo : bV ts k w = some u) :
  bd adD 53 [S s,S k,S w] G (fun v G'=>∃ b qs cv,v = Tu [Pt b 0,Ag [S (sg k),S (bs k),S (nm k)],Ag (bG cv),Bo true] ∧ ah qs = ts ∧ ScI G' b qs ∧ V.rep G' u cv):=by
 have hw:=b6 hs
 have hk : cz s k = true:=by unfold cz;rw [hs];exact hki
 have cx_boa : ∀ G,bd adD 50 [S s,S k] G (fun v G'=>∃ b qs,v = Tu [Pt b 0,Ag [S (sg k),S (bs k),S (nm k)],Bo true] ∧ ah qs = ts ∧ ScI G' b qs):=fun G=>by
  refine (nx (G:=G) (s:=s) (k:=k) oM oM).mono ?_
  rintro v G' L' ⟨h1,h2,⟨h4,_⟩ | ⟨b,qs,rfl,h4,h5,h6⟩⟩
  ·rw [h4] at hk;cases hk
  ·rw [hs] at h4;exact ⟨h1,h2,b,qs,F,(Option.some.inj h4).symm,h6⟩
 have cx_ri1 : ∀ G b qs,ah qs = ts → ScI G b qs → bd adD 96 [Pt b 0,Ag [S (sg k),S (bs k),S (nm k)],S w] G (fun v G'=>∃ cv,v = Tu [Ag (bG cv),Bo true] ∧ V.rep G' u cv):=fun G b qs hq hS=>by
  subst hq
  refine (qJ (G:=G) (b:=b) (s:=w) hS hw hki oM).mono ?_
  rintro v G' L' ⟨h1,h2,⟨h4,_⟩ | ⟨u',c,h4,rfl,h5⟩⟩
  ·rw [hvo] at h4;cases h4
  ·rw [hvo] at h4;obtain rfl:=Option.some.inj h4;exact ⟨h1,h2,c,F,h5⟩
 refine jB [(0,_),(1,_),(2,_)] Tryz.func53 Tryz.ntmps53 fun B hok hB hW=>?_
 repeat' (first | refine jR ?_ | (refine jo ?_;first | refine jL fun _=>?_ | refine jC F F F ?_ | refine aQ F ?_ | (refine aF F F F (cx_boa _) F ?_;rintro _ G hle ⟨ba,qa,rfl,hT1,hR1⟩;skip) | (refine aF F F F ((cx_ri1 _ _ _) (by (repeat (assumption));done) (by (repeat (assumption));done)) rfl ?_;rintro _ G hle ⟨cv,rfl,hrv⟩;skip)) | refine ad F F ?_)
 rename_i x7 x8 Ga hla x11 x13
 dsimp only [bG,VC.sl]
 (refine ak (ar (id:=5) [.blk x13 (.cells (List.toArray [U8 (cv.what : Nat),S cv.text,I cv.tag,.slice cv.a cv.n cv.c]) dI (0,0)),.blk x11 (.cells (List.toArray [S (sg k),S (bs k),S (nm k)]) e9 (0,0))] (by intro y hy;simp only [List.mem_cons,List.not_mem_nil,or_false] at hy ⊢;rcases hy with hy | hy <;> simp [hy]) aj ?_);refine jW 5 [0,3,4] (aa 8 25) ?_;(refine jG (aa 8 27) 1 F (bz F F F F) ?_);(refine jG (aa 8 31) 2 F (bz F F F F) ?_);refine jA 5 F ?_;(refine jC F F F ?_);refine jK (aa 8 63) ?_;refine jA 6 F ?_;(refine jC F F F ?_);refine jK (aa 8 127) ?_;refine jW 0 [7] (aa 8 255) ?_;refine jQ ?_)
 all_goals repeat' (refine jR ?_)
 all_goals refine jZ (vs:=[_,_,_,_]) F ⟨F,ay F F F F,ay F F F F,F,trivial⟩ F ⟨(Gh.le.trans aS hle),F,?_⟩
 all_goals exact ⟨ba,qa,cv,F,hT1,hR1.mono hle,hrv⟩
def eR (b : Nat) : List Value:=[Pt b 0]
instance : RowF eR 1:=⟨fun _=>rfl⟩
def eb (n : Int) : List Value:=[I n]
instance : RowF eb 1:=⟨fun _=>rfl⟩
abbrev adj : TypeId:=9
abbrev qT : TypeId:=120
inductive RepR (G : Gh) (ts : List Ty) : V → adE → Nat → Prop
 | leaf (w : Nat) (x k tx : adE) (b : Nat) : cH G b 0 [S k,S tx,aN,aN] → ((w = 110 ∧ k = [110] ∧ tx = x ∧ ∀ c ∈ x,bc c = true) ∨ (w = 116 ∧ k = [116] ∧ tx = 39 :: (x ++ [39])) ∨ (w = 102 ∧ k = [102] ∧ tx = x ∧ (x = [121,101,115] ∨ x = [110,111]))) → RepR G ts (.nd w x 0 []) k b
 | lst (k : adE) (b : Nat) (ks : List V) (bs : List Nat) (a : Option Addr) (c : Nat) : cH G b 0 [S (91 :: k),S [],aN,.slice a ks.length c] → bq G (.slice a ks.length c) 1 ks.length (ax eR bs) → bs.length = ks.length → (∀ i,i < ks.length → RepR G ts (ae ks i) k (ae bs i)) → RepR G ts (.nd 91 [] 0 ks) (91 :: k) b
 | non (k : adE) (b : Nat) : cH G b 0 [S (63 :: k),S [],aN,aN] → RepR G ts (.nd 63 [] 0 []) (63 :: k) b
 | opt (k : adE) (b kb b' cc : Nat) (v : V) : 1 ≤ cc → cH G b 0 [S (63 :: k),S [],aN,.slice (some ⟨kb,0,none⟩) 1 cc] → cH G kb 0 [Pt b' 0] → RepR G ts v k b' → RepR G ts (.nd 63 [] 0 [v]) (63 :: k) b
 | recd (k : adE) (b : Nat) (t : Ty) (fs : List (Fld × V)) (bs : List Nat) (a a2 : Option Addr) (c c2 : Nat) : aX ts k = some t ∧ t.sort = 82 → cH G b 0 [S k,S [82],.slice a fs.length c,.slice a2 fs.length c2] → bq G (.slice a fs.length c) 1 fs.length (ax eb (fs.map fun p=>p.1.tag)) → bq G (.slice a2 fs.length c2) 1 fs.length (ax eR bs) → bs.length = fs.length → (∀ i,i < fs.length → (ae fs i).1 ∈ t.fields) → (∀ i,i < fs.length → RepR G ts (ae fs i).2 (ae fs i).1.kind (ae bs i)) → RepR G ts (.nd 82 [] 0 (fs.map fun p=>.nd 61 [] p.1.tag [p.2])) k b
 | enm (k : adE) (b tb : Nat) (t : Ty) (d : Fld) {tc : Nat} : aX ts k = some t ∧ t.sort = 69 → d ∈ t.fields → cH G b 0 [S k,S [69],.slice (some ⟨tb,0,none⟩) 1 (tc + 1),aN] → cH G tb 0 [I d.tag] → RepR G ts (.nd 69 [] d.tag []) k b
 | uni (k : adE) (b tb kb b' cc : Nat) (t : Ty) (d : Fld) (v : V) {tc : Nat} : 1 ≤ cc → aX ts k = some t ∧ t.sort = 85 → d ∈ t.fields → cH G b 0 [S k,S [85],.slice (some ⟨tb,0,none⟩) 1 (tc + 1),.slice (some ⟨kb,0,none⟩) 1 cc] → cH G tb 0 [I d.tag] → cH G kb 0 [Pt b' 0] → RepR G ts v d.kind b' → RepR G ts (.nd 85 [] d.tag [v]) k b
theorem RepR.mono {G G' : Gh} {ts : List Ty} (hl : Gh.le G G') {v : V} {k : adE} {b : Nat} (h : RepR G ts v k b) : RepR G' ts v k b:=by
 induction h with
 | leaf w x k tx b h1 h2=>exact .leaf w x k tx b (h1.mono hl) h2
 | lst k b ks bs a c h1 h2 h3 _ ih=>exact .lst k b ks bs a c (h1.mono hl) (h2.mono hl) h3 ih
 | non k b h1=>exact .non k b (h1.mono hl)
 | opt k b kb b' cc v h0 h1 h2 _ ih=>exact .opt k b kb b' cc v h0 (h1.mono hl) (h2.mono hl) ih
 | recd k b t fs bs a a2 c c2 h0 h1 h2 h3 h4 h5 _ ih=>exact .recd k b t fs bs a a2 c c2 h0 (h1.mono hl) (h2.mono hl) (h3.mono hl) h4 h5 ih
 | enm k b tb t d h0 h1 h2 h3=>exact .enm k b tb t d h0 h1 (h2.mono hl) (h3.mono hl)
 | uni k b tb kb b' cc t d v hcc h0 h1 h2 h3 h4 _ ih=>exact .uni k b tb kb b' cc t d v hcc h0 h1 (h2.mono hl) (h3.mono hl) (h4.mono hl) ih
def cD (ts : List Ty) (f : Option (V × adE)) (k : adE) (v : Value) (G' : Gh) : Prop :=
 ∃ q rest ok,v = Tu [.pointer q,S rest,Bo ok] ∧ (ok = true → ∃ w b,q = some ⟨b,0,none⟩ ∧ f = some (w,rest) ∧ RepR G' ts w k b) ∧ (ok = false → f = none)
theorem tf {s : adE} (hs : s.length ≤ 100000000) : aG adD 191 [S s] G (· = I ((s.takeWhile bc).length : Nat)):=by
 refine jE [(0,_)] Tryz.func191 Tryz.ntmps191 fun B hB=>?_
 repeat' (refine jR ?_)
 refine aU (ι:=Nat) (fun i=>i ≤ s.length ∧ i + ((s.drop i).takeWhile bc).length = (s.takeWhile bc).length) (fun i=>[(0,S s),(3,I i)]) (fun _=>G) (fun i=>[]) (fun i=>s.length - i) 0 ?_ tU F aZ (fun i Hi=>?_)
 ·exact ⟨Nat.zero_le _,by simp⟩
 obtain ⟨hi0,hi1⟩:=Hi
 by_cases hi : i < s.length
 ·obtain ⟨c,hc1,hc2⟩:=iF hi
  have hc3 : bt s ((i : Int).toNat) = c.toNat:=hc2
  rw [hc1,List.takeWhile_cons] at hi1
  by_cases hd : bc c = true
  ·rw [if_pos hd] at hi1
   have hd2:=hd
   unfold bc at hd2
   rw [decide_eq_true_eq] at hd2
   simp only [List.length_cons] at hi1
   repeat' (first | refine jM ?_ | (refine jo ?_;refine aK F ?_) | refine aA F F (aD oM) ?_ | refine ab F (aD oM) ?_)
   exact a7 (i + 1) ⟨oM,oM⟩ oM tU F aZ
  ·rw [if_neg hd] at hi1
   have hd2 : ¬ (48 ≤ c.toNat ∧ c.toNat ≤ 57):=fun h=>hd (by unfold bc;rw [decide_eq_true_eq];exact h)
   simp only [List.length_nil] at hi1
   repeat' (first | refine jM ?_ | (refine jo ?_;first | refine aK F ?_ | refine aw F ?_) | refine aA F F (aD oM) ?_ | refine eD F F (fun _=>?_) (fun _=>?_) | (refine ad F (by first | rfl | (refine decide_eq_false ?_;(omega))) ?_))
   all_goals refine jY (vs:=[_]) ?_
   all_goals (rw [aH,← hi1];rfl)
 ·have : i = s.length:=oM
  rw [this,List.drop_length] at hi1
  simp only [List.takeWhile_nil,List.length_nil] at hi1
  repeat' (first | refine jR ?_ | (refine jo ?_;refine aw F ?_) | (refine am F F (by first | rfl | (refine decide_eq_false ?_;(omega))) ?_) | refine ad F F ?_)
  all_goals refine jY (vs:=[_]) ?_
  all_goals (rw [aH,← hi1,this];rfl)
theorem pe (q : UInt8 → Bool) (s : adE) : s.take ((((s.takeWhile q).length : Nat) : Int)).toNat = s.takeWhile q ∧ s.drop ((((s.takeWhile q).length : Nat) : Int)).toNat = s.dropWhile q:=by
 have h:=List.takeWhile_append_dropWhile (p:=q) (l:=s)
 have e : ((((s.takeWhile q).length : Nat) : Int)).toNat = (s.takeWhile q).length:=oM
 rw [e]
 constructor
 ·have h2 : (s.takeWhile q ++ s.dropWhile q).take (s.takeWhile q).length = s.takeWhile q:=List.take_left
  rwa [h] at h2
 ·have h2 : (s.takeWhile q ++ s.dropWhile q).drop (s.takeWhile q).length = s.dropWhile q:=List.drop_left
  rwa [h] at h2
theorem xT {u : Value} {ts : List Ty} {s : adE} (hu : u.oneCell' = true) (hs : s.length ≤ 100000000) : bd adD 154 [Ag [u],S s,S [110]] G (cD ts ((cq 999999 s).map fun x=>(.nd 110 (a8 x.1) 0 [],x.2)) [110]):=by
 have cx_dg:=tf (G:=G) hs
 obtain ⟨e1,e2⟩:=pe bc s
 have hwl:=d6 bc s
 have hlen : (s.take ((((s.takeWhile bc).length : Nat) : Int)).toNat).length ≤ 100000000:=by rw [e1];omega
 refine jB [(0,_),(1,_),(2,_)] Tryz.func154 Tryz.ntmps154 fun B hok hB hW=>?_
 repeat' (first | refine jM ?_ | (refine jo ?_;first | refine jO fun _=>?_ | refine ac F F F cx_dg F ?_ | (refine dn F F F (gt oM) F ?_;rintro _ ⟨n,rfl,hnum⟩)) | refine ab F F ?_ | (refine ak (ar (id:=6) _ (fun _ h=>h) aj ?_);refine jW 5 [0,1,2,3,6,7,8,9] (aa 13 975) ?_;(refine jG (aa 13 991) 4 F (ao F F) ?_);refine jA 5 F ?_;(refine jO fun _=>?_);refine jS (aa 13 1023) ?_;refine jT 0 [10,11,12] (aa 13 8191) ?_;refine jQ ?_))
 rename_i x3 x4
 refine Nx.sealC (b:=x4) fun G2 hG2 hsy=>?_
 refine jZ (vs:=[_,_,_]) F ⟨F,F,F,trivial⟩ F ⟨hG2,F,?_⟩
 rw [aL]
 rw [e1] at hnum hsy
 rw [e1,e2]
 refine ⟨_,_,_,F,fun h=>?_,fun h=>?_⟩
 ·cases hm : aM (s.takeWhile bc) 999999 with
  | none=>rw [hm] at h;cases h
  | some m =>
   have hmd:=(dE hm).2.1
   refine ⟨.nd 110 (a8 m) 0 [],x4,F,by unfold cq;rw [hm];rfl,.leaf 110 _ _ _ _ hsy (.inl ⟨rfl,rfl,hmd,fun c hc=>List.all_eq_true.1 (List.all_takeWhile (l:=s) (p:=bc)) c (by rw [hmd];exact hc)⟩)⟩
 ·cases hm : aM (s.takeWhile bc) 999999 with
  | none=>unfold cq;rw [hm];rfl
  | some m=>rw [hm] at h;cases h
theorem pF {c : UInt8} {r : adE} {i : Nat} (hc : i ≤ r.length) (hn : ∀ j,j < i → bt r j ≠ 39) (hi : i = r.length ∨ bt r i = 39 ∧ i < r.length) :
  (dw (c :: r) = if dc ((c :: r).take (min (i + 2) (r.length + 1))) = true then some (.nd 116 (r.take i) 0 [],r.drop (i + 1)) else none) ∧ (dc ((c :: r).take (min (i + 2) (r.length + 1))) = true → (c :: r).take (min (i + 2) (r.length + 1)) = 39 :: (r.take i ++ [39])):=by
 unfold dw
 dsimp only
 rcases hi with hi | ⟨h39,hlt⟩
 ·have hcut : aJ 39 r = (r,[],false):=qH fun j hj=>hn j oM
  have htk : (c :: r).take (min (i + 2) (r.length + 1)) = c :: r:=List.take_of_length_le (by simp;omega)
  have hno : dc (c :: r) = false:=by
   unfold dc
   refine decide_eq_false fun h=>?_
   obtain ⟨⟨h2,_⟩,_,h3,_⟩:=h
   simp only [List.length_cons] at h2
   rw [show (c :: r).length - 1 = (r.length - 1) + 1 by simp;omega,dQ] at h3
   exact hn (r.length - 1) oM h3
  rw [hcut,htk,hno]
  exact ⟨by simp,fun h=>(by cases h)⟩
 ·have hcut:=nN (k:=39) hlt hn h39
  have htk : (c :: r).take (min (i + 2) (r.length + 1)) = c :: (r.take i ++ [39]):=by
   rw [show min (i + 2) (r.length + 1) = (i + 1) + 1 by omega,List.take_succ_cons,cr hlt]
   congr 1;congr 1;congr 1
   rw [aI hlt]
   have : bt r i = (r[i]).toNat:=by simp [bt,List.getD,List.getElem?_eq_getElem hlt]
   exact UInt8.toNat_inj.1 (by rw [← this,h39];rfl)
  rw [hcut,htk]
  dsimp only
  by_cases h : c.toNat = 39
  ·rw [if_pos h,show c = 39 from UInt8.toNat_inj.1 h]
   exact ⟨F,fun _=>rfl⟩
  ·have hno : ¬ dc (c :: (r.take i ++ [39])) = true:=fun ht=>by
    unfold dc at ht
    rw [decide_eq_true_eq] at ht
    exact h (by have:=ht.2.1;rwa [a6] at this)
   rw [if_neg h,if_neg hno]
   exact ⟨F,fun h2=>absurd h2 hno⟩
theorem xS {u : Value} {ts : List Ty} {s : adE} (hu : u.oneCell' = true) (hs : s.length ≤ 100000000) (hne : s ≠ []) : bd adD 154 [Ag [u],S s,S [116]] G (cD ts (dw s) [116]):=by
 match s,hne with
 | c :: r,_ =>
 simp only [List.length_cons] at hs
 have hcl : (c :: r).length = r.length + 1:=rfl
 refine jB [(0,_),(1,_),(2,_)] Tryz.func154 Tryz.ntmps154 fun B hok hB hW=>?_
 repeat' (first | refine jR ?_ | (refine jo ?_;refine jO fun _=>?_) | refine ab F F ?_ | refine ad F F ?_)
 rename_i x3
 refine aU (ι:=Nat) (fun i=>i ≤ r.length ∧ ∀ j,j < i → bt r j ≠ 39) (fun i=>[(1,S (c :: r)),(2,S [116]),(9,I (i + 1 : Nat))]) (fun _=>G) (fun i=>[]) (fun i=>r.length - i) 0 ?_ tU F (by repeat (exact List.nil_sublist _)) (fun i Hi=>?_)
 ·exact ⟨Nat.zero_le _,fun j hj=>absurd hj oM⟩
 obtain ⟨hi0,hi1⟩:=Hi
 have hb : bt (c :: r) ((i + 1 : Nat) : Int).toNat = bt r i:=dQ c r i
 by_cases hi : i < r.length
 ·by_cases h39 : bt r i = 39
  ·have h39' : bt (c :: r) ((i + 1 : Nat) : Int).toNat = 39:=by rw [hb];exact h39
   have hq:=pF (c:=c) hi0 hi1 (.inr ⟨h39,hi⟩)
   have e3 : (min (((i + 1 : Nat) : Int) + 1) ((((c :: r).length : Nat) : Int))).toNat = min (i + 2) (r.length + 1):=oM
   have cx_tx:=fF (G:=G) (s:=(c :: r).take (min (((i + 1 : Nat) : Int) + 1) ((((c :: r).length : Nat) : Int))).toNat) (by rw [List.length_take];omega)
   repeat' (first | refine jM ?_ | (refine jo ?_;first | refine aK F ?_ | refine jV (vn F F) ?_) | refine aA F F (aD oM) ?_ | refine ad F (aE oM) ?_ | (refine ak (ar (id:=12) _ (fun _ h=>h) aj ?_);refine jW 6 [0,1,2,3,6,7,8,9,10,11] (aa 16 4047) ?_;(refine jG (aa 16 4063) 4 F (ao F F) ?_);refine cX [5,12] kR dC ⟨?_,?_,trivial⟩;(focus (refine bE F F ?_;(refine jO fun _=>?_);refine jS (aa 16 4095) ?_;refine jA 12 F ?_;((refine ac F F F (fF ?_) F ?_;(focus ((simp;omega);done))));refine jS (aa 16 8191) ?_;refine jW 0 [13,14,15] (aa 16 65535) ?_;refine jQ ?_));rotate_left 1;(focus (refine bE F F ?_;((refine ac F F F (fF ?_) F ?_;(focus ((simp;omega);done))));refine jS (aa 16 8159) ?_;refine jA 5 F ?_;(refine jO fun _=>?_);refine jS (aa 16 8191) ?_;refine jW 0 [13,14,15] (aa 16 65535) ?_;refine jQ ?_));rotate_left 1))
   all_goals
    rename_i x4
    refine Nx.sealC (b:=x4) fun G2 hG2 hsy=>?_
    refine jZ (vs:=[_,_,_]) F ⟨F,F,F,trivial⟩ F ⟨hG2,F,?_⟩
    rw [aL]
    rw [e3] at hsy
    rw [e3]
    refine ⟨_,_,_,F,fun h=>?_,fun h=>?_⟩
    ·have htk:=hq.2 h
     rw [htk] at hsy
     have hdr : (c :: r).drop (min (i + 2) (r.length + 1)) = r.drop (i + 1):=by
      rcases Nat.lt_or_ge i r.length with h2 | h2
      ·rw [show min (i + 2) (r.length + 1) = (i + 1) + 1 by omega];rfl
      ·rw [List.drop_eq_nil_of_le (by simp;omega),List.drop_eq_nil_of_le oM]
     exact ⟨_,x4,F,by rw [hq.1,if_pos h,hdr],.leaf 116 _ _ _ _ hsy (.inr (.inl ⟨F,F,F⟩))⟩
    ·rw [hq.1,if_neg (by rw [h];decide)]
  ·have h39' : ¬ bt (c :: r) ((i + 1 : Nat) : Int).toNat = 39:=by rw [hb];exact h39
   repeat' (first | refine jM ?_ | (refine jo ?_;refine aK F ?_) | refine aA F F (aD oM) ?_ | refine ab F (aD oM) ?_)
   refine Nx.re (d:=9) (v':=I (i + 1 + 1 : Nat)) F (congrArg (Value.int .i64) oM) ?_
   exact a7 (i + 1) ⟨oM,fun j hj=>(by
    rcases Nat.lt_or_ge j i with h | h
    ·exact hi1 j h
    ·have : j = i:=oM
     subst this;exact h39)⟩ oM tU F aZ
 ·have hq:=pF (c:=c) hi0 hi1 (.inl oM)
  have e3 : (min (((i + 1 : Nat) : Int) + 1) ((((c :: r).length : Nat) : Int))).toNat = min (i + 2) (r.length + 1):=oM
  have cx_tx:=fF (G:=G) (s:=(c :: r).take (min (((i + 1 : Nat) : Int) + 1) ((((c :: r).length : Nat) : Int))).toNat) (by rw [List.length_take];omega)
  repeat' (first | refine jM ?_ | (refine jo ?_;first | refine aw F ?_ | refine jV (vn F F) ?_) | refine am F F (aE oM) ?_ | refine ad F F ?_ | (refine ak (ar (id:=12) _ (fun _ h=>h) aj ?_);refine jW 6 [0,1,2,3,6,7,8,9,10,11] (aa 16 4047) ?_;(refine jG (aa 16 4063) 4 F (ao F F) ?_);refine cX [5,12] kR dC ⟨?_,?_,trivial⟩;(focus (refine bE F F ?_;(refine jO fun _=>?_);refine jS (aa 16 4095) ?_;refine jA 12 F ?_;((refine ac F F F (fF ?_) F ?_;(focus ((simp;omega);done))));refine jS (aa 16 8191) ?_;refine jW 0 [13,14,15] (aa 16 65535) ?_;refine jQ ?_));rotate_left 1;(focus (refine bE F F ?_;((refine ac F F F (fF ?_) F ?_;(focus ((simp;omega);done))));refine jS (aa 16 8159) ?_;refine jA 5 F ?_;(refine jO fun _=>?_);refine jS (aa 16 8191) ?_;refine jW 0 [13,14,15] (aa 16 65535) ?_;refine jQ ?_));rotate_left 1))
  all_goals
   rename_i x4
   refine Nx.sealC (b:=x4) fun G2 hG2 hsy=>?_
   refine jZ (vs:=[_,_,_]) F ⟨F,F,F,trivial⟩ F ⟨hG2,F,?_⟩
   rw [aL]
   rw [e3] at hsy
   rw [e3]
   refine ⟨_,_,_,F,fun h=>?_,fun h=>?_⟩
   ·have htk:=hq.2 h
    rw [htk] at hsy
    have hdr : (c :: r).drop (min (i + 2) (r.length + 1)) = r.drop (i + 1):=by
     rcases Nat.lt_or_ge i r.length with h2 | h2
     ·rw [show min (i + 2) (r.length + 1) = (i + 1) + 1 by omega];rfl
     ·rw [List.drop_eq_nil_of_le (by simp;omega),List.drop_eq_nil_of_le oM]
    exact ⟨_,x4,F,by rw [hq.1,if_pos h,hdr],.leaf 116 _ _ _ _ hsy (.inr (.inl ⟨F,F,F⟩))⟩
   ·rw [hq.1,if_neg (by rw [h];decide)]
theorem xU {u : Value} {ts : List Ty} {s : adE} (hu : u.oneCell' = true) (hs : s.length ≤ 100000000) : bd adD 154 [Ag [u],S s,S [102]] G (cD ts (er s) [102]):=by
 have hpf : ∀ l : adE,l.isPrefixOf s = true ↔ l.length ≤ s.length ∧ s.take l.length = l:=fun l=>by
  rw [List.isPrefixOf_iff_prefix]
  constructor
  ·rintro ⟨t,rfl⟩;simp
  ·rintro ⟨h1,h2⟩;exact ⟨s.drop l.length,by rw [show l ++ s.drop l.length = s.take l.length ++ s.drop l.length from by rw [h2]];exact List.take_append_drop _ _⟩
 refine jB [(0,_),(1,_),(2,_)] Tryz.func154 Tryz.ntmps154 fun B hok hB hW=>?_
 repeat' (first | refine jR ?_ | (refine jo ?_;first | refine jO fun _=>?_ | refine jF fun _=>?_ | refine jV (ag F) ?_) | refine ad F F ?_)
 rename_i x3 x4
 refine aU (ι:=Nat) (fun i=>i ≤ 2 ∧ (1 ≤ i → ([121,101,115] : adE).isPrefixOf s = false) ∧ (2 ≤ i → ([110,111] : adE).isPrefixOf s = false)) (fun i=>[(1,S s),(2,S [102]),(68,.slice (some ⟨x4,0,none⟩) 2 2),(69,I (2 : Nat)),(70,I i)]) (fun _=>G) (fun i=>[.blk x4 (.cells (List.toArray [S [121,101,115],S [110,111]]) adj (0,0))]) (fun i=>2 - i) 0 ?_ tU F sB (fun i Hi=>?_)
 ·exact ⟨Nat.zero_le _,fun h=>absurd h oM,fun h=>absurd h oM⟩
 obtain ⟨hi0,hi1,hi2⟩:=Hi
 have h3 : i = 0 ∨ i = 1 ∨ i = 2:=oM
 rcases h3 with rfl | rfl | rfl
 ·cases hp : ([121,101,115] : adE).isPrefixOf s with
  | true =>
   obtain ⟨h1,h2⟩:=(hpf _).1 hp
   have h1' : (((([121,101,115] : adE).length : Nat) : Int)) ≤ s.length:=oM
   have h2' : s.take (((([121,101,115] : adE).length : Nat) : Int)).toNat = [121,101,115]:=h2
   repeat' (first | refine jM ?_ | (refine jo ?_;first | refine aK F ?_ | refine jV (aq F F oM) ?_ | refine al F ?_) | refine aA F F (aD ‹_›) ?_ | (refine ab F (by first | rfl | (refine decide_eq_true ?_;(assumption))) ?_) | (refine ak (ar (id:=17) _ (fun _ h=>h) aj ?_);refine jW 5 [0,1,4,5,6,7] (aa 11 243) ?_;(refine jG (aa 11 247) 2 F (ao F F) ?_);refine jA 3 F ?_;(refine jO fun _=>?_);refine jS (aa 11 255) ?_;refine jT 0 [8,9,10] (aa 11 2047) ?_;refine jQ ?_))
   all_goals
    rename_i y
    refine Nx.sealC (b:=y) fun G2 hG2 hsy=>?_
    refine jZ (vs:=[_,_,_]) F ⟨F,F,F,trivial⟩ F ⟨hG2,F,?_⟩
    rw [aL]
    exact ⟨_,_,_,F,fun _=>⟨.nd 102 [121,101,115] 0 [],y,F,by unfold er;rw [hp,if_pos rfl];rfl,.leaf 102 _ _ _ _ hsy (.inr (.inr ⟨rfl,rfl,rfl,.inl rfl⟩))⟩,fun h=>(by cases h)⟩
  | false =>
   have hn : ¬ ((([121,101,115] : adE).length : Nat) ≤ s.length ∧ s.take ([121,101,115] : adE).length = [121,101,115]):=fun h=>by rw [(hpf _).2 h] at hp;cases hp
   have hn' : ¬ ((((([121,101,115] : adE).length : Nat) : Int)) ≤ s.length ∧ s.take (((([121,101,115] : adE).length : Nat) : Int)).toNat = [121,101,115]):=fun h=>hn ⟨oM,h.2⟩
   by_cases h1' : (((([121,101,115] : adE).length : Nat) : Int)) ≤ s.length
   ·have h2' : ¬ s.take (((([121,101,115] : adE).length : Nat) : Int)).toNat = [121,101,115]:=fun h=>hn' ⟨h1',h⟩
    repeat' (first | refine jM ?_ | (refine jo ?_;first | refine aK F ?_ | refine jV (aq F F oM) ?_ | refine al F ?_) | refine aA F F (aD ‹_›) ?_ | refine ab F F ?_ | refine ad F (aE ‹_›) ?_)
    exact a7 1 ⟨oM,fun _=>rfl,fun h=>absurd h oM⟩ oM tU F aZ
   ·repeat' (first | refine jM ?_ | (refine jo ?_;first | refine aw F ?_ | refine jV (aq F F oM) ?_ | refine al F ?_) | refine am F F (aE ‹_›) ?_ | refine ab F F ?_ | refine ad F F ?_)
    exact a7 1 ⟨oM,fun _=>rfl,fun h=>absurd h oM⟩ oM tU F aZ
 ·have hy:=hi1 (Nat.le_refl _)
  cases hp : ([110,111] : adE).isPrefixOf s with
  | true =>
   obtain ⟨h1,h2⟩:=(hpf _).1 hp
   have h1' : (((([110,111] : adE).length : Nat) : Int)) ≤ s.length:=oM
   have h2' : s.take (((([110,111] : adE).length : Nat) : Int)).toNat = [110,111]:=h2
   repeat' (first | refine jM ?_ | (refine jo ?_;first | refine aK F ?_ | refine jV (aq F F oM) ?_ | refine al F ?_) | refine aA F F (aD ‹_›) ?_ | (refine ab F (by first | rfl | (refine decide_eq_true ?_;(assumption))) ?_) | (refine ak (ar (id:=17) _ (fun _ h=>h) aj ?_);refine jW 5 [0,1,4,5,6,7] (aa 11 243) ?_;(refine jG (aa 11 247) 2 F (ao F F) ?_);refine jA 3 F ?_;(refine jO fun _=>?_);refine jS (aa 11 255) ?_;refine jT 0 [8,9,10] (aa 11 2047) ?_;refine jQ ?_))
   all_goals
    rename_i y
    refine Nx.sealC (b:=y) fun G2 hG2 hsy=>?_
    refine jZ (vs:=[_,_,_]) F ⟨F,F,F,trivial⟩ F ⟨hG2,F,?_⟩
    rw [aL]
    exact ⟨_,_,_,F,fun _=>⟨.nd 102 [110,111] 0 [],y,F,by unfold er;rw [hy,if_neg dC,hp,if_pos rfl];rfl,.leaf 102 _ _ _ _ hsy (.inr (.inr ⟨rfl,rfl,rfl,.inr rfl⟩))⟩,fun h=>(by cases h)⟩
  | false =>
   have hn : ¬ ((([110,111] : adE).length : Nat) ≤ s.length ∧ s.take ([110,111] : adE).length = [110,111]):=fun h=>by rw [(hpf _).2 h] at hp;cases hp
   have hn' : ¬ ((((([110,111] : adE).length : Nat) : Int)) ≤ s.length ∧ s.take (((([110,111] : adE).length : Nat) : Int)).toNat = [110,111]):=fun h=>hn ⟨oM,h.2⟩
   by_cases h1' : (((([110,111] : adE).length : Nat) : Int)) ≤ s.length
   ·have h2' : ¬ s.take (((([110,111] : adE).length : Nat) : Int)).toNat = [110,111]:=fun h=>hn' ⟨h1',h⟩
    repeat' (first | refine jM ?_ | (refine jo ?_;first | refine aK F ?_ | refine jV (aq F F oM) ?_ | refine al F ?_) | refine aA F F (aD ‹_›) ?_ | refine ab F F ?_ | refine ad F (aE ‹_›) ?_)
    exact a7 2 ⟨oM,fun _=>hy,fun _=>rfl⟩ oM tU F aZ
   ·repeat' (first | refine jM ?_ | (refine jo ?_;first | refine aw F ?_ | refine jV (aq F F oM) ?_ | refine al F ?_) | refine am F F (aE ‹_›) ?_ | refine ab F F ?_ | refine ad F F ?_)
    exact a7 2 ⟨oM,fun _=>hy,fun _=>rfl⟩ oM tU F aZ
 ·repeat' (first | refine jR ?_ | refine ad F F ?_)
  refine jZ (vs:=[_,_,_]) F ⟨F,F,F,trivial⟩ F ⟨Gh.le.refl _,F,?_⟩
  rw [aL]
  exact ⟨_,_,_,F,fun h=>(by cases h),fun _=>by unfold er;rw [hi1 oM,if_neg dC,hi2 oM,if_neg dC]⟩
theorem rN {u : Value} {x : bU} {s : adE} (hs : s.length ≤ 100000000) (hu : u.oneCell' = true) (hf : bq G (fY x) 4 x.2.fields.length (ax gP x.2.fields)) (hl : x.2.fields.length ≤ 1000) :
  aG adD 190 [Ag [u],S s,Ag (j3 x)] G (fun v=>∃ n,v = Tu [Ag (gP ((bB x.2.fields n).getD zF)),S (s.dropWhile bc),Bo ((aM (s.takeWhile bc) 200).isSome && (bB x.2.fields n).isSome)] ∧ ∀ m,aM (s.takeWhile bc) 200 = some m → n = m):=by
 have cx_dg:=tf (G:=G) hs
 obtain ⟨e1,e2⟩:=pe bc s
 have hwl:=d6 bc s
 have hlen : (s.take ((((s.takeWhile bc).length : Nat) : Int)).toNat).length ≤ 100000000:=by rw [e1];omega
 simp only [j3]
 refine jE [(0,_),(1,_),(2,_)] Tryz.func190 Tryz.ntmps190 fun B hB=>?_
 repeat' (first | refine jM ?_ | (refine jo ?_;first | refine jO fun _=>?_ | refine jL fun _=>?_ | refine aQ F ?_ | refine ac F F F cx_dg F ?_ | (refine dn F F F (gt oM) F ?_;rintro _ ⟨n,rfl,hnum⟩)))
 rename_i n
 have cx_fld:=gS (G:=G) (tag:=n) hf hl
 rw [e1] at hnum
 cases hm : (aM (s.take ((((s.takeWhile bc).length : Nat) : Int)).toNat) 200).isSome with
 | false =>
  repeat' (first | refine jR ?_ | (refine jo ?_;first | refine jL fun _=>?_ | refine jC F F F ?_ | refine ac F F F cx_fld F ?_) | (refine ak (dL (id:=4) (tt:=6) F aj ?_);refine jW 6 [1,2,3,4,5] (aa 11 62) ?_;(try (refine Nx.re (d:=34) (v':=Bo false) F (congrArg Value.bool F) ?_));refine jW 5 [6] (aa 11 126) ?_;(refine jG (aa 11 127) 0 F (bz F F F F) ?_);((refine jG (aa 11 255) 7 F (bm F F ?_) ?_;(focus ((rfl);done))));refine jA 8 F ?_;(refine jC F F F ?_);refine jK (aa 11 511) ?_;refine jW 0 [9,10] (aa 11 2047) ?_;refine jQ ?_))
  all_goals refine jZ (vs:=[_,_,_]) F ⟨ay F F F F,F,F,trivial⟩ F ⟨F,F,?_⟩
  all_goals (rw [aL];exact ⟨n,by rw [e1] at hm;rw [hm,e2];rfl,hnum⟩)
 | true =>
  repeat' (first | refine jR ?_ | (refine jo ?_;first | refine jL fun _=>?_ | refine jC F F F ?_ | refine ac F F F cx_fld F ?_) | (refine ak (dL (id:=4) (tt:=6) F aj ?_);refine jW 6 [1,2,3,4,5] (aa 11 62) ?_;(try (refine Nx.re (d:=34) (v':=Bo true) F (congrArg Value.bool F) ?_));refine jW 5 [6] (aa 11 126) ?_;(refine jG (aa 11 127) 0 F (bz F F F F) ?_);((refine jG (aa 11 255) 7 F (bJ F F ?_) ?_;(focus ((rfl);done))));refine jA 8 F ?_;(refine jC F F F ?_);refine jK (aa 11 511) ?_;refine jW 0 [9,10] (aa 11 2047) ?_;refine jQ ?_))
  all_goals refine jZ (vs:=[_,_,_]) F ⟨ay F F F F,F,F,trivial⟩ F ⟨F,F,?_⟩
  all_goals (rw [aL];exact ⟨n,by rw [e1] at hm;rw [hm,e2];rfl,hnum⟩)
def ir (v : V) : Prop:=v.out.length + 1 ≤ 2 * v.tot
theorem kB : ∀ {ks : List V},(∀ v ∈ ks,ir v) → dt (V.outs ks) + ks.length ≤ 2 * V.tots ks
 | [],_=>by simp [V.outs,dt]
 | v :: r,h=>by
  have h1:=h v (.head _)
  have h2:=kB fun u hu=>h u (.tail _ hu)
  unfold ir at h1
  simp only [V.outs,dt,List.map_cons,List.sum_cons,V.tots,List.length_cons] at *
  omega
theorem gi {w : Nat} {x : adE} {t : Int} {ks : List V} (h : ∀ v ∈ ks,ir v) (ht : t ≤ 999999) : ir (.nd w x t ks):=by
 have h1:=kB h
 have h2:=f4 44 (V.outs ks)
 rw [ka] at h2
 have h4:=si (w:=w) (x:=x) (e:=ks.isEmpty) (j:=aO 44 (V.outs ks)) ht
 have h5:=dq ks
 unfold ir
 rw [V.out,V.tot]
 omega
theorem pH {α : Type} [Inhabited α] {l : List α} {x : α} (h : x ∈ l) : ∃ i,i < l.length ∧ ae l i = x:=by
 obtain ⟨i,hi,rfl⟩:=List.mem_iff_getElem.1 h
 exact ⟨i,hi,aI hi⟩
theorem gy {ts : List Ty} (hw : SchW ts) {k : adE} {t : Ty} (h : aX ts k = some t) {d : Fld} (hd : d ∈ t.fields) : d.tag ≤ 999999 ∧ 0 ≤ d.tag:=by
 have:=((hw.ty t (bi h)).fld d hd).tag
 omega
theorem dv {ts : List Ty} {k : adE} {t : Ty} (h : aX ts k = some t) : ∃ r,k = 64 :: r:=by
 unfold aX at h
 cases k with
 | nil=>cases h
 | cons c r =>
  unfold bH at h
  dsimp only at h
  by_cases h64 : c.toNat = 64
  ·exact ⟨r,by rw [show c = 64 from UInt8.toNat_inj.1 h64]⟩
  ·rw [if_neg h64] at h;cases h
theorem lR {ts : List Ty} (hw : SchW ts) {v : V} {k : adE} {b : Nat} (h : RepR G ts v k b) : ir v:=by
 induction h with
 | leaf w x k tx b h1 h2=>exact gi (by simp) dC
 | lst k b ks bs a c h1 h2 h3 _ ih =>
  exact gi (fun v hv=>by obtain ⟨i,hi,rfl⟩:=pH hv;exact ih i hi) dC
 | non k b h1=>exact gi (by simp) dC
 | opt k b kb b' cc v h0 h1 h2 _ ih=>exact gi (fun u hu=>by simp only [List.mem_singleton] at hu;subst hu;exact ih) dC
 | recd k b t fs bs a a2 c c2 h0 h1 h2 h3 h4 h5 _ ih =>
  refine gi (fun v hv=>?_) dC
  obtain ⟨p,hp,rfl⟩:=List.mem_map.1 hv
  obtain ⟨i,hi,rfl⟩:=pH hp
  exact gi (fun u hu=>by simp only [List.mem_singleton] at hu;subst hu;exact ih i hi) (gy hw h0.1 (h5 i hi)).1
 | enm k b tgb t d h0 h1 h2 h3=>exact gi (by simp) (gy hw h0.1 h1).1
 | uni k b tgb kb b' cc t d v hcc h0 h1 h2 h3 h4 _ ih=>exact gi (fun u hu=>by simp only [List.mem_singleton] at hu;subst hu;exact ih) (gy hw h0.1 h1).1
theorem pK {c : UInt8} {xs : List adE} {i : Nat} (h : i < xs.length) : aO c (xs.take (i + 1)) = if 0 < i then aO c (xs.take i) ++ c :: ae xs i else ae xs i:=by
 rw [cr h]
 by_cases hi : 0 < i
 ·rw [if_pos hi,lV]
  rw [ne_eq,List.take_eq_nil_iff]
  rintro (h0 | h0)
  ·omega
  ·subst h0;simp at h
 ·have : i = 0:=oM
  subst this;rfl
theorem kq {ts : List Ty} (hw : SchW ts) {v : V} {k : adE} {b : Nat} (h : RepR G ts v k b) : v.tot ≤ 1000000000000 → aG adD 77 [Pt b 0] G (· = S v.out):=by
 induction h with
 | leaf w x k tx b h1 h2 =>
  intro _
  rcases h2 with ⟨rfl,rfl,rfl,_⟩ | ⟨rfl,rfl,rfl⟩ | ⟨rfl,rfl,rfl,_⟩
  all_goals
   refine jE [(0,_)] Tryz.func77 Tryz.ntmps77 fun B hB=>?_
   repeat' (first | refine jX ?_ | (refine jo ?_;refine jV (an F F aS F F) ?_) | refine ad F F ?_)
   refine jY (vs:=[_]) ?_
   rw [aH,V.out];rfl
 | lst k b ks bs a c h1 h2 h3 hk ih =>
  intro ht
  rw [br] at ht
  have hb:=kB (ks:=ks) fun v hv=>by obtain ⟨i,hi,rfl⟩:=pH hv;exact lR hw (hk i hi)
  have hol:=ka ks
  refine jE [(0,_)] Tryz.func77 Tryz.ntmps77 fun B hB=>?_
  repeat' (first | refine jX ?_ | (refine jo ?_;refine jV (an F F aS F F) ?_) | refine ab F F ?_)
  refine aU (ι:=Nat) (fun i=>i ≤ ks.length) (fun i=>[(0,Pt b 0),(3,S (91 :: aO 44 ((V.outs ks).take i))),(4,I i)]) (fun _=>G) (fun i=>[]) (fun i=>ks.length - i) 0 ?_ tU F aZ (fun i Hi=>?_)
  ·exact Nat.zero_le _
  have hj1:=f4 44 ((V.outs ks).take i)
  have hj2:=eT (V.outs ks) i
  have hj3 : ((V.outs ks).take i).length ≤ ks.length:=by rw [List.length_take];omega
  by_cases hi : i < ks.length
  ·have hti:=eM hi
   have cx_out:=ih i hi oM
   have hou:=lP hi
   have hxi : ae bs i = ae bs i:=rfl
   have hob:=lR hw (hk i hi)
   unfold ir at hob
   have hst:=pK (c:=44) (xs:=V.outs ks) (i:=i) oM
   rw [hou] at hst
   obtain ⟨kb,ko,kc,e,hs⟩:=h2.expl oM
   simp only [Value.slice.injEq] at e
   obtain ⟨rfl,-,rfl⟩:=e
   by_cases h0 : 0 < i
   ·rw [if_pos h0] at hst
    repeat' (first | refine jX ?_ | (refine jo ?_;first | refine jV (an F F aS F F) ?_ | (refine jV (cZ F F aS ?_ aS F) ?_;focus omega) | refine jV (ag F) ?_ | refine jV (aq F F oM) ?_ | refine ac F F F cx_out F ?_) | refine ab F (aD oM) ?_)
    refine Nx.re (d:=3) (v':=S (91 :: aO 44 ((V.outs ks).take (i + 1)))) F (congrArg (fun l=>S l) (by rw [hst];simp)) ?_
    exact a7 (i + 1) oM oM tU F aZ
   ·rw [if_neg h0] at hst
    have hi0 : i = 0:=oM
    subst hi0
    repeat' (first | refine jX ?_ | (refine jo ?_;first | (refine jV (jI F F aS ?_ aS F F) ?_;focus omega) | refine jV (an F F aS F F) ?_ | refine jV (ag F) ?_ | refine jV (aq F F oM) ?_ | refine ac F F F cx_out F ?_) | refine ab F (aD oM) ?_ | refine ad F F ?_)
    refine Nx.re (d:=3) (v':=S (91 :: aO 44 ((V.outs ks).take (0 + 1)))) F (congrArg (fun l=>S l) (by rw [hst];rfl)) ?_
    exact a7 (0 + 1) oM oM tU F aZ
  ·have hin : i = ks.length:=oM
   subst hin
   repeat' (first | refine jX ?_ | (refine jo ?_;first | refine jV (an F F aS F F) ?_ | refine jV (ag F) ?_) | refine ad F (aE oM) ?_)
   refine jY (vs:=[_]) ?_
   rw [aH,V.out,← hol,List.take_length];rfl
 | non k b h1 =>
  intro _
  refine jE [(0,_)] Tryz.func77 Tryz.ntmps77 fun B hB=>?_
  repeat' (first | refine jX ?_ | (refine jo ?_;first | refine jV (an F F aS F F) ?_ | refine jV (ag F) ?_) | refine ab F F ?_ | refine ad F F ?_)
  refine jY (vs:=[_]) ?_
  rfl
 | opt k b kb b' cc v h0 h1 h2 h3 ih =>
  intro ht
  simp only [br,V.tots] at ht
  have cx_out:=ih oM
  have hob:=lR hw h3
  unfold ir at hob
  refine jE [(0,_)] Tryz.func77 Tryz.ntmps77 fun B hB=>?_
  repeat' (first | refine jX ?_ | (refine jo ?_;first | refine jV (an F F aS F F) ?_ | refine jV (ag F) ?_ | refine jV (aT F F oM) ?_ | refine ac F F F cx_out F ?_) | refine ab F F ?_ | refine ad F F ?_)
  refine jY (vs:=[_]) ?_
  rw [aH,V.out];rfl
 | recd k b t fs bs a a2 c c2 h0 h1 h2 h3 h4 h5 hk ih =>
  intro ht
  obtain ⟨r,rfl⟩:=dv h0.1
  rw [br] at ht
  have hB1 : ∀ v ∈ fs.map (fun p : Fld × V=>V.nd 61 [] p.1.tag [p.2]),ir v:=fun v hv=>by
   obtain ⟨p,hp,rfl⟩:=List.mem_map.1 hv
   obtain ⟨i,hi,rfl⟩:=pH hp
   exact gi (fun u hu=>by simp only [List.mem_singleton] at hu;subst hu;exact lR hw (hk i hi)) (gy hw h0.1 (h5 i hi)).1
  have hb:=kB hB1
  have hml : (fs.map (fun p : Fld × V=>V.nd 61 [] p.1.tag [p.2])).length = fs.length:=by simp
  have hol:=ka (fs.map (fun p : Fld × V=>V.nd 61 [] p.1.tag [p.2]))
  have hnt : ∀ i,i < fs.length → ae (fs.map (fun p : Fld × V=>V.nd 61 [] p.1.tag [p.2])) i = V.nd 61 [] (ae fs i).1.tag [(ae fs i).2]:=fun i hi=>by rw [aI (by simpa using hi),aI hi];simp
  generalize hKS : fs.map (fun p : Fld × V=>V.nd 61 [] p.1.tag [p.2]) = KS at *
  have cx_nmd : aG adD 113 [Pt b 0] G (· = S (V.out (.nd 82 [] 0 KS))):=by
   refine jE [(0,_)] Tryz.func113 Tryz.ntmps113 fun B hB=>?_
   repeat' (first | refine jR ?_ | (refine jo ?_;refine jV (an F F aS F F) ?_) | refine ad F F ?_)
   refine aU (ι:=Nat) (fun i=>i ≤ fs.length) (fun i=>[(0,Pt b 0),(3,S (123 :: aO 44 ((V.outs KS).take i))),(4,I i)]) (fun _=>G) (fun i=>[]) (fun i=>fs.length - i) 0 ?_ tU F aZ (fun i Hi=>?_)
   ·exact Nat.zero_le _
   have hj1:=f4 44 ((V.outs KS).take i)
   have hj2:=eT (V.outs KS) i
   have hj3 : ((V.outs KS).take i).length ≤ fs.length:=by rw [List.length_take];omega
   by_cases hi : i < fs.length
   ·have hti:=eM (ks:=KS) (i:=i) oM
    rw [hnt i hi] at hti
    simp only [br,V.tots] at hti
    have cx_out:=ih i hi oM
    have hou:=lP (ks:=KS) (i:=i) oM
    rw [hnt i hi,fN] at hou
    have hxi : ae bs i = ae bs i:=rfl
    have htg:=gy hw h0.1 (h5 i hi)
    have hdl:=gq htg.1
    have hob:=lR hw (hk i hi)
    unfold ir at hob
    have hst:=pK (c:=44) (xs:=V.outs KS) (i:=i) oM
    rw [hou] at hst
    have htn : ae (fs.map fun p : Fld × V=>p.1.tag) i = (ae fs i).1.tag:=by rw [aI (by simpa using hi),aI hi];simp
    have htl : (fs.map fun p : Fld × V=>p.1.tag).length = fs.length:=by simp
    obtain ⟨tgb,to,tc,e,hs1⟩:=h2.expl oM
    simp only [Value.slice.injEq] at e
    obtain ⟨rfl,-,rfl⟩:=e
    obtain ⟨kb,ko,kc,e,hs2⟩:=h3.expl oM
    simp only [Value.slice.injEq] at e
    obtain ⟨rfl,-,rfl⟩:=e
    by_cases hp0 : 0 < i
    ·rw [if_pos hp0] at hst
     repeat' (first | refine jX ?_ | (refine jo ?_;first | refine jV (an F F aS F F) ?_ | refine jV (ag F) ?_) | refine ab F (aD oM) ?_ | (refine ak (ar (id:=12) _ (fun _ h=>h) aj ?_);refine jT 12 [0,1,2,3,5,11,12,13,15] (aa 21 47151) ?_;(refine jG (aa 21 47167) 4 F (an F F aS F F) ?_);(refine jG (aa 21 47231) 6 F (aq F F oM) ?_);((refine jG (aa 21 47359) 7 F (cZ F F aS ?_ aS F) ?_;focus omega));(refine jG (aa 21 63743) 14 F (an F F aS F F) ?_);(refine jG (aa 21 129279) 16 F (aq F F oM) ?_);((refine jG (aa 21 260351) 17 F (cZ F F aS ?_ aS F) ?_;focus omega));refine jA 8 F ?_;(refine ac F F F (dp oM) F ?_);refine jS (aa 21 260607) ?_;refine jW 3 [9,10] (aa 21 262143) ?_;refine jA 18 F ?_;(refine ac F F F cx_out F ?_);refine jS (aa 21 524287) ?_;refine jW 0 [19,20] (aa 21 2097151) ?_;refine jQ ?_))
     all_goals
      refine Nx.re (d:=3) (v':=S (123 :: aO 44 ((V.outs KS).take (i + 1)))) F (congrArg (fun l=>S l) (by rw [hst];simp)) ?_
      exact a7 (i + 1) oM oM tU F aZ
    ·rw [if_neg hp0] at hst
     have hi0 : i = 0:=oM
     subst hi0
     repeat' (first | refine jM ?_ | (refine jo ?_;first | refine jV (an F F aS F F) ?_ | refine jV (ag F) ?_) | refine ab F (aD oM) ?_ | refine ad F F ?_ | (refine ak (ar (id:=12) _ (fun _ h=>h) aj ?_);refine jT 12 [0,1,2,3,5,11,12,13,15] (aa 21 47151) ?_;(refine jG (aa 21 47167) 4 F (an F F aS F F) ?_);(refine jG (aa 21 47231) 6 F (aq F F oM) ?_);((refine jG (aa 21 47359) 7 F (cZ F F aS ?_ aS F) ?_;focus omega));(refine jG (aa 21 63743) 14 F (an F F aS F F) ?_);(refine jG (aa 21 129279) 16 F (aq F F oM) ?_);((refine jG (aa 21 260351) 17 F (jI F F aS ?_ aS F F) ?_;focus omega));refine jA 8 F ?_;(refine ac F F F (dp oM) F ?_);refine jS (aa 21 260607) ?_;refine jW 3 [9,10] (aa 21 262143) ?_;refine jA 18 F ?_;(refine ac F F F cx_out F ?_);refine jS (aa 21 524287) ?_;refine jW 0 [19,20] (aa 21 2097151) ?_;refine jQ ?_))
     all_goals
      refine Nx.re (d:=3) (v':=S (123 :: aO 44 ((V.outs KS).take (0 + 1)))) F (congrArg (fun l=>S l) (by rw [hst];simp [aO])) ?_
      exact a7 (0 + 1) oM oM tU F aZ
   ·have hin : i = fs.length:=oM
    repeat' (first | refine jX ?_ | (refine jo ?_;first | refine jV (an F F aS F F) ?_ | refine jV (ag F) ?_) | refine ad F (aE oM) ?_)
    refine jY (vs:=[_]) ?_
    rw [aH,V.out,hin,← hml,← hol,List.take_length];rfl
  refine jE [(0,_)] Tryz.func77 Tryz.ntmps77 fun B hB=>?_
  repeat' (first | refine jX ?_ | (refine jo ?_;first | refine jV (an F F aS F F) ?_ | refine ac F F F cx_nmd F ?_) | refine ab F F ?_ | refine ad F F ?_)
  refine jY (vs:=[_]) ?_
  rfl
 | enm k b tgb t d h0 h1 h2 h3 =>
  intro _
  obtain ⟨r,rfl⟩:=dv h0.1
  have htg:=gy hw h0.1 h1
  have hdl:=gq htg.1
  have cx_nmd : aG adD 113 [Pt b 0] G (· = S (V.out (.nd 69 [] d.tag []))):=by
   refine jE [(0,_)] Tryz.func113 Tryz.ntmps113 fun B hB=>?_
   repeat' (first | refine jX ?_ | (refine jo ?_;first | refine jV (an F F aS F F) ?_ | refine jV (aT F F oM) ?_ | refine ac F F F (dp oM) F ?_) | refine ab F F ?_ | refine ad F F ?_)
   refine jY (vs:=[_]) ?_
   rw [aH,V.out];rfl
  refine jE [(0,_)] Tryz.func77 Tryz.ntmps77 fun B hB=>?_
  repeat' (first | refine jX ?_ | (refine jo ?_;first | refine jV (an F F aS F F) ?_ | refine ac F F F cx_nmd F ?_) | refine ab F F ?_ | refine ad F F ?_)
  refine jY (vs:=[_]) ?_
  rfl
 | uni k b tgb kb b' cc t d v hcc h0 h1 h2 h3 h4 hk ih =>
  intro ht
  obtain ⟨r,rfl⟩:=dv h0.1
  have htg:=gy hw h0.1 h1
  have hdl:=gq htg.1
  simp only [br,V.tots] at ht
  have cx_out:=ih oM
  have hob:=lR hw hk
  unfold ir at hob
  have cx_nmd : aG adD 113 [Pt b 0] G (· = S (V.out (.nd 85 [] d.tag [v]))):=by
   refine jE [(0,_)] Tryz.func113 Tryz.ntmps113 fun B hB=>?_
   repeat' (first | refine jR ?_ | (refine jo ?_;refine jV (an F F aS F F) ?_) | refine ab F F ?_ | (refine ak (ar (id:=3) _ (fun _ h=>h) aj ?_);refine jT 13 [0,1,2,9,10,11] (aa 19 3591) ?_;(refine jG (aa 19 3599) 3 F (an F F aS F F) ?_);(refine jG (aa 19 3615) 4 F (aT F F oM) ?_);(refine jG (aa 19 3647) 5 F (an F F aS F F) ?_);(refine jG (aa 19 7743) 12 F (an F F aS F F) ?_);(refine jG (aa 19 15935) 13 F (aT F F oM) ?_);(refine jG (aa 19 32319) 14 F (an F F aS F F) ?_);refine jA 6 F ?_;(refine ac F F F (dp oM) F ?_);refine jS (aa 19 32383) ?_;refine jW 4 [7,8] (aa 19 32767) ?_;refine jA 15 F ?_;(refine ac F F F cx_out F ?_);refine jS (aa 19 65535) ?_;refine jW 0 [16,17,18] (aa 19 524287) ?_;refine jQ ?_))
   all_goals refine jY (vs:=[_]) ?_
   all_goals (rw [aH,V.out];simp [V.outs,cO,aO])
  clear cx_out
  refine jE [(0,_)] Tryz.func77 Tryz.ntmps77 fun B hB=>?_
  repeat' (first | refine jX ?_ | (refine jo ?_;first | refine jV (an F F aS F F) ?_ | refine ac F F F cx_nmd F ?_) | refine ab F F ?_ | refine ad F F ?_)
  refine jY (vs:=[_]) ?_
  rfl
abbrev aas : TypeId:=60
abbrev tRd : TypeId:=114
def kQ (n : Nat) (u : Value) (vs : List bU) : Prop:=∀ (G : Gh) (k s : adE),SchR G u vs → aB (af vs) k = true → s.length ≤ 2000000 →
 bd adD 114 [Ag [u],S s,S k,I (n : Nat)] G (cD (af vs) (rd (af vs) n k s) k)
theorem zX {n : Nat} {u : Value} {vs : List bU} {k s : adE} (hR : kQ n u vs) (h : SchR G u vs) (hk : aB (af vs) k = true) (hs : s.length ≤ 2000000) (hn : n ≤ 1000) :
  bd adD 152 [Ag [u],S s,S (91 :: k),I (n + 1 : Nat)] G (cD (af vs) (fj (rd (af vs) n k) (91 :: s)) (91 :: k)):=by
 have edn : ((n + 1 : Nat) : Int) - 1 = (n : Nat):=oM
 by_cases h93 : ∃ s2,s = 93 :: s2
 ·obtain ⟨s2,rfl⟩:=h93
  refine jB [(0,_),(1,_),(2,_),(3,_)] Tryz.func152 Tryz.ntmps152 fun B hok hB hW=>?_
  repeat' (first | refine jX ?_ | (refine jo ?_;first | refine jO fun _=>?_ | refine jV (ao F F) ?_ | refine aK F ?_) | refine aA F F F ?_ | refine ab F F ?_ | (refine ak (ar (id:=3) _ (fun _ h=>h) aj ?_);refine jW 0 [0,1,2,3,4,5] (aa 6 63) ?_;refine jQ ?_))
  rename_i x4 x11
  refine Nx.sealC (b:=x11) fun G2 hG2 hsy=>?_
  refine jZ (vs:=[_,_,_]) F ⟨F,F,F,trivial⟩ F ⟨hG2,F,?_⟩
  rw [aL]
  exact ⟨_,_,_,F,fun _=>⟨.nd 91 [] 0 [],x11,F,F,.lst k x11 [] [] none 0 hsy ⟨F,.inl ⟨F,F⟩⟩ F (fun i hi=>absurd hi (by simp))⟩,fun h=>(by cases h)⟩
 have hRl : fj (rd (af vs) n k) (91 :: s) = (bj (rd (af vs) n k) 20 s []).map fun x=>(.nd 91 [] 0 x.1,x.2):=by
  unfold fj
  dsimp only
  rw [if_pos (show (91 : UInt8).toNat = 91 from rfl)]
  cases s with
  | nil =>
   have : rd (af vs) n k [] = none:=by
    cases h : rd (af vs) n k [] with
    | none=>rfl
    | some x=>have:=iy h;simp at this
   simp [bj,this]
  | cons e r' =>
   dsimp only
   rw [if_neg]
   intro h;exact h93 ⟨r',by rw [show e = 93 from UInt8.toNat_inj.1 h]⟩
 have hs0 : s = [] ∨ s ≠ [] ∧ ¬ ((bt s (Int.toNat 0) : Nat) : Int) = 93:=by
  cases s with
  | nil=>exact .inl F
  | cons e r' =>
   refine .inr ⟨by simp,fun h=>h93 ⟨r',?_⟩⟩
   have : bt (e :: r') (Int.toNat 0) = e.toNat:=a6 e r'
   rw [show e = 93 from UInt8.toNat_inj.1 (show e.toNat = 93 by omega)]
 have hkl : k.length ≤ 1000:=by
  have:=(cm (cE hk)).2
  omega
 have hslen : s = [] ∨ 0 < s.length:=by cases s <;> simp
 rcases hs0 with hs0 | ⟨hs0,hs1⟩
 all_goals
  have hslen2 : s ≠ [] → 0 < s.length:=fun h=>by rcases hslen with h' | h';exact absurd h' h;exact h'
  try have hslen3:=hslen2 hs0
  refine jB [(0,_),(1,_),(2,_),(3,_)] Tryz.func152 Tryz.ntmps152 fun B hok hB hW=>?_
  repeat' (first | refine jM ?_ | (refine jo ?_;first | refine jO fun _=>?_ | refine jV (ao F F) ?_ | refine aK F ?_ | refine aw F ?_) | refine aA F F (aD ‹_›) ?_ | (refine am F F ?_ ?_;(focus ((simp [*];done);done))) | (refine ad F (by first | rfl | (refine decide_eq_false ?_;(assumption))) ?_))
  rename_i x4 x11
  refine Nx.addNil aas 1 ?_
  refine aU (ι:=List V × List Nat × Option Addr × Nat × adE × Gh) (fun q=>((q.2.1.length = q.1.length ∧ ∀ i,i < q.1.length → RepR q.2.2.2.2.2 (af vs) (ae q.1 i) k (ae q.2.1 i)) ∧ Gh.le G q.2.2.2.2.2) ∧ bj (rd (af vs) n k) 20 s [] = bj (rd (af vs) n k) (20 - q.1.length) q.2.2.2.2.1 q.1 ∧ q.1.length ≤ 20 ∧ q.2.2.2.2.1.length ≤ s.length) (fun q=>[(1,S q.2.2.2.2.1),(2,S (91 :: k)),(3,I (n + 1 : Nat)),(4,Pt x4 0),(11,Pt x11 0)]) (fun q=>q.2.2.2.2.2) (fun q=>[.acc (.slice q.2.2.1 q.1.length q.2.2.2.1) aas 1 q.1.length (ax eR q.2.1),.blk x11 (.cells (List.toArray [S (91 :: k),S [],aN,.slice q.2.2.1 q.1.length q.2.2.2.1]) qT (0,0)),.blk x4 (.cells (List.toArray [u]) tRd (0,0))]) (fun q=>20 - q.1.length) ([],[],none,0,s,G) ?_ tU F aZ (fun q Hq=>?_)
  ·exact ⟨⟨⟨F,fun i hi=>absurd hi (by simp)⟩,Gh.le.refl _⟩,F,Nat.zero_le _,Nat.le_refl _⟩
  obtain ⟨ws,bs,a,cap,t,Gq⟩:=q
  dsimp only at Hq ⊢
  obtain ⟨⟨⟨hbl,hreps⟩,hgq⟩,hit,hwl,htl⟩:=Hq
  by_cases h20 : ws.length < 20
  case neg =>
   have e20 : 20 - ws.length = 0:=oM
   repeat' (first | refine jR ?_ | (refine jo ?_;first | refine al F ?_ | refine jV (ag F) ?_) | refine ad F (aE oM) ?_)
   refine jZ (vs:=[_,_,_]) F ⟨F,F,F,trivial⟩ F ⟨hgq,F,?_⟩
   rw [aL]
   exact ⟨_,_,_,F,fun h=>(by cases h),fun _=>by rw [hRl,hit,e20];rfl⟩
  have cx_rd:=hR Gq k t (h.mono hgq) hk oM
  rw [← edn] at cx_rd
  repeat' (first | refine jR ?_ | (refine jo ?_;first | refine al F ?_ | refine jV (ag F) ?_) | refine ab F (aD oM) ?_)
  (refine ak (ar (id:=5) _ (fun _ h=>h) aj ?_);refine jW 9 [1,2,3,4,5] (aa 14 62) ?_;(refine jG (aa 14 63) 0 F (bz F F F F) ?_);refine jA 6 F ?_;(refine aF F F F cx_rd F ?_;rintro _ G hle ⟨q1,r1,ok1,rfl,hyes,hno⟩;skip);refine jS (aa 14 127) ?_;refine jT 0 [7,8,9,10,11,12,13] (aa 14 16383) ?_;refine jQ ?_)
  have hgl:=hgq.trans hle
  cases ok1 with
  | false =>
   have hnone : bj (rd (af vs) n k) (20 - ws.length) t ws = none:=jp (.inl (hno rfl))
   repeat' (first | refine jR ?_ | (refine jo ?_;refine aK F ?_) | refine aA F F F ?_ | refine ab F F ?_)
   refine jZ (vs:=[_,_,_]) F ⟨F,F,F,trivial⟩ F ⟨hgl,F,?_⟩
   rw [aL]
   exact ⟨_,_,_,F,fun h=>(by cases h),fun _=>by rw [hRl,hit,hnone];rfl⟩
  | true =>
   obtain ⟨w,wb,rfl,hf,hrep⟩:=hyes rfl
   have hsh:=iy hf
   cases r1 with
   | nil =>
    have hnone : bj (rd (af vs) n k) (20 - ws.length) t ws = none:=jp (.inr ⟨w,hf⟩)
    repeat' (first | refine jR ?_ | (refine jo ?_;first | refine aK F ?_ | refine aw F ?_) | refine aA F F F ?_ | refine am F F F ?_ | refine ab F F ?_)
    refine jZ (vs:=[_,_,_]) F ⟨F,F,F,trivial⟩ F ⟨hgl,F,?_⟩
    rw [aL]
    exact ⟨_,_,_,F,fun h=>(by cases h),fun _=>by rw [hRl,hit,hnone];rfl⟩
   | cons e r2 =>
    have hstep:=jn (vs:=ws) hf (show 0 < 20 - ws.length by omega)
    have he0 : bt (e :: r2) (Int.toNat 0) = e.toNat:=a6 e r2
    simp only [List.length_cons] at hsh
    have hel : (e :: r2).length = r2.length + 1:=rfl
    have hrow : ax eR bs ++ [Pt wb 0] = ax eR (bs ++ [wb]):=(b5 eR bs wb).symm
    have hwl1 : (ws ++ [w]).length = ws.length + 1:=by simp
    have hbl1 : (bs ++ [wb]).length = (ws ++ [w]).length:=by simp [hbl]
    have hrp : ∀ i,i < (ws ++ [w]).length → RepR G (af vs) (ae (ws ++ [w]) i) k (ae (bs ++ [wb]) i):=fun i hi=>by
     by_cases h1 : i < ws.length
     ·have e1 : ae (ws ++ [w]) i = ae ws i:=by rw [aI hi,aI h1,List.getElem_append_left h1]
      have e2 : ae (bs ++ [wb]) i = ae bs i:=by rw [aI oM,aI oM,List.getElem_append_left oM]
      rw [e1,e2];exact (hreps i h1).mono hle
     ·have h2 : i = ws.length:=oM
      have e1 : ae (ws ++ [w]) i = w:=by rw [aI hi];simp [h2]
      have e2 : ae (bs ++ [wb]) i = wb:=by rw [aI oM];simp [h2,hbl]
      rw [e1,e2];exact hrep
    by_cases h44 : e.toNat = 44
    ·rw [if_pos h44] at hstep
     have hn93 : ¬ e.toNat = 93:=oM
     repeat' (first | refine jM ?_ | (refine jo ?_;first | refine aw F ?_ | refine al F ?_ | refine jF fun _=>?_ | refine ci F F F F F F F F F oM fun _ _=>?_ | refine jD F F F ?_) | (refine am F F (by first | rfl | (refine decide_eq_false ?_;(omega))) ?_) | (refine ad F (by first | rfl | (refine decide_eq_false ?_;(omega))) ?_))
     rename_i y0 y1 yc
     rw [hrow]
     exact a7 (ws ++ [w],bs ++ [wb],some ⟨y1,0,none⟩,yc,r2,G) ⟨⟨⟨hbl1,hrp⟩,hgl⟩,(by dsimp only;rw [hit,hstep,hwl1,Nat.sub_sub]),(by dsimp only;omega),(by dsimp only;omega)⟩ (by dsimp only;omega) tU rfl (by rw [hwl1];repeat (first | exact List.Sublist.refl _ | apply List.Sublist.cons_cons | apply List.Sublist.cons))
    ·rw [if_neg h44] at hstep
     by_cases h93' : e.toNat = 93
     ·rw [if_pos h93'] at hstep
      repeat' (first | refine jM ?_ | (refine jo ?_;first | refine aK F ?_ | refine aw F ?_ | refine al F ?_ | refine jF fun _=>?_ | refine ci F F F F F F F F F oM fun _ _=>?_ | refine jD F F F ?_) | refine aA F F (aD oM) ?_ | refine am F F F ?_ | refine ab F (aD oM) ?_ | refine ad F (aE oM) ?_)
      rename_i y0 y1 yc
      rw [hrow]
      refine Nx.sealS (v:=.slice (some ⟨y1,0,none⟩) (ws.length + 1) yc) fun G2 hG2 hsl=>?_
      refine Nx.sealC (b:=x11) fun G3 hG3 hsg=>?_
      refine jZ (vs:=[_,_,_]) F ⟨F,F,F,trivial⟩ F ⟨((hgl.trans hG2).trans hG3),F,?_⟩
      rw [aL]
      exact ⟨_,_,_,F,fun _=>⟨.nd 91 [] 0 (ws ++ [w]),x11,F,by rw [hRl,hit,hstep];rfl,.lst k x11 _ (bs ++ [wb]) (some ⟨y1,0,none⟩) yc (by rw [hwl1];exact hsg) (by rw [hwl1];exact hsl.mono hG3) hbl1 (fun i hi=>(hrp i hi).mono (hG2.trans hG3))⟩,fun h=>(by cases h)⟩
     ·rw [if_neg h93'] at hstep
      repeat' (first | refine jM ?_ | (refine jo ?_;first | refine aK F ?_ | refine aw F ?_) | refine aA F F (aD oM) ?_ | refine am F F F ?_ | refine ab F (aD oM) ?_)
      refine jZ (vs:=[_,_,_]) F ⟨F,F,F,trivial⟩ F ⟨hgl,F,?_⟩
      rw [aL]
      exact ⟨_,_,_,F,fun h=>(by cases h),fun _=>by rw [hRl,hit,hstep];rfl⟩
section
variable {P : Program} {n : Nat} {D : List Deferred} {E : bx} {M : World → Prop} {d : Option Nat} {ty : TypeId} {pos : String} {aft : Array Edge} {gd : Option (Nat × Bool)}
theorem wn {T T0 : TypeId} {x : Operand} {desc : TypeDesc} {size bytes b m cap i : Nat} {zero : Value} {G0 : Gh} {L0 : List Own} {cs : List Int} {xs : List Value} {y : Int} [TI P T desc size bytes zero] [Kn M G0 L0] [h : AccB L0 b m cap T0 1 xs] (hx : ev E x = some (Pt b (0 + i * 1))) (ha : dz desc = false) (hxs : xs = ax eb cs) (hi : i < cs.length) (hy : ae cs i = y) :
  Gives P n D E M ⟨d,.load T x,ty,pos,aft,gd⟩ (I y):=f5 hx ha (by
 have:=(fw (S:=M) h.mem).go (i * 1 + 0) (I y) (by rw [hxs,fy hi oM,hy];rfl)
 simpa using this)
end
def iP (fs : List (Fld × V)) : Int:=match fs.getLast? with
 | some p=>p.1.tag
 | none=>0
def ic (fs : List (Fld × V)) : List V:=fs.map fun p=>.nd 61 [] p.1.tag [p.2]
theorem vi (fs : List (Fld × V)) (p : Fld × V) : iP (fs ++ [p]) = p.1.tag:=by simp [iP]
abbrev yh : TypeId:=60
abbrev yl : TypeId:=3
abbrev tFd : TypeId:=150
abbrev aap : TypeId:=146
theorem wI {n : Nat} {u : Value} {vs : List bU} {x : bU} {k s : adE} (hR : kQ n u vs) (h : SchR G u vs) (hw : SchW (af vs)) (hx : x ∈ vs) (hrf : aX (af vs) k = some x.2) (hso : x.2.sort = 82) (hs : s.length ≤ 2000000) (hn : n ≤ 1000) (hkl : k.length ≤ 1000) :
  bd adD 189 [Ag [u],S s,S k,Ag (j3 x),I (n + 1 : Nat)] G (cD (af vs) (be (af vs) (rd (af vs) n) x.2 (123 :: s)) k):=by
 have edn : ((n + 1 : Nat) : Int) - 1 = (n : Nat):=oM
 have hxt : x.2 ∈ af vs:=List.mem_map_of_mem hx
 have hTW:=hw.ty _ hxt
 have hfl:=hTW.len
 by_cases h125 : ∃ s2,s = 125 :: s2
 ·obtain ⟨s2,rfl⟩:=h125
  have hgood : be (af vs) (rd (af vs) n) x.2 (123 :: 125 :: s2) = some (.nd 82 [] 0 [],s2):=by
   unfold be
   dsimp only
   rw [if_pos hso,if_pos (show (123 : UInt8).toNat = 123 from rfl),if_pos (show (125 : UInt8).toNat = 125 from rfl)]
  refine jB [(0,_),(1,_),(2,_),(3,_),(4,_)] Tryz.func189 Tryz.ntmps189 fun B hok hB hW=>?_
  repeat' (first | refine jX ?_ | (refine jo ?_;first | refine jO fun _=>?_ | refine jV (ao F F) ?_ | refine aK F ?_) | refine aA F F F ?_ | refine ab F F ?_ | (refine ak (ar (id:=3) _ (fun _ h=>h) aj ?_);refine jW 0 [0,1,2,3,4,5] (aa 6 63) ?_;refine jQ ?_))
  rename_i x5 x8 x13
  refine Nx.sealC (b:=x13) fun G2 hG2 hsy=>?_
  refine jZ (vs:=[_,_,_]) F ⟨F,F,F,trivial⟩ F ⟨hG2,F,?_⟩
  rw [aL]
  exact ⟨_,_,_,F,fun _=>⟨.nd 82 [] 0 [],x13,F,hgood,.recd k x13 x.2 [] [] none none 0 0 ⟨hrf,hso⟩ hsy ⟨F,.inl ⟨F,F⟩⟩ ⟨F,.inl ⟨F,F⟩⟩ F (fun i hi=>absurd hi (by simp)) (fun i hi=>absurd hi (by simp))⟩,fun h=>(by cases h)⟩
 have hRl : be (af vs) (rd (af vs) n) x.2 (123 :: s) = (bP (af vs) (rd (af vs) n) x.2 (s.length + 1) 0 s []).map fun x=>(.nd 82 [] 0 x.1,x.2):=by
  unfold be
  dsimp only
  rw [if_pos hso,if_pos (show (123 : UInt8).toNat = 123 from rfl)]
  cases s with
  | nil=>rw [ec kW];rfl
  | cons e r' =>
   dsimp only
   rw [if_neg]
   intro h;exact h125 ⟨r',by rw [show e = 125 from UInt8.toNat_inj.1 h]⟩
 have hs0 : s = [] ∨ s ≠ [] ∧ ¬ ((bt s (Int.toNat 0) : Nat) : Int) = 125:=by
  cases s with
  | nil=>exact .inl F
  | cons e r' =>
   refine .inr ⟨by simp,fun h=>h125 ⟨r',?_⟩⟩
   have : bt (e :: r') (Int.toNat 0) = e.toNat:=a6 e r'
   rw [show e = 125 from UInt8.toNat_inj.1 (show e.toNat = 125 by omega)]
 have hslen : s = [] ∨ 0 < s.length:=by cases s <;> simp
 rcases hs0 with hs0 | ⟨hs0,hs1⟩
 ·subst hs0
  have cx_tg:=rN (G:=G) (u:=u) (x:=x) (s:=[]) (by simp) h.sl.one (h.fl x hx) oM
  have e0 : aM (([] : adE).takeWhile bc) 200 = none:=by
   cases h : aM (([] : adE).takeWhile bc) 200 with
   | none=>rfl
   | some m =>
    have:=(dE h).2.1
    have h2:=fE m
    rw [← this] at h2;simp at h2
  rw [e0] at cx_tg
  refine jB [(0,_),(1,_),(2,_),(3,_),(4,_)] Tryz.func189 Tryz.ntmps189 fun B hok hB hW=>?_
  repeat' (first | refine jR ?_ | (refine jo ?_;first | refine jO fun _=>?_ | refine jV (ao F F) ?_ | refine aw F ?_) | refine am F F F ?_ | refine ad F F ?_)
  rename_i x5 x8 x13
  refine aU (ι:=Unit) (fun i=>True) (fun i=>[(1,S []),(2,S k),(4,I (n + 1 : Nat)),(5,Pt x5 0),(8,Pt x8 0),(13,Pt x13 0)]) (fun _=>G) (fun i=>[.blk x13 (.cells (List.toArray [S k,S [82],aN,aN]) qT (0,0)),.blk x8 (.cells (List.toArray [U8 x.2.sort,S x.2.name,fY x]) aap (0,0)),.blk x5 (.cells (List.toArray [u]) tRd (0,0))]) (fun i=>0) () ?_ tU F aZ (fun i Hi=>?_)
  ·trivial
  repeat' (first | refine jR ?_ | (refine jo ?_;first | refine aQ F ?_ | refine jL fun _=>?_ | refine jC F F F ?_ | (refine dn F F F cx_tg F ?_;rintro _ ⟨nt,rfl,hnt⟩)) | refine ab F F ?_ | (refine ak (ar (id:=5) _ (fun _ h=>h) aj ?_);refine jT 33 [0,1,2] (aa 36 7) ?_;(try (refine Nx.re (d:=43) (v':=Bo true) F (congrArg Value.bool F) ?_));refine jT 31 [3,4] (aa 36 31) ?_;(refine jG (aa 36 63) 5 F (bJ F F F) ?_);refine jT 29 [6] (aa 36 127) ?_;(try (refine Nx.re (d:=47) (v':=Bo true) F (congrArg Value.bool F) ?_));refine jT 26 [7,8,9] (aa 36 1023) ?_;(refine jG (aa 36 2047) 10 F (bJ F F F) ?_);refine jT 24 [11] (aa 36 4095) ?_;(try (refine Nx.re (d:=52) (v':=Bo true) F (congrArg Value.bool F) ?_));refine jT 21 [12,13,14] (aa 36 32767) ?_;(refine jN (aa 36 65535) 15 F ?_);(refine jN (aa 36 131071) 16 F ?_);refine jT 17 [17,18] (aa 36 524287) ?_;(try (fail));refine jT 10 [19,20,21,23,24,25,31] (aa 36 2210398207) ?_;(refine jN (aa 36 2214592511) 22 F ?_);(refine jN (aa 36 2281701375) 26 F ?_);(refine jN (aa 36 2415919103) 27 F ?_);refine jT 6 [28] (aa 36 2684354559) ?_;(refine jN (aa 36 3221225471) 29 F ?_);(refine jN (aa 36 4294967295) 30 F ?_);(refine jN (aa 36 8589934591) 32 F ?_);refine jT 2 [33] (aa 36 17179869183) ?_;(refine jN (aa 36 34359738367) 34 F ?_);(refine jG (aa 36 68719476735) 35 F (bJ F F F) ?_);refine jQ ?_))
  all_goals refine jZ (vs:=[_,_,_]) F ⟨F,F,F,trivial⟩ F ⟨Gh.le.refl _,F,?_⟩
  all_goals (rw [aL];exact ⟨_,_,_,F,fun h=>(by cases h),fun _=>by rw [hRl,ec kW];rfl⟩)
 ·have hslen3 : 0 < s.length:=List.length_pos_iff.2 hs0
  refine jB [(0,_),(1,_),(2,_),(3,_),(4,_)] Tryz.func189 Tryz.ntmps189 fun B hok hB hW=>?_
  repeat' (first | refine jM ?_ | (refine jo ?_;first | refine jO fun _=>?_ | refine jV (ao F F) ?_ | refine aK F ?_) | refine aA F F (aD ‹_›) ?_ | refine ad F (aE ‹_›) ?_)
  rename_i x5 x8 x13
  refine Nx.addNil yl 1 (Nx.addNil yh 1 ?_)
  refine aU (ι:=List (Fld × V) × List Nat × Option Addr × Nat × Option Addr × Nat × adE × Nat × Gh) (fun q=>((q.2.1.length = q.1.length ∧ (∀ i,i < q.1.length → (ae q.1 i).1 ∈ x.2.fields) ∧ ∀ i,i < q.1.length → RepR q.2.2.2.2.2.2.2.2 (af vs) (ae q.1 i).2 (ae q.1 i).1.kind (ae q.2.1 i)) ∧ Gh.le G q.2.2.2.2.2.2.2.2) ∧ (bP (af vs) (rd (af vs) n) x.2 (s.length + 1) 0 s [] = bP (af vs) (rd (af vs) n) x.2 q.2.2.2.2.2.2.2.1 (iP q.1) q.2.2.2.2.2.2.1 (ic q.1) ∧ q.2.2.2.2.2.2.1.length < q.2.2.2.2.2.2.2.1) ∧ q.2.2.2.2.2.2.1.length ≤ s.length ∧ q.1.length + q.2.2.2.2.2.2.1.length ≤ s.length) (fun q=>[(1,S q.2.2.2.2.2.2.1),(2,S k),(4,I (n + 1 : Nat)),(5,Pt x5 0),(8,Pt x8 0),(13,Pt x13 0)]) (fun q=>q.2.2.2.2.2.2.2.2) (fun q=>[.acc (.slice q.2.2.2.2.1 q.1.length q.2.2.2.2.2.1) yh 1 q.1.length (ax eR q.2.1),.acc (.slice q.2.2.1 q.1.length q.2.2.2.1) yl 1 q.1.length (ax eb (q.1.map fun p=>p.1.tag)),.blk x13 (.cells (List.toArray [S k,S [82],.slice q.2.2.1 q.1.length q.2.2.2.1,.slice q.2.2.2.2.1 q.1.length q.2.2.2.2.2.1]) qT (0,0)),.blk x8 (.cells (List.toArray [U8 x.2.sort,S x.2.name,fY x]) aap (0,0)),.blk x5 (.cells (List.toArray [u]) tRd (0,0))]) (fun q=>q.2.2.2.2.2.2.1.length) ([],[],none,0,none,0,s,s.length + 1,G) ?_ tU F aZ (fun q Hq=>?_)
  ·exact ⟨⟨⟨F,fun i hi=>absurd hi (by simp),fun i hi=>absurd hi (by simp)⟩,Gh.le.refl _⟩,⟨F,Nat.lt_succ_self _⟩,Nat.le_refl _,by simp⟩
  obtain ⟨fs,bs,a1,c1,a2,c2,t,m,Gq⟩:=q
  dsimp only at Hq ⊢
  obtain ⟨⟨⟨hbl,hfm,hreps⟩,hgq⟩,⟨hit,htm⟩,htl,hft⟩:=Hq
  have cx_tg:=rN (G:=Gq) (u:=u) (x:=x) (s:=t) oM h.sl.one ((h.mono hgq).fl x hx) oM
  repeat' (first | refine jR ?_ | (refine jo ?_;first | refine aQ F ?_ | refine jL fun _=>?_ | refine jC F F F ?_ | (refine dn F F F cx_tg F ?_;rintro _ ⟨nt,rfl,hnt⟩)))
  have hnone : ∀ {v : Value} {G' : Gh} {r : adE},bP (af vs) (rd (af vs) n) x.2 m (iP fs) t (ic fs) = none → v = Tu [.pointer none,S r,Bo false] → cD (af vs) (be (af vs) (rd (af vs) n) x.2 (123 :: s)) k v G':=fun h1 h2=>⟨_,_,_,h2,fun h=>(by cases h),fun _=>by rw [hRl,hit,h1];rfl⟩
  cases hb16 : (aM (t.takeWhile bc) 200).isSome && (bB x.2.fields nt).isSome with
  | false =>
   have hno : aW (rd (af vs) n) x.2 t = none:=by
    cases hm : aM (t.takeWhile bc) 200 with
    | none=>exact fD (.inl hm)
    | some m0 =>
     refine fD (.inr ⟨m0,hm,?_⟩)
     rw [hm] at hb16
     rw [← hnt m0 hm]
     cases hf : bB x.2.fields nt with
     | none=>rfl
     | some d=>rw [hf] at hb16;cases hb16
   (refine ak (ar (id:=5) _ (fun _ h=>h) aj ?_);refine jT 33 [0,1,2] (aa 36 7) ?_;(try (refine Nx.re (d:=43) (v':=Bo true) F (congrArg Value.bool F) ?_));refine jT 31 [3,4] (aa 36 31) ?_;(refine jG (aa 36 63) 5 F (bJ F F F) ?_);refine jT 29 [6] (aa 36 127) ?_;(try (refine Nx.re (d:=47) (v':=Bo true) F (congrArg Value.bool F) ?_));refine jT 26 [7,8,9] (aa 36 1023) ?_;(refine jG (aa 36 2047) 10 F (bJ F F F) ?_);refine jT 24 [11] (aa 36 4095) ?_;(try (refine Nx.re (d:=52) (v':=Bo true) F (congrArg Value.bool F) ?_));refine jT 21 [12,13,14] (aa 36 32767) ?_;(refine jN (aa 36 65535) 15 F ?_);(refine jN (aa 36 131071) 16 F ?_);refine jT 17 [17,18] (aa 36 524287) ?_;(try (fail));refine jT 10 [19,20,21,23,24,25,31] (aa 36 2210398207) ?_;(refine jN (aa 36 2214592511) 22 F ?_);(refine jN (aa 36 2281701375) 26 F ?_);(refine jN (aa 36 2415919103) 27 F ?_);refine jT 6 [28] (aa 36 2684354559) ?_;(refine jN (aa 36 3221225471) 29 F ?_);(refine jN (aa 36 4294967295) 30 F ?_);(refine jN (aa 36 8589934591) 32 F ?_);refine jT 2 [33] (aa 36 17179869183) ?_;(refine jN (aa 36 34359738367) 34 F ?_);(refine jG (aa 36 68719476735) 35 F (bJ F F F) ?_);refine jQ ?_)
   repeat' (first | refine jR ?_ | refine ab F F ?_)
   all_goals refine jZ (vs:=[_,_,_]) F ⟨F,F,F,trivial⟩ F ⟨hgq,F,?_⟩
   all_goals exact hnone (ec hno) F
  | true =>
   simp only [Bool.and_eq_true] at hb16
   obtain ⟨hb1,hb2⟩:=hb16
   obtain ⟨m0,hm⟩:=Option.isSome_iff_exists.1 hb1
   obtain ⟨d,hd⟩:=Option.isSome_iff_exists.1 hb2
   have hnm:=hnt m0 hm
   subst hnm
   rw [hd]
   simp only [Option.getD_some]
   have hdm : d ∈ x.2.fields:=List.mem_of_find?_eq_some hd
   have hdt : d.tag = nt:=by have:=List.find?_some hd;simpa using this
   have hwl:=d6 bc t
   cases hdw : t.dropWhile bc with
   | nil =>
    have hno : aW (rd (af vs) n) x.2 t = none:=ik hm (fun s2 h=>by rw [hdw] at h;cases h)
    (refine ak (ar (id:=5) _ (fun _ h=>h) aj ?_);refine jT 33 [0,1,2] (aa 36 7) ?_;(try (refine Nx.re (d:=43) (v':=Bo false) F (congrArg Value.bool F) ?_));refine jT 31 [3,4] (aa 36 31) ?_;(refine jG (aa 36 63) 5 F (bm F F F) ?_);refine jT 29 [6] (aa 36 127) ?_;(try (refine Nx.re (d:=47) (v':=Bo true) F (congrArg Value.bool F) ?_));refine jT 26 [7,8,9] (aa 36 1023) ?_;(refine jG (aa 36 2047) 10 F (bJ F F F) ?_);refine jT 24 [11] (aa 36 4095) ?_;(try (refine Nx.re (d:=52) (v':=Bo true) F (congrArg Value.bool F) ?_));refine jT 21 [12,13,14] (aa 36 32767) ?_;(refine jN (aa 36 65535) 15 F ?_);(refine jN (aa 36 131071) 16 F ?_);refine jT 17 [17,18] (aa 36 524287) ?_;(try (fail));refine jT 10 [19,20,21,23,24,25,31] (aa 36 2210398207) ?_;(refine jN (aa 36 2214592511) 22 F ?_);(refine jN (aa 36 2281701375) 26 F ?_);(refine jN (aa 36 2415919103) 27 F ?_);refine jT 6 [28] (aa 36 2684354559) ?_;(refine jN (aa 36 3221225471) 29 F ?_);(refine jN (aa 36 4294967295) 30 F ?_);(refine jN (aa 36 8589934591) 32 F ?_);refine jT 2 [33] (aa 36 17179869183) ?_;(refine jN (aa 36 34359738367) 34 F ?_);(refine jG (aa 36 68719476735) 35 F (bJ F F F) ?_);refine jQ ?_)
    repeat' (first | refine jR ?_ | refine ab F F ?_)
    all_goals refine jZ (vs:=[_,_,_]) F ⟨F,F,F,trivial⟩ F ⟨hgq,F,?_⟩
    all_goals exact hnone (ec hno) F
   | cons e r2 =>
    have he0 : bt (e :: r2) (Int.toNat 0) = e.toNat:=a6 e r2
    have hel : (e :: r2).length = r2.length + 1:=rfl
    by_cases h61 : e.toNat = 61
    case neg =>
     have hno : aW (rd (af vs) n) x.2 t = none:=ik hm (fun s2 h=>by rw [hdw] at h;simp only [List.cons.injEq] at h;exact h61 (by rw [h.1];rfl))
     (refine ak (ar (id:=5) _ (fun _ h=>h) aj ?_);refine jT 33 [0,1,2] (aa 36 7) ?_;(try (refine Nx.re (d:=43) (v':=Bo false) F (congrArg Value.bool F) ?_));refine jT 31 [3,4] (aa 36 31) ?_;(refine jG (aa 36 63) 5 F (bm F F F) ?_);refine jT 29 [6] (aa 36 127) ?_;(try (refine Nx.re (d:=47) (v':=Bo false) F (congrArg Value.bool F) ?_));refine jW 26 [7,8,9] (aa 36 1023) ?_;(refine jG (aa 36 2047) 10 F (bm F F F) ?_);refine jT 24 [11] (aa 36 4095) ?_;(try ((refine Nx.re (d:=52) (v':=Bo true) F (congrArg Value.bool (aD oM)) ?_)));refine jT 21 [12,13,14] (aa 36 32767) ?_;(refine jN (aa 36 65535) 15 F ?_);(refine jN (aa 36 131071) 16 F ?_);refine jT 17 [17,18] (aa 36 524287) ?_;(try (fail));refine jT 10 [19,20,21,23,24,25,31] (aa 36 2210398207) ?_;(refine jN (aa 36 2214592511) 22 F ?_);(refine jN (aa 36 2281701375) 26 F ?_);(refine jN (aa 36 2415919103) 27 F ?_);refine jT 6 [28] (aa 36 2684354559) ?_;(refine jN (aa 36 3221225471) 29 F ?_);(refine jN (aa 36 4294967295) 30 F ?_);(refine jN (aa 36 8589934591) 32 F ?_);refine jT 2 [33] (aa 36 17179869183) ?_;(refine jN (aa 36 34359738367) 34 F ?_);(refine jG (aa 36 68719476735) 35 F (bJ F F F) ?_);refine jQ ?_)
     repeat' (first | refine jR ?_ | refine ab F F ?_)
     all_goals refine jZ (vs:=[_,_,_]) F ⟨F,F,F,trivial⟩ F ⟨hgq,F,?_⟩
     all_goals exact hnone (ec hno) F
    have he61 : e = 61:=UInt8.toNat_inj.1 h61
    have hfs:=l4 (f:=rd (af vs) n) (t:=x.2) (s:=t) hm hd (by rw [hdw,he61])
    have hm0 : 0 < m:=oM
    have hflt : (fs.map fun p : Fld × V=>p.1.tag).length = fs.length:=by simp
    have hdt1:=((hTW.fld d hdm).tag).1
    have hlast0 : fs.length = 0 → iP fs = 0:=fun h0=>by rw [List.length_eq_zero_iff.1 h0];rfl
    have hlast1 : 0 < fs.length → ae (fs.map fun p : Fld × V=>p.1.tag) (((fs.length : Nat) : Int) - 1).toNat = iP fs:=fun h0=>by
     have e1 : (((fs.length : Nat) : Int) - 1).toNat = fs.length - 1:=oM
     rw [e1,aI (by rw [hflt];omega)]
     unfold iP
     rw [List.getLast?_eq_getElem?,List.getElem?_eq_getElem oM]
     simp
    rename_i x14
    have hf0 : fs.length = 0 ∨ 0 < fs.length:=oM
    by_cases hlt : d.tag ≤ iP fs
    ·have hpos : 0 < fs.length:=by
      rcases hf0 with h0 | h0
      ·have:=hlast0 h0;omega
      ·exact h0
     have hyl:=hlast1 hpos
     have hno : bP (af vs) (rd (af vs) n) x.2 m (iP fs) t (ic fs) = none:=by
      cases hy : rd (af vs) n d.kind r2 with
      | none=>exact ec (by rw [hfs,hy];rfl)
      | some y =>
       obtain ⟨w,r3⟩:=y
       rw [kH (d:=d) (v:=w) (r:=r3) (by rw [hfs,hy];rfl) hm0,if_pos (.inl hlt)]
     refine Nx.shp (v:=.slice a1 fs.length c1) (.tail _ (.tail _ (.head _))) fun hsh=>?_
     obtain ⟨tb1,tc1,e1⟩:=hsh.pos oM
     simp only [Value.slice.injEq] at e1
     obtain ⟨rfl,-,rfl⟩:=e1
     (refine ak (ar (id:=5) _ (fun _ h=>h) aj ?_);refine jT 33 [0,1,2] (aa 36 7) ?_;(try (refine Nx.re (d:=43) (v':=Bo false) F (congrArg Value.bool F) ?_));refine jT 31 [3,4] (aa 36 31) ?_;(refine jG (aa 36 63) 5 F (bm F F F) ?_);refine jT 29 [6] (aa 36 127) ?_;(try (refine Nx.re (d:=47) (v':=Bo false) F (congrArg Value.bool F) ?_));refine jW 26 [7,8,9] (aa 36 1023) ?_;(refine jG (aa 36 2047) 10 F (bm F F F) ?_);refine jT 24 [11] (aa 36 4095) ?_;(try ((refine Nx.re (d:=52) (v':=Bo false) F (congrArg Value.bool (aE oM)) ?_)));refine jT 21 [12,13,14] (aa 36 32767) ?_;(refine jG (aa 36 65535) 15 F (aC F F F) ?_);(refine jG (aa 36 131071) 16 F (ag F) ?_);refine jT 17 [17,18] (aa 36 524287) ?_;(try ((refine Nx.re (d:=59) (v':=Bo true) F (congrArg Value.bool (aD oM)) ?_)));refine jT 10 [19,20,21,23,24,25,31] (aa 36 2210398207) ?_;(refine jG (aa 36 2214592511) 22 F (aC F F F) ?_);(refine jG (aa 36 2281701375) 26 F (aC F F F) ?_);(refine jG (aa 36 2415919103) 27 F (ag F) ?_);refine jW 6 [28] (aa 36 2684354559) ?_;(refine jG (aa 36 3221225471) 29 F (aT F F oM) ?_);((refine jG (aa 36 4294967295) 30 F (wn F F F ?_ aS) ?_;focus omega));(refine jG (aa 36 8589934591) 32 F (aC F F F) ?_);refine jT 2 [33] (aa 36 17179869183) ?_;(refine jG (aa 36 34359738367) 34 F (bJ F F F) ?_);(refine jG (aa 36 68719476735) 35 F (bm F F F) ?_);refine jQ ?_)
     repeat' (first | refine jR ?_ | refine ab F (aD ‹_›) ?_)
     all_goals refine jZ (vs:=[_,_,_]) F ⟨F,F,F,trivial⟩ F ⟨hgq,F,?_⟩
     all_goals exact hnone hno F
    have hSq:=h.mono hgq
    have hdk : aB (af vs) d.kind = true:=dk hw hxt oM hdm
    rw [hdw,List.length_cons] at hwl
    have cx_rd:=hR Gq d.kind r2 hSq hdk oM
    rw [← edn] at cx_rd
    rcases hf0 with hf0 | hf0
    rotate_left
    have hyl:=hlast1 hf0
    refine Nx.shp (v:=.slice a1 fs.length c1) (.tail _ (.tail _ (.head _))) fun hsh=>?_
    obtain ⟨tb1,tc1,e1⟩:=hsh.pos oM
    simp only [Value.slice.injEq] at e1
    obtain ⟨rfl,-,rfl⟩:=e1
    all_goals
     (refine ak (ar (id:=5) _ (fun _ h=>h) aj ?_);refine jT 33 [0,1,2] (aa 36 7) ?_;(try (refine Nx.re (d:=43) (v':=Bo false) F (congrArg Value.bool F) ?_));refine jT 31 [3,4] (aa 36 31) ?_;(refine jG (aa 36 63) 5 F (bm F F F) ?_);refine jT 29 [6] (aa 36 127) ?_;(try (refine Nx.re (d:=47) (v':=Bo false) F (congrArg Value.bool F) ?_));refine jW 26 [7,8,9] (aa 36 1023) ?_;(refine jG (aa 36 2047) 10 F (bm F F F) ?_);refine jT 24 [11] (aa 36 4095) ?_;(try ((refine Nx.re (d:=52) (v':=Bo false) F (congrArg Value.bool (aE oM)) ?_)));refine jT 21 [12,13,14] (aa 36 32767) ?_;(refine jG (aa 36 65535) 15 F (aC F F F) ?_);(refine jG (aa 36 131071) 16 F (ag F) ?_);refine jT 17 [17,18] (aa 36 524287) ?_;(try (first | (refine Nx.re (d:=59) (v':=Bo true) F (congrArg Value.bool (aD oM)) ?_) | (refine Nx.re (d:=59) (v':=Bo false) F (congrArg Value.bool (aE oM)) ?_)));refine jT 10 [19,20,21,23,24,25,31] (aa 36 2210398207) ?_;(first | refine jG (aa 36 2214592511) 22 F (aC F F F) ?_ | refine jN (aa 36 2214592511) 22 F ?_);(first | refine jG (aa 36 2281701375) 26 F (aC F F F) ?_ | refine jN (aa 36 2281701375) 26 F ?_);(first | refine jG (aa 36 2415919103) 27 F (ag F) ?_ | refine jN (aa 36 2415919103) 27 F ?_);refine jW 6 [28] (aa 36 2684354559) ?_;(first | refine jG (aa 36 3221225471) 29 F (aT F F oM) ?_ | refine jN (aa 36 3221225471) 29 F ?_);(first | (refine jG (aa 36 4294967295) 30 F (wn F F F ?_ aS) ?_;focus omega) | refine jN (aa 36 4294967295) 30 F ?_);(first | refine jG (aa 36 8589934591) 32 F (aC F F F) ?_ | refine jN (aa 36 8589934591) 32 F ?_);refine jT 2 [33] (aa 36 17179869183) ?_;(first | refine jG (aa 36 34359738367) 34 F (bJ F F F) ?_ | refine jG (aa 36 34359738367) 34 F (bm F F F) ?_);(refine jG (aa 36 68719476735) 35 F (bm F F F) ?_);refine jQ ?_)
     repeat' (first | refine jR ?_ | (refine ad F (by first | rfl | (refine decide_eq_false ?_;(assumption))) ?_))
     (refine ak (ar (id:=7) _ (fun _ h=>h) aj ?_);refine jW 10 [1,2,3,5,6] (aa 15 110) ?_;(refine jG (aa 15 111) 0 F (bz F F F F) ?_);(refine jG (aa 15 127) 4 F (aC F F F) ?_);refine jA 7 F ?_;(refine aF F F F cx_rd F ?_;rintro _ G hle ⟨q1,r1,ok1,rfl,hyes,hno⟩;skip);refine jS (aa 15 255) ?_;refine jT 0 [8,9,10,11,12,13,14] (aa 15 32767) ?_;refine jQ ?_)
     repeat' (refine jR ?_)
     have hgl:=hgq.trans hle
     cases ok1 with
     | false =>
      have hno2 : aW (rd (af vs) n) x.2 t = none:=by rw [hfs,hno rfl];rfl
      (refine ak (ar (id:=8) _ (fun _ h=>h) aj ?_);refine jT 22 [0,1,2] (aa 25 7) ?_;(try (refine Nx.re (d:=92) (v':=Bo true) F (congrArg Value.bool F) ?_));refine jT 20 [3,5] (aa 25 47) ?_;(refine jN (aa 25 111) 6 F ?_);(refine jN (aa 25 239) 7 F ?_);(refine jN (aa 25 255) 4 F ?_);(refine jN (aa 25 511) 8 F ?_);refine jT 15 [9] (aa 25 1023) ?_;(refine jG (aa 25 2047) 10 F (bJ F F F) ?_);refine jT 13 [11] (aa 25 4095) ?_;(try (refine Nx.re (d:=101) (v':=Bo true) F (congrArg Value.bool F) ?_));refine jT 11 [12,13] (aa 25 16383) ?_;(refine jG (aa 25 32767) 14 F (bJ F F F) ?_);refine jT 9 [15] (aa 25 65535) ?_;(try (refine Nx.re (d:=105) (v':=Bo true) F (congrArg Value.bool F) ?_));refine jT 5 [16,17,18,19] (aa 25 1048575) ?_;(try (fail));refine jT 2 [20,21,22] (aa 25 8388607) ?_;(refine jN (aa 25 16777215) 23 F ?_);(refine jG (aa 25 33554431) 24 F (bJ F F F) ?_);refine jQ ?_)
      repeat' (first | refine jR ?_ | refine ab F F ?_)
      all_goals refine jZ (vs:=[_,_,_]) F ⟨F,F,F,trivial⟩ F ⟨hgl,F,?_⟩
      all_goals exact hnone (ec hno2) F
     | true =>
      obtain ⟨w,wb,rfl,hf,hrep⟩:=hyes rfl
      have hsh:=iy hf
      have htt:=iW _ _ _ _ hf
      dsimp only at htt hsh
      have hob:=lR hw hrep
      unfold ir at hob
      have cx_out:=kq hw hrep oM
      have cx_sta:=me (f:=d) (h.mono hgl) hw hdk
      have hfd : aW (rd (af vs) n) x.2 t = some ((d,w),r1):=by rw [hfs,hf];rfl
      have hst:=kH (ts:=af vs) (vs:=ic fs) (last:=iP fs) hfd hm0
      by_cases heq : w.out = bK (af vs) d
      ·rw [if_pos (.inr heq)] at hst
       (refine ak (ar (id:=8) _ (fun _ h=>h) aj ?_);refine jT 22 [0,1,2] (aa 25 7) ?_;(try (refine Nx.re (d:=92) (v':=Bo false) F (congrArg Value.bool F) ?_));refine jT 20 [3,5] (aa 25 47) ?_;(refine jG (aa 25 111) 6 F (aC F F F) ?_);(refine jG (aa 25 239) 7 F (bz F F F F) ?_);(refine jA 4 F ?_;(refine ac F F F cx_out F ?_);refine jS (aa 25 255) ?_);(refine jA 8 F ?_;(refine ac F F F cx_sta F ?_);refine jS (aa 25 511) ?_);refine jT 15 [9] (aa 25 1023) ?_;(refine jG (aa 25 2047) 10 F (bm F F F) ?_);refine jT 13 [11] (aa 25 4095) ?_;(try (refine Nx.re (d:=101) (v':=Bo true) F (congrArg Value.bool (aD ‹_›)) ?_));refine jT 11 [12,13] (aa 25 16383) ?_;(refine jG (aa 25 32767) 14 F (bJ F F F) ?_);refine jT 9 [15] (aa 25 65535) ?_;(try (refine Nx.re (d:=105) (v':=Bo true) F (congrArg Value.bool F) ?_));refine jT 5 [16,17,18,19] (aa 25 1048575) ?_;(try (fail));refine jT 2 [20,21,22] (aa 25 8388607) ?_;(refine jN (aa 25 16777215) 23 F ?_);(refine jG (aa 25 33554431) 24 F (bJ F F F) ?_);refine jQ ?_)
       repeat' (first | refine jR ?_ | refine ab F F ?_)
       all_goals refine jZ (vs:=[_,_,_]) F ⟨F,F,F,trivial⟩ F ⟨hgl,F,?_⟩
       all_goals exact hnone hst F
      rw [if_neg (fun h=>by rcases h with h | h;exact hlt h;exact heq h)] at hst
      cases r1 with
      | nil =>
       (refine ak (ar (id:=8) _ (fun _ h=>h) aj ?_);refine jT 22 [0,1,2] (aa 25 7) ?_;(try (refine Nx.re (d:=92) (v':=Bo false) F (congrArg Value.bool F) ?_));refine jT 20 [3,5] (aa 25 47) ?_;(refine jG (aa 25 111) 6 F (aC F F F) ?_);(refine jG (aa 25 239) 7 F (bz F F F F) ?_);(refine jA 4 F ?_;(refine ac F F F cx_out F ?_);refine jS (aa 25 255) ?_);(refine jA 8 F ?_;(refine ac F F F cx_sta F ?_);refine jS (aa 25 511) ?_);refine jT 15 [9] (aa 25 1023) ?_;(refine jG (aa 25 2047) 10 F (bm F F F) ?_);refine jT 13 [11] (aa 25 4095) ?_;(try (refine Nx.re (d:=101) (v':=Bo false) F (congrArg Value.bool (aE ‹_›)) ?_));refine jT 11 [12,13] (aa 25 16383) ?_;(refine jG (aa 25 32767) 14 F (bm F F F) ?_);refine jT 9 [15] (aa 25 65535) ?_;(try (refine Nx.re (d:=105) (v':=Bo true) F (congrArg Value.bool F) ?_));refine jT 5 [16,17,18,19] (aa 25 1048575) ?_;(try (fail));refine jT 2 [20,21,22] (aa 25 8388607) ?_;(refine jN (aa 25 16777215) 23 F ?_);(refine jG (aa 25 33554431) 24 F (bJ F F F) ?_);refine jQ ?_)
       repeat' (first | refine jR ?_ | refine ab F F ?_)
       all_goals refine jZ (vs:=[_,_,_]) F ⟨F,F,F,trivial⟩ F ⟨hgl,F,?_⟩
       all_goals exact hnone hst F
      | cons e2 r3 =>
       have he20 : bt (e2 :: r3) (Int.toNat 0) = e2.toNat:=a6 e2 r3
       have hel2 : (e2 :: r3).length = r3.length + 1:=rfl
       have hl' : (fs ++ [(d,w)]).length = fs.length + 1:=by simp
       have hbl' : (bs ++ [wb]).length = (fs ++ [(d,w)]).length:=by simp [hbl]
       have hnth : ∀ i,i < (fs ++ [(d,w)]).length → (i < fs.length ∧ ae (fs ++ [(d,w)]) i = ae fs i ∧ ae (bs ++ [wb]) i = ae bs i) ∨ (ae (fs ++ [(d,w)]) i = (d,w) ∧ ae (bs ++ [wb]) i = wb):=fun i hi=>by
        by_cases h1 : i < fs.length
        ·exact .inl ⟨h1,by rw [aI hi,aI h1,List.getElem_append_left h1],by rw [aI oM,aI oM,List.getElem_append_left oM]⟩
        ·have h2 : i = fs.length:=oM
         exact .inr ⟨by rw [aI hi];simp [h2],by rw [aI oM];simp [h2,hbl]⟩
       have hfm' : ∀ i,i < (fs ++ [(d,w)]).length → (ae (fs ++ [(d,w)]) i).1 ∈ x.2.fields:=fun i hi=>by
        rcases hnth i hi with ⟨h1,h2,_⟩ | ⟨h2,_⟩
        ·rw [h2];exact hfm i h1
        ·rw [h2];exact hdm
       have hreps' : ∀ i,i < (fs ++ [(d,w)]).length → RepR G (af vs) (ae (fs ++ [(d,w)]) i).2 (ae (fs ++ [(d,w)]) i).1.kind (ae (bs ++ [wb]) i):=fun i hi=>by
        rcases hnth i hi with ⟨h1,h2,h3⟩ | ⟨h2,h3⟩
        ·rw [h2,h3];exact (hreps i h1).mono hle
        ·rw [h2,h3];exact hrep
       have hrow1 : ax eb (fs.map fun p=>p.1.tag) ++ [I d.tag] = ax eb ((fs ++ [(d,w)]).map fun p=>p.1.tag):=by rw [List.map_append];exact (b5 eb _ d.tag).symm
       have hrow2 : ax eR bs ++ [Pt wb 0] = ax eR (bs ++ [wb]):=(b5 eR bs wb).symm
       have hnd : ic (fs ++ [(d,w)]) = ic fs ++ [.nd 61 [] d.tag [w]]:=by simp [ic]
       dsimp only at hst
       by_cases h44 : e2.toNat = 44
       ·rw [if_pos h44] at hst
        have hn93 : ¬ e2.toNat = 125:=oM
        (refine ak (ar (id:=8) _ (fun _ h=>h) aj ?_);refine jT 22 [0,1,2] (aa 25 7) ?_;(try (refine Nx.re (d:=92) (v':=Bo false) F (congrArg Value.bool F) ?_));refine jT 20 [3,5] (aa 25 47) ?_;(refine jG (aa 25 111) 6 F (aC F F F) ?_);(refine jG (aa 25 239) 7 F (bz F F F F) ?_);(refine jA 4 F ?_;(refine ac F F F cx_out F ?_);refine jS (aa 25 255) ?_);(refine jA 8 F ?_;(refine ac F F F cx_sta F ?_);refine jS (aa 25 511) ?_);refine jT 15 [9] (aa 25 1023) ?_;(refine jG (aa 25 2047) 10 F (bm F F F) ?_);refine jT 13 [11] (aa 25 4095) ?_;(try (refine Nx.re (d:=101) (v':=Bo false) F (congrArg Value.bool (aE ‹_›)) ?_));refine jT 11 [12,13] (aa 25 16383) ?_;(refine jG (aa 25 32767) 14 F (bm F F F) ?_);refine jT 9 [15] (aa 25 65535) ?_;(try (refine Nx.re (d:=105) (v':=Bo false) F (congrArg Value.bool F) ?_));refine jW 5 [16,17,18,19] (aa 25 1048575) ?_;(try ((refine Nx.re (d:=109) (v':=Bo false) F (congrArg Value.bool (aE oM)) ?_)));refine jT 2 [20,21,22] (aa 25 8388607) ?_;(refine jG (aa 25 16777215) 23 F (bm F F F) ?_);(refine jG (aa 25 33554431) 24 F (bm F F F) ?_);refine jQ ?_)
        repeat' (first | refine jR ?_ | refine ad F F ?_)
        (refine ak (ar (id:=10) [.blk x14 (.cells (List.toArray [I d.tag,S d.name,S d.kind,S d.stand]) tFd (0,0))] (by intro y hy;simp only [List.mem_cons,List.not_mem_nil,or_false] at hy ⊢;simp [hy]) aj ?_);refine jW 7 [0,1,2,3,5] (aa 12 47) ?_;(refine jG (aa 12 111) 6 F (aC F F F) ?_);refine cX [4,7] kR dC ⟨?_,?_,trivial⟩;(focus (refine bE F F ?_;(refine al F ?_);refine jK (aa 12 127) ?_;refine jA 7 F ?_;(refine jF fun _=>?_);refine jK (aa 12 255) ?_;refine jA 8 F ?_;((refine ci F F F F F F F F F ?_ fun _ _=>?_;focus omega));refine jK (aa 12 511) ?_;refine jW 1 [9,10] (aa 12 2047) ?_;refine jA 11 F ?_;(refine jD F F F ?_);refine jK (aa 12 4095) ?_;refine jQ ?_));rotate_left 1;(focus (refine bE F F ?_;(refine jF fun _=>?_);refine jK (aa 12 239) ?_;refine jA 4 F ?_;(refine al F ?_);refine jK (aa 12 255) ?_;refine jA 8 F ?_;((refine ci F F F F F F F F F ?_ fun _ _=>?_;focus omega));refine jK (aa 12 511) ?_;refine jW 1 [9,10] (aa 12 2047) ?_;refine jA 11 F ?_;(refine jD F F F ?_);refine jK (aa 12 4095) ?_;refine jQ ?_));rotate_left 1)
        all_goals repeat' (first | refine jM ?_ | (refine jo ?_;first | refine al F ?_ | refine jD F F F ?_ | refine jF fun _=>?_ | refine ci F F F F F F F F F oM fun _ _=>?_) | refine ad F (aE oM) ?_)
        all_goals
         rename_i _ y1 yc1 _ y2 yc2
         rw [hrow1,hrow2]
         exact a7 (fs ++ [(d,w)],bs ++ [wb],some ⟨y1,0,none⟩,yc1,some ⟨y2,0,none⟩,yc2,r3,m - 1,G) ⟨⟨⟨hbl',hfm',hreps'⟩,hgl⟩,⟨(by dsimp only;rw [hit,hst,vi,hnd]),(by dsimp only;omega)⟩,(by dsimp only;omega),(by dsimp only;omega)⟩ (by dsimp only;omega) tU rfl (by rw [hl'];repeat (first | exact List.Sublist.refl _ | apply List.Sublist.cons_cons | apply List.Sublist.cons))
       ·rw [if_neg h44] at hst
        by_cases h125' : e2.toNat = 125
        ·rw [if_pos h125'] at hst
         (refine ak (ar (id:=8) _ (fun _ h=>h) aj ?_);refine jT 22 [0,1,2] (aa 25 7) ?_;(try (refine Nx.re (d:=92) (v':=Bo false) F (congrArg Value.bool F) ?_));refine jT 20 [3,5] (aa 25 47) ?_;(refine jG (aa 25 111) 6 F (aC F F F) ?_);(refine jG (aa 25 239) 7 F (bz F F F F) ?_);(refine jA 4 F ?_;(refine ac F F F cx_out F ?_);refine jS (aa 25 255) ?_);(refine jA 8 F ?_;(refine ac F F F cx_sta F ?_);refine jS (aa 25 511) ?_);refine jT 15 [9] (aa 25 1023) ?_;(refine jG (aa 25 2047) 10 F (bm F F F) ?_);refine jT 13 [11] (aa 25 4095) ?_;(try (refine Nx.re (d:=101) (v':=Bo false) F (congrArg Value.bool (aE ‹_›)) ?_));refine jT 11 [12,13] (aa 25 16383) ?_;(refine jG (aa 25 32767) 14 F (bm F F F) ?_);refine jT 9 [15] (aa 25 65535) ?_;(try (refine Nx.re (d:=105) (v':=Bo false) F (congrArg Value.bool F) ?_));refine jW 5 [16,17,18,19] (aa 25 1048575) ?_;(try ((refine Nx.re (d:=109) (v':=Bo true) F (congrArg Value.bool (aD oM)) ?_)));refine jW 2 [20,21,22] (aa 25 8388607) ?_;(refine jG (aa 25 16777215) 23 F (bJ F F F) ?_);(refine jG (aa 25 33554431) 24 F (bm F F F) ?_);refine jQ ?_)
         repeat' (first | refine jR ?_ | refine ad F (aE oM) ?_)
         (refine ak (ar (id:=10) [.blk x14 (.cells (List.toArray [I d.tag,S d.name,S d.kind,S d.stand]) tFd (0,0))] (by intro y hy;simp only [List.mem_cons,List.not_mem_nil,or_false] at hy ⊢;simp [hy]) aj ?_);refine jW 7 [0,1,2,3,5] (aa 12 47) ?_;(refine jG (aa 12 111) 6 F (aC F F F) ?_);refine cX [4,7] kR dC ⟨?_,?_,trivial⟩;(focus (refine bE F F ?_;(refine al F ?_);refine jK (aa 12 127) ?_;refine jA 7 F ?_;(refine jF fun _=>?_);refine jK (aa 12 255) ?_;refine jA 8 F ?_;((refine ci F F F F F F F F F ?_ fun _ _=>?_;focus omega));refine jK (aa 12 511) ?_;refine jW 1 [9,10] (aa 12 2047) ?_;refine jA 11 F ?_;(refine jD F F F ?_);refine jK (aa 12 4095) ?_;refine jQ ?_));rotate_left 1;(focus (refine bE F F ?_;(refine jF fun _=>?_);refine jK (aa 12 239) ?_;refine jA 4 F ?_;(refine al F ?_);refine jK (aa 12 255) ?_;refine jA 8 F ?_;((refine ci F F F F F F F F F ?_ fun _ _=>?_;focus omega));refine jK (aa 12 511) ?_;refine jW 1 [9,10] (aa 12 2047) ?_;refine jA 11 F ?_;(refine jD F F F ?_);refine jK (aa 12 4095) ?_;refine jQ ?_));rotate_left 1)
         all_goals repeat' (first | refine jM ?_ | (refine jo ?_;first | refine al F ?_ | refine jD F F F ?_ | refine jF fun _=>?_ | refine ci F F F F F F F F F oM fun _ _=>?_) | refine ab F (aD oM) ?_)
         all_goals
          rename_i _ y1 yc1 _ y2 yc2
          rw [hrow1,hrow2]
          refine Nx.sealS (v:=.slice (some ⟨y1,0,none⟩) (fs.length + 1) yc1) fun G2 hG2 hs1=>?_
          refine Nx.sealS (v:=.slice (some ⟨y2,0,none⟩) (fs.length + 1) yc2) fun G3 hG3 hs2=>?_
          refine Nx.sealC (b:=x13) fun G4 hG4 hsg=>?_
          refine jZ (vs:=[_,_,_]) F ⟨F,F,F,trivial⟩ F ⟨(((hgl.trans hG2).trans hG3).trans hG4),F,?_⟩
          rw [aL]
          exact ⟨_,_,_,F,fun _=>⟨.nd 82 [] 0 (ic (fs ++ [(d,w)])),x13,F,(by rw [hRl,hit,hst,hnd];rfl),.recd k x13 x.2 (fs ++ [(d,w)]) (bs ++ [wb]) (some ⟨y1,0,none⟩) (some ⟨y2,0,none⟩) yc1 yc2 ⟨hrf,hso⟩ (by rw [hl'];exact hsg) (by rw [hl'];exact (hs1.mono hG3).mono hG4) (by rw [hl'];exact hs2.mono hG4) hbl' hfm' (fun i hi=>(hreps' i hi).mono ((hG2.trans hG3).trans hG4))⟩,fun h=>(by cases h)⟩
        ·rw [if_neg h125'] at hst
         (refine ak (ar (id:=8) _ (fun _ h=>h) aj ?_);refine jT 22 [0,1,2] (aa 25 7) ?_;(try (refine Nx.re (d:=92) (v':=Bo false) F (congrArg Value.bool F) ?_));refine jT 20 [3,5] (aa 25 47) ?_;(refine jG (aa 25 111) 6 F (aC F F F) ?_);(refine jG (aa 25 239) 7 F (bz F F F F) ?_);(refine jA 4 F ?_;(refine ac F F F cx_out F ?_);refine jS (aa 25 255) ?_);(refine jA 8 F ?_;(refine ac F F F cx_sta F ?_);refine jS (aa 25 511) ?_);refine jT 15 [9] (aa 25 1023) ?_;(refine jG (aa 25 2047) 10 F (bm F F F) ?_);refine jT 13 [11] (aa 25 4095) ?_;(try (refine Nx.re (d:=101) (v':=Bo false) F (congrArg Value.bool (aE ‹_›)) ?_));refine jT 11 [12,13] (aa 25 16383) ?_;(refine jG (aa 25 32767) 14 F (bm F F F) ?_);refine jT 9 [15] (aa 25 65535) ?_;(try (refine Nx.re (d:=105) (v':=Bo false) F (congrArg Value.bool F) ?_));refine jW 5 [16,17,18,19] (aa 25 1048575) ?_;(try ((refine Nx.re (d:=109) (v':=Bo true) F (congrArg Value.bool (aD oM)) ?_)));refine jW 2 [20,21,22] (aa 25 8388607) ?_;(refine jG (aa 25 16777215) 23 F (bJ F F F) ?_);(refine jG (aa 25 33554431) 24 F (bm F F F) ?_);refine jQ ?_)
         repeat' (first | refine jR ?_ | refine ab F (aD oM) ?_)
         all_goals refine jZ (vs:=[_,_,_]) F ⟨F,F,F,trivial⟩ F ⟨hgl,F,?_⟩
         all_goals exact hnone hst F
theorem uQ {ts : List Ty} {f : adE → adE → Option (V × adE)} {t : Ty} {e : UInt8} {s : adE} (h : t.sort = 82 ∧ ¬ e.toNat = 123 ∨ t.sort = 69 ∧ ¬ e.toNat = 35 ∨ t.sort = 85 ∧ ¬ e.toNat = 60) : be ts f t (e :: s) = none:=by
 unfold be
 dsimp only
 rcases h with ⟨h1,h2⟩ | ⟨h1,h2⟩ | ⟨h1,h2⟩
 ·rw [if_pos h1,if_neg h2]
 ·rw [if_neg oM,if_pos h1,if_neg h2]
 ·rw [if_neg oM,if_neg oM,if_neg h2]
theorem aby {n : Nat} {u : Value} {vs : List bU} {x : bU} {k s : adE} {e : UInt8} (hu : u.oneCell' = true) (cx_rf : aG adD 160 [u,S k] G (· = Tu [Ag [U8 x.2.sort,S x.2.name,fY x],Bo true])) (hso : x.2.sort = 82 ∧ ¬ e.toNat = 123 ∨ x.2.sort = 69 ∧ ¬ e.toNat = 35 ∨ x.2.sort = 85 ∧ ¬ e.toNat = 60) (hs : s.length ≤ 2000000) (hn : n ≤ 1000) :
  bd adD 153 [Ag [u],S (e :: s),S k,I (n + 1 : Nat)] G (cD (af vs) (be (af vs) (rd (af vs) n) x.2 (e :: s)) k):=by
 have hno:=uQ (ts:=af vs) (f:=rd (af vs) n) (s:=s) hso
 have he0 : bt (e :: s) (Int.toNat 0) = e.toNat:=a6 e s
 have hel : (e :: s).length = s.length + 1:=rfl
 rcases hso with ⟨h1,h2⟩ | ⟨h1,h2⟩ | ⟨h1,h2⟩
 all_goals
  have h1' : (x.2.sort : Int) = 82 ∨ (x.2.sort : Int) = 69 ∨ (x.2.sort : Int) = 85:=oM
  refine jB [(0,_),(1,_),(2,_),(3,_)] Tryz.func153 Tryz.ntmps153 fun B hok hB hW=>?_
  repeat' (first | refine jM ?_ | (refine jo ?_;first | refine jO fun _=>?_ | refine al F ?_ | refine jL fun _=>?_ | refine jC F F F ?_ | refine aK F ?_ | refine aw F ?_ | refine ac F F F cx_rf F ?_) | refine aA F F (aD oM) ?_ | refine am F F (aE oM) ?_ | (refine ad F (by first | rfl | (refine decide_eq_false ?_;(omega))) ?_))
  all_goals refine jZ (vs:=[_,_,_]) F ⟨F,F,F,trivial⟩ F ⟨Gh.le.refl _,F,?_⟩
  all_goals (rw [aL];exact ⟨_,_,_,F,fun h=>(by cases h),fun _=>hno⟩)
theorem abA {n : Nat} {u : Value} {vs : List bU} {x : bU} {k s : adE} (hR : kQ n u vs) (h : SchR G u vs) (hw : SchW (af vs)) (hx : x ∈ vs) (hrf : aX (af vs) k = some x.2) (cx_rf : aG adD 160 [u,S k] G (· = Tu [Ag [U8 x.2.sort,S x.2.name,fY x],Bo true])) (hso : x.2.sort = 82) (hs : s.length ≤ 1999999) (hn : n ≤ 1000) (hkl : k.length ≤ 1000) :
  bd adD 153 [Ag [u],S (123 :: s),S k,I (n + 1 : Nat)] G (cD (af vs) (be (af vs) (rd (af vs) n) x.2 (123 :: s)) k):=by
 have cx_rc:=wI (s:=s) hR h hw hx hrf hso oM hn hkl
 have he0 : bt (123 :: s) (Int.toNat 0) = 123:=a6 123 s
 have hel : (123 :: s).length = s.length + 1:=rfl
 have h1' : (x.2.sort : Int) = 82:=oM
 refine jB [(0,_),(1,_),(2,_),(3,_)] Tryz.func153 Tryz.ntmps153 fun B hok hB hW=>?_
 repeat' (first | refine jM ?_ | (refine jo ?_;first | refine jO fun _=>?_ | refine al F ?_ | refine jL fun _=>?_ | refine jC F F F ?_ | refine aK F ?_ | refine ac F F F cx_rf F ?_) | refine aA F F (aD ‹_›) ?_ | refine ab F F ?_ | (refine ak (ar (id:=3) _ (fun _ h=>h) aj ?_);refine jW 9 [1,2,3,5] (aa 13 46) ?_;(refine jG (aa 13 47) 0 F (bz F F F F) ?_);(refine jG (aa 13 63) 4 F (bz F F F F) ?_);refine jA 6 F ?_;(refine aF F F F cx_rc F ?_;rintro _ G hle ⟨q1,r1,ok1,rfl,hyes,hno⟩;skip);refine jS (aa 13 127) ?_;refine jT 0 [7,8,9,10,11,12] (aa 13 8191) ?_;refine jQ ?_))
 refine jZ (vs:=[_,_,_]) F ⟨F,F,F,trivial⟩ F ⟨hle,F,?_⟩
 rw [aL]
 exact ⟨_,_,_,F,hyes,hno⟩
theorem abB {n : Nat} {u : Value} {vs : List bU} {x : bU} {k s : adE} (h : SchR G u vs) (hw : SchW (af vs)) (hx : x ∈ vs) (hrf : aX (af vs) k = some x.2) (cx_rf : aG adD 160 [u,S k] G (· = Tu [Ag [U8 x.2.sort,S x.2.name,fY x],Bo true])) (hso : x.2.sort = 69) (hs : s.length ≤ 1999999) (hn : n ≤ 1000) :
  bd adD 153 [Ag [u],S (35 :: s),S k,I (n + 1 : Nat)] G (cD (af vs) (be (af vs) (rd (af vs) n) x.2 (35 :: s)) k):=by
 have hxt : x.2 ∈ af vs:=List.mem_map_of_mem hx
 have hTW:=hw.ty _ hxt
 have hfl:=hTW.len
 have cx_tg:=rN (G:=G) (u:=u) (x:=x) (s:=s) oM h.sl.one (h.fl x hx) oM
 have he0 : bt (35 :: s) (Int.toNat 0) = 35:=a6 35 s
 have hel : (35 :: s).length = s.length + 1:=rfl
 have h1' : (x.2.sort : Int) = 69:=oM
 have hRT : be (af vs) (rd (af vs) n) x.2 (35 :: s) = match cq 200 s with
   | none=>none
   | some (n,r)=>if (bB x.2.fields n).isSome = true then some (.nd 69 [] n [],r) else none:=by
  unfold be
  dsimp only
  rw [if_neg oM,if_pos hso,if_pos (show (35 : UInt8).toNat = 35 from rfl)]
  cases cq 200 s <;> rfl
 unfold cq at hRT
 simp only [j3] at cx_tg
 refine jB [(0,_),(1,_),(2,_),(3,_)] Tryz.func153 Tryz.ntmps153 fun B hok hB hW=>?_
 repeat' (first | refine jM ?_ | (refine jo ?_;first | refine jO fun _=>?_ | refine al F ?_ | refine jL fun _=>?_ | refine jC F F F ?_ | refine aK F ?_ | refine aw F ?_ | refine jF fun _=>?_ | refine jV (ao F F) ?_ | refine ac F F F cx_rf F ?_) | refine aA F F (aD ‹_›) ?_ | refine am F F (aE oM) ?_ | refine ab F F ?_ | refine ad F F ?_ | (refine ak (ar (id:=5) _ (fun _ h=>h) aj ?_);refine jW 11 [1,2] (aa 13 6) ?_;(refine jG (aa 13 7) 0 F (bz F F F F) ?_);(refine jG (aa 13 15) 3 F (bz F F F F) ?_);refine cX [4,9] kR dC ⟨?_,?_,trivial⟩;(focus (refine bE F F ?_;(refine dn F F F cx_tg F ?_;rintro _ ⟨nt,rfl,hnt⟩);refine jK (aa 13 31) ?_;refine jW 4 [5,6,7,8] (aa 13 511) ?_;refine jA 9 F ?_;(refine jL fun _=>?_);refine jK (aa 13 1023) ?_;refine jA 10 F ?_;(refine jC F F F ?_);refine jK (aa 13 2047) ?_;refine jW 0 [11,12] (aa 13 8191) ?_;refine jQ ?_));rotate_left 1;(focus (refine bE F F ?_;(refine jL fun _=>?_);refine jK (aa 13 527) ?_;refine jA 4 F ?_;(refine dn F F F cx_tg F ?_;rintro _ ⟨nt,rfl,hnt⟩);refine jK (aa 13 543) ?_;refine jW 3 [5,6,7,8] (aa 13 1023) ?_;refine jA 10 F ?_;(refine jC F F F ?_);refine jK (aa 13 2047) ?_;refine jW 0 [11,12] (aa 13 8191) ?_;refine jQ ?_));rotate_left 1))
 all_goals
  rename_i y y8
  refine Nx.sealC (b:=y) fun G2 hG2 hsy=>?_
  refine Nx.sealC (b:=y8) fun G3 hG3 hsg=>?_
  refine jZ (vs:=[_,_,_]) F ⟨F,F,F,trivial⟩ F ⟨(hG2.trans hG3),F,?_⟩
  rw [aL]
  refine ⟨_,_,_,F,fun hb=>?_,fun hb=>?_⟩
  ·simp only [Bool.and_eq_true] at hb
   obtain ⟨hb1,hb2⟩:=hb
   obtain ⟨m0,hm⟩:=Option.isSome_iff_exists.1 hb1
   obtain ⟨d,hd⟩:=Option.isSome_iff_exists.1 hb2
   have hnm:=hnt m0 hm
   subst hnm
   rw [hd] at hsy
   simp only [Option.getD_some] at hsy
   have hdm : d ∈ x.2.fields:=List.mem_of_find?_eq_some hd
   have hdt : d.tag = nt:=by have:=List.find?_some hd;simpa using this
   exact ⟨.nd 69 [] d.tag [],y8,F,by rw [hRT,hm];dsimp only [Option.map_some];rw [hd,hdt];rfl,.enm k y8 y x.2 d ⟨hrf,hso⟩ hdm hsg (hsy.mono hG3)⟩
  ·rw [hRT]
   cases hm : aM (s.takeWhile bc) 200 with
   | none=>rfl
   | some m0 =>
    have hnm:=hnt m0 hm
    subst hnm
    rw [hm] at hb
    dsimp only [Option.map_some]
    rw [if_neg]
    intro h2
    rw [h2] at hb;cases hb
theorem abz {n : Nat} {u : Value} {vs : List bU} {x : bU} {k s : adE} (hR : kQ n u vs) (h : SchR G u vs) (hw : SchW (af vs)) (hx : x ∈ vs) (hrf : aX (af vs) k = some x.2) (cx_rf : aG adD 160 [u,S k] G (· = Tu [Ag [U8 x.2.sort,S x.2.name,fY x],Bo true])) (hso : x.2.sort = 85) (hs : s.length ≤ 1999999) (hn : n ≤ 1000) :
  bd adD 153 [Ag [u],S (60 :: s),S k,I (n + 1 : Nat)] G (cD (af vs) (be (af vs) (rd (af vs) n) x.2 (60 :: s)) k):=by
 have edn : ((n + 1 : Nat) : Int) - 1 = (n : Nat):=oM
 have hxt : x.2 ∈ af vs:=List.mem_map_of_mem hx
 have hTW:=hw.ty _ hxt
 have hfl:=hTW.len
 have cx_tg:=rN (G:=G) (u:=u) (x:=x) (s:=s) oM h.sl.one (h.fl x hx) oM
 have he0 : bt (60 :: s) (Int.toNat 0) = 60:=a6 60 s
 have hel : (60 :: s).length = s.length + 1:=rfl
 have h1' : (x.2.sort : Int) = 85:=oM
 have hRT : be (af vs) (rd (af vs) n) x.2 (60 :: s) = match aW (rd (af vs) n) x.2 s with
   | none=>none
   | some ((d,v),r)=>match r with
    | []=>none
    | c' :: r'=>if c'.toNat = 62 then some (.nd 85 [] d.tag [v],r') else none:=by
  unfold be
  dsimp only
  rw [if_neg oM,if_neg oM,if_pos (show (60 : UInt8).toNat = 60 from rfl)]
  cases aW (rd (af vs) n) x.2 s <;> rfl
 simp only [j3] at cx_tg
 refine jB [(0,_),(1,_),(2,_),(3,_)] Tryz.func153 Tryz.ntmps153 fun B hok hB hW=>?_
 repeat' (first | refine jM ?_ | (refine jo ?_;first | refine jO fun _=>?_ | refine al F ?_ | refine jL fun _=>?_ | refine jC F F F ?_ | refine aK F ?_ | refine aw F ?_ | refine ac F F F cx_rf F ?_) | refine aA F F (aD ‹_›) ?_ | refine am F F (aE oM) ?_ | refine ab F F ?_ | refine ad F F ?_)
 (refine ak (ar (id:=8) _ (fun _ h=>h) aj ?_);refine jW 11 [1,2] (aa 13 6) ?_;(refine jG (aa 13 7) 0 F (bz F F F F) ?_);(refine jG (aa 13 15) 3 F (bz F F F F) ?_);refine cX [4,9] kR dC ⟨?_,?_,trivial⟩;(focus (refine bE F F ?_;(refine dn F F F cx_tg F ?_;rintro _ ⟨nt,rfl,hnt⟩);refine jK (aa 13 31) ?_;refine jW 4 [5,6,7,8] (aa 13 511) ?_;refine jA 9 F ?_;(refine jL fun _=>?_);refine jK (aa 13 1023) ?_;refine jA 10 F ?_;(refine jC F F F ?_);refine jK (aa 13 2047) ?_;refine jW 0 [11,12] (aa 13 8191) ?_;refine jQ ?_));rotate_left 1;(focus (refine bE F F ?_;(refine jL fun _=>?_);refine jK (aa 13 527) ?_;refine jA 4 F ?_;(refine dn F F F cx_tg F ?_;rintro _ ⟨nt,rfl,hnt⟩);refine jK (aa 13 543) ?_;refine jW 3 [5,6,7,8] (aa 13 1023) ?_;refine jA 10 F ?_;(refine jC F F F ?_);refine jK (aa 13 2047) ?_;refine jW 0 [11,12] (aa 13 8191) ?_;refine jQ ?_));rotate_left 1)
 all_goals
  have hnone : ∀ {v : Value} {G' : Gh} {r : adE},aW (rd (af vs) n) x.2 s = none → v = Tu [.pointer none,S r,Bo false] → cD (af vs) (be (af vs) (rd (af vs) n) x.2 (60 :: s)) k v G':=fun h1 h2=>⟨_,_,_,h2,fun h=>(by cases h),fun _=>by rw [hRT,h1]⟩
  cases hb16 : (aM (s.takeWhile bc) 200).isSome && (bB x.2.fields nt).isSome with
  | false =>
   have hno : aW (rd (af vs) n) x.2 s = none:=by
    cases hm : aM (s.takeWhile bc) 200 with
    | none=>exact fD (.inl hm)
    | some m0 =>
     refine fD (.inr ⟨m0,hm,?_⟩)
     rw [hm] at hb16
     rw [← hnt m0 hm]
     cases hf : bB x.2.fields nt with
     | none=>rfl
     | some d=>rw [hf] at hb16;cases hb16
   repeat' (first | refine jR ?_ | (refine jo ?_;refine aK F ?_) | refine aA F F F ?_ | refine ab F F ?_)
   all_goals refine jZ (vs:=[_,_,_]) F ⟨F,F,F,trivial⟩ F ⟨Gh.le.refl _,F,?_⟩
   all_goals exact hnone hno F
  | true =>
   simp only [Bool.and_eq_true] at hb16
   obtain ⟨hb1,hb2⟩:=hb16
   obtain ⟨m0,hm⟩:=Option.isSome_iff_exists.1 hb1
   obtain ⟨d,hd⟩:=Option.isSome_iff_exists.1 hb2
   have hnm:=hnt m0 hm
   subst hnm
   rw [hd]
   simp only [Option.getD_some]
   have hdm : d ∈ x.2.fields:=List.mem_of_find?_eq_some hd
   have hwl:=d6 bc s
   cases hdw : s.dropWhile bc with
   | nil =>
    have hno : aW (rd (af vs) n) x.2 s = none:=ik hm (fun s2 h=>by rw [hdw] at h;cases h)
    repeat' (first | refine jR ?_ | (refine jo ?_;first | refine aK F ?_ | refine aw F ?_) | refine aA F F F ?_ | refine am F F F ?_ | refine ab F F ?_)
    all_goals refine jZ (vs:=[_,_,_]) F ⟨F,F,F,trivial⟩ F ⟨Gh.le.refl _,F,?_⟩
    all_goals exact hnone hno F
   | cons e r2 =>
    have he20 : bt (e :: r2) (Int.toNat 0) = e.toNat:=a6 e r2
    have hel2 : (e :: r2).length = r2.length + 1:=rfl
    by_cases h61 : e.toNat = 61
    case neg =>
     have hno : aW (rd (af vs) n) x.2 s = none:=ik hm (fun s2 h=>by rw [hdw] at h;simp only [List.cons.injEq] at h;exact h61 (by rw [h.1];rfl))
     repeat' (first | refine jM ?_ | (refine jo ?_;refine aw F ?_) | refine am F F F ?_ | refine ab F (aD oM) ?_)
     all_goals refine jZ (vs:=[_,_,_]) F ⟨F,F,F,trivial⟩ F ⟨Gh.le.refl _,F,?_⟩
     all_goals exact hnone hno F
    have he61 : e = 61:=UInt8.toNat_inj.1 h61
    have hfs:=l4 (f:=rd (af vs) n) (t:=x.2) (s:=s) hm hd (by rw [hdw,he61])
    have hdk : aB (af vs) d.kind = true:=dk hw hxt oM hdm
    rw [hdw,List.length_cons] at hwl
    have cx_rd:=hR G d.kind r2 h hdk oM
    rw [← edn] at cx_rd
    repeat' (first | refine jM ?_ | (refine jo ?_;refine aw F ?_) | refine am F F F ?_ | refine ad F (aE oM) ?_)
    (refine ak (ar (id:=11) _ (fun _ h=>h) aj ?_);refine jW 10 [1,2,3,5,6] (aa 15 110) ?_;(refine jG (aa 15 111) 0 F (bz F F F F) ?_);(refine jG (aa 15 127) 4 F (aC F F F) ?_);refine jA 7 F ?_;(refine aF F F F cx_rd F ?_;rintro _ G hle ⟨q1,r1,ok1,rfl,hyes,hno⟩;skip);refine jS (aa 15 255) ?_;refine jT 0 [8,9,10,11,12,13,14] (aa 15 32767) ?_;refine jQ ?_)
    cases ok1 with
    | false =>
     have hno2 : aW (rd (af vs) n) x.2 s = none:=by rw [hfs,hno rfl];rfl
     repeat' (first | refine jR ?_ | (refine jo ?_;refine aK F ?_) | refine aA F F F ?_ | refine ab F F ?_)
     all_goals refine jZ (vs:=[_,_,_]) F ⟨F,F,F,trivial⟩ F ⟨hle,F,?_⟩
     all_goals exact hnone hno2 F
    | true =>
     obtain ⟨w,wb,rfl,hf,hrep⟩:=hyes rfl
     have hfd : aW (rd (af vs) n) x.2 s = some ((d,w),r1):=by rw [hfs,hf];rfl
     rw [hfd] at hRT
     dsimp only at hRT
     cases r1 with
     | nil =>
      repeat' (first | refine jR ?_ | (refine jo ?_;first | refine aK F ?_ | refine aw F ?_) | refine aA F F F ?_ | refine am F F F ?_ | refine ab F F ?_)
      all_goals refine jZ (vs:=[_,_,_]) F ⟨F,F,F,trivial⟩ F ⟨hle,F,?_⟩
      all_goals (rw [aL];exact ⟨_,_,_,F,fun h=>(by cases h),fun _=>hRT⟩)
     | cons e3 r3 =>
      have he30 : bt (e3 :: r3) (Int.toNat 0) = e3.toNat:=a6 e3 r3
      have hel3 : (e3 :: r3).length = r3.length + 1:=rfl
      dsimp only at hRT
      by_cases h62 : e3.toNat = 62
      case neg =>
       rw [if_neg h62] at hRT
       repeat' (first | refine jM ?_ | (refine jo ?_;refine aw F ?_) | refine am F F F ?_ | refine ab F (aD oM) ?_)
       all_goals refine jZ (vs:=[_,_,_]) F ⟨F,F,F,trivial⟩ F ⟨hle,F,?_⟩
       all_goals (rw [aL];exact ⟨_,_,_,F,fun h=>(by cases h),fun _=>hRT⟩)
      rw [if_pos h62] at hRT
      repeat' (first | refine jM ?_ | (refine jo ?_;refine aw F ?_) | refine am F F F ?_ | refine ad F (aE oM) ?_)
      (refine ak (ar (id:=14) _ (fun _ h=>h) aj ?_);refine jW 8 [0,1,4,8,9] (aa 13 787) ?_;(refine jG (aa 13 791) 2 F (aC F F F) ?_);refine cX [3,5] kR dC ⟨?_,?_,trivial⟩;(focus (refine bE F F ?_;(refine jF fun _=>?_);refine jS (aa 13 799) ?_;refine jA 5 F ?_;(refine jF fun _=>?_);refine jS (aa 13 831) ?_;(refine jG (aa 13 895) 6 F (ao F F) ?_);refine jA 7 F ?_;(refine jO fun _=>?_);refine jS (aa 13 1023) ?_;refine jW 0 [10,11,12] (aa 13 8191) ?_;refine jQ ?_));rotate_left 1;(focus (refine bE F F ?_;(refine jF fun _=>?_);refine jS (aa 13 823) ?_;refine jA 3 F ?_;(refine jF fun _=>?_);refine jS (aa 13 831) ?_;(refine jG (aa 13 895) 6 F (ao F F) ?_);refine jA 7 F ?_;(refine jO fun _=>?_);refine jS (aa 13 1023) ?_;refine jW 0 [10,11,12] (aa 13 8191) ?_;refine jQ ?_));rotate_left 1)
      all_goals repeat' (refine jR ?_)
      all_goals
       rename_i y1 y2 y8
       refine Nx.sealC (b:=y1) fun G2 hG2 hs1=>?_
       refine Nx.sealC (b:=y2) fun G3 hG3 hs2=>?_
       refine Nx.sealC (b:=y8) fun G4 hG4 hsg=>?_
       refine jZ (vs:=[_,_,_]) F ⟨F,F,F,trivial⟩ F ⟨(((hle.trans hG2).trans hG3).trans hG4),F,?_⟩
       rw [aL]
       first | exact ⟨_,_,_,F,fun _=>⟨.nd 85 [] d.tag [w],y8,F,hRT,.uni k y8 y1 y2 wb 1 x.2 d w (Nat.le_refl _) ⟨hrf,hso⟩ hdm hsg (hs1.mono (hG3.trans hG4)) (hs2.mono hG4) (hrep.mono ((hG2.trans hG3).trans hG4))⟩,fun h=>(by cases h)⟩ | exact ⟨_,_,_,F,fun _=>⟨.nd 85 [] d.tag [w],y8,F,hRT,.uni k y8 y2 y1 wb 1 x.2 d w (Nat.le_refl _) ⟨hrf,hso⟩ hdm hsg (hs2.mono hG4) (hs1.mono (hG3.trans hG4)) (hrep.mono ((hG2.trans hG3).trans hG4))⟩,fun h=>(by cases h)⟩
theorem aaD {ts : List Ty} {n : Nat} {k : adE} : rd ts n k [] = none:=by
 cases h : rd ts n k [] with
 | none=>rfl
 | some x=>have:=iy h;simp at this
theorem uy {n : Nat} {u : Value} {vs : List bU} {k s : adE} (hc : s = [] ∨ n = 0) (hn : n ≤ 1000) : bd adD 114 [Ag [u],S s,S k,I (n : Nat)] G (cD (af vs) (rd (af vs) n k s) k):=by
 have hno : rd (af vs) n k s = none:=by
  rcases hc with rfl | rfl
  ·exact aaD
  ·rfl
 by_cases hs : s = []
 ·refine jB [(0,_),(1,_),(2,_),(3,_)] Tryz.func114 Tryz.ntmps114 fun B hok hB hW=>?_
  repeat' (first | refine jR ?_ | (refine jo ?_;first | refine jO fun _=>?_ | refine aK F ?_) | refine aA F F (aD ‹_›) ?_ | refine ab F F ?_)
  refine jZ (vs:=[_,_,_]) F ⟨F,F,F,trivial⟩ F ⟨Gh.le.refl _,F,?_⟩
  rw [aL]
  exact ⟨_,_,_,F,fun h=>(by cases h),fun _=>hno⟩
 ·have hn0 : n = 0:=by
   rcases hc with h | h
   ·exact absurd h hs
   ·exact h
  refine jB [(0,_),(1,_),(2,_),(3,_)] Tryz.func114 Tryz.ntmps114 fun B hok hB hW=>?_
  repeat' (first | refine jR ?_ | (refine jo ?_;first | refine jO fun _=>?_ | refine aw F ?_) | refine am F F (aE ‹_›) ?_ | refine ab F (aD oM) ?_)
  refine jZ (vs:=[_,_,_]) F ⟨F,F,F,trivial⟩ F ⟨Gh.le.refl _,F,?_⟩
  rw [aL]
  exact ⟨_,_,_,F,fun h=>(by cases h),fun _=>hno⟩
theorem zU {n : Nat} {u : Value} {vs : List bU} {k s : adE} {e : UInt8} (hR : kQ n u vs) (h : SchR G u vs) (hk : aB (af vs) (91 :: k) = true) (hs : s.length ≤ 1999999) (hn : n ≤ 999) :
  bd adD 114 [Ag [u],S (e :: s),S (91 :: k),I (n + 1 : Nat)] G (cD (af vs) (rd (af vs) (n + 1) (91 :: k) (e :: s)) (91 :: k)):=by
 have hrd : rd (af vs) (n + 1) (91 :: k) (e :: s) = fj (rd (af vs) n k) (e :: s):=by rw [rd];exact r5 F
 have he0 : bt (e :: s) (Int.toNat 0) = e.toNat:=a6 e s
 have hel : (e :: s).length = s.length + 1:=rfl
 have hk0 : bt (91 :: k) (Int.toNat 0) = 91:=a6 91 k
 have hkl2 : (91 :: k).length = k.length + 1:=rfl
 by_cases h91 : e.toNat = 91
 ·obtain rfl:=bn h91 dC
  have cx_ls:=zX (s:=s) hR h (dy (.inl rfl) hk) oM oM
  refine jB [(0,_),(1,_),(2,_),(3,_)] Tryz.func114 Tryz.ntmps114 fun B hok hB hW=>?_
  repeat' (first | refine jM ?_ | (refine jo ?_;first | refine jO fun _=>?_ | refine aw F ?_) | refine am F F F ?_ | refine ab F F ?_ | refine ad F F ?_ | (refine ak (ar (id:=7) _ (fun _ h=>h) aj ?_);refine jW 8 [1,2,3,4] (aa 12 30) ?_;(refine jG (aa 12 31) 0 F (bz F F F F) ?_);refine jA 5 F ?_;(refine aF F F F cx_ls F ?_;rintro _ G hle ⟨q1,r1,ok1,rfl,hyes,hno⟩;skip);refine jS (aa 12 63) ?_;refine jT 0 [6,7,8,9,10,11] (aa 12 4095) ?_;refine jQ ?_))
  refine jZ (vs:=[_,_,_]) F ⟨F,F,F,trivial⟩ F ⟨hle,F,?_⟩
  rw [aL,hrd]
  exact ⟨_,_,_,F,hyes,hno⟩
 ·have hno : fj (rd (af vs) n k) (e :: s) = none:=by unfold fj;dsimp only;rw [if_neg h91]
  refine jB [(0,_),(1,_),(2,_),(3,_)] Tryz.func114 Tryz.ntmps114 fun B hok hB hW=>?_
  repeat' (first | refine jM ?_ | (refine jo ?_;first | refine jO fun _=>?_ | refine aw F ?_) | refine am F F F ?_ | (refine ab F (by first | rfl | (refine decide_eq_true ?_;(omega))) ?_) | refine ad F F ?_)
  refine jZ (vs:=[_,_,_]) F ⟨F,F,F,trivial⟩ F ⟨Gh.le.refl _,F,?_⟩
  rw [aL,hrd]
  exact ⟨_,_,_,F,fun h=>(by cases h),fun _=>hno⟩
theorem zS {n : Nat} {u : Value} {vs : List bU} {k s : adE} {e : UInt8} (hR : kQ n u vs) (h : SchR G u vs) (hk : aB (af vs) (63 :: k) = true) (hs : s.length ≤ 1999999) (hn : n ≤ 999) :
  bd adD 114 [Ag [u],S (e :: s),S (63 :: k),I (n + 1 : Nat)] G (cD (af vs) (rd (af vs) (n + 1) (63 :: k) (e :: s)) (63 :: k)):=by
 have edn : ((n + 1 : Nat) : Int) - 1 = (n : Nat):=oM
 have hrd : rd (af vs) (n + 1) (63 :: k) (e :: s) = if e.toNat = 45 then some (.nd 63 [] 0 [],s) else if e.toNat = 43 then (rd (af vs) n k s).map fun x=>(.nd 63 [] 0 [x.1],x.2) else none:=by
  rw [rd];unfold fe
  dsimp only
  rw [if_neg (show ¬ (63 : UInt8).toNat = 91 by decide),if_pos (show (63 : UInt8).toNat = 63 from rfl)]
 have he0 : bt (e :: s) (Int.toNat 0) = e.toNat:=a6 e s
 have hel : (e :: s).length = s.length + 1:=rfl
 have hk0 : bt (63 :: k) (Int.toNat 0) = 63:=a6 63 k
 have hkl2 : (63 :: k).length = k.length + 1:=rfl
 rw [hrd]
 by_cases h45 : e.toNat = 45
 ·rw [if_pos h45]
  refine jB [(0,_),(1,_),(2,_),(3,_)] Tryz.func114 Tryz.ntmps114 fun B hok hB hW=>?_
  repeat' (first | refine jM ?_ | (refine jo ?_;first | refine jO fun _=>?_ | refine aw F ?_) | refine am F F F ?_ | (refine ab F (by first | rfl | (refine decide_eq_true ?_;(omega))) ?_) | refine ad F F ?_ | (refine ak (ar (id:=10) _ (fun _ h=>h) aj ?_);refine jW 5 [0,3,4] (aa 8 25) ?_;(refine jG (aa 8 27) 1 F (ao F F) ?_);refine jA 2 F ?_;(refine jO fun _=>?_);refine jS (aa 8 31) ?_;refine jT 0 [5,6,7] (aa 8 255) ?_;refine jQ ?_))
  rename_i y
  refine Nx.sealC (b:=y) fun G2 hG2 hsy=>?_
  refine jZ (vs:=[_,_,_]) F ⟨F,F,F,trivial⟩ F ⟨hG2,F,?_⟩
  rw [aL]
  exact ⟨_,_,_,F,fun _=>⟨_,y,F,F,.non k y hsy⟩,fun h=>(by cases h)⟩
 rw [if_neg h45]
 by_cases h43 : e.toNat = 43
 ·rw [if_pos h43]
  have cx_rd:=hR G k s h (dy (.inr rfl) hk) oM
  rw [← edn] at cx_rd
  refine jB [(0,_),(1,_),(2,_),(3,_)] Tryz.func114 Tryz.ntmps114 fun B hok hB hW=>?_
  repeat' (first | refine jM ?_ | (refine jo ?_;first | refine jO fun _=>?_ | refine aw F ?_ | refine jV (ao F F) ?_ | refine jF fun _=>?_) | refine am F F F ?_ | refine ab F F ?_ | (refine ad F (by first | rfl | (refine decide_eq_false ?_;(omega))) ?_) | (refine ak (ar (id:=13) _ (fun _ h=>h) aj ?_);refine jW 9 [1,2,3,4,5,6] (aa 15 126) ?_;(refine jG (aa 15 127) 0 F (bz F F F F) ?_);refine jA 7 F ?_;(refine aF F F F cx_rd F ?_;rintro _ G hle ⟨q1,r1,ok1,rfl,hyes,hno⟩;skip);refine jS (aa 15 255) ?_;refine jT 0 [8,9,10,11,12,13,14] (aa 15 32767) ?_;refine jQ ?_))
  rename_i y1 y8
  refine Nx.sealC (b:=y1) fun G2 hG2 hs1=>?_
  refine Nx.sealC (b:=y8) fun G3 hG3 hsg=>?_
  refine jZ (vs:=[_,_,_]) F ⟨F,F,F,trivial⟩ F ⟨((hle.trans hG2).trans hG3),F,?_⟩
  rw [aL]
  refine ⟨_,_,_,F,fun hb=>?_,fun hb=>by rw [hno hb];rfl⟩
  obtain ⟨w,wb,rfl,hf,hrep⟩:=hyes hb
  exact ⟨.nd 63 [] 0 [w],y8,F,by rw [hf];rfl,.opt k y8 y1 wb 1 w (Nat.le_refl _) hsg (hs1.mono hG3) (hrep.mono (hG2.trans hG3))⟩
 ·rw [if_neg h43]
  refine jB [(0,_),(1,_),(2,_),(3,_)] Tryz.func114 Tryz.ntmps114 fun B hok hB hW=>?_
  repeat' (first | refine jM ?_ | (refine jo ?_;first | refine jO fun _=>?_ | refine aw F ?_) | refine am F F F ?_ | (refine ab F (by first | rfl | (refine decide_eq_true ?_;(omega))) ?_) | (refine ad F (by first | rfl | (refine decide_eq_false ?_;(omega))) ?_))
  refine jZ (vs:=[_,_,_]) F ⟨F,F,F,trivial⟩ F ⟨Gh.le.refl _,F,?_⟩
  rw [aL]
  exact ⟨_,_,_,F,fun h=>(by cases h),fun _=>rfl⟩
theorem zV {n : Nat} {u : Value} {vs : List bU} {k s : adE} {e : UInt8} {t : Ty} (hR : kQ n u vs) (h : SchR G u vs) (hw : SchW (af vs)) (hk : aB (af vs) k = true) (hrf : aX (af vs) k = some t) (hs : s.length ≤ 1999999) (hn : n ≤ 999) :
  bd adD 114 [Ag [u],S (e :: s),S k,I (n + 1 : Nat)] G (cD (af vs) (rd (af vs) (n + 1) k (e :: s)) k):=by
 obtain ⟨r,rfl⟩:=dv hrf
 have hkk:=cm (cE hk)
 have hrd : rd (af vs) (n + 1) (64 :: r) (e :: s) = be (af vs) (rd (af vs) n) t (e :: s):=by
  rw [rd];unfold fe
  dsimp only
  rw [if_neg (show ¬ (64 : UInt8).toNat = 91 by decide),if_neg (show ¬ (64 : UInt8).toNat = 63 by decide),hrf]
 have hvl : vs.length ≤ 8:=by have:=hw.len;unfold af at this;simpa using this
 have href:=dX vs (64 :: r)
 have cx_rf:=gE (k:=64 :: r) h oM hkk.1 oM
 rcases hr : d8 vs (64 :: r) with _ | x
 ·rw [hr,hrf] at href;cases href
 rw [hr] at href cx_rf
 have htx : x.2 = t:=by rw [hrf] at href;exact Option.some.inj href
 subst htx
 have hx:=eI hr
 have cx_na : bd adD 153 [Ag [u],S (e :: s),S (64 :: r),I (n + 1 : Nat)] G (cD (af vs) (be (af vs) (rd (af vs) n) x.2 (e :: s)) (64 :: r)):=by
  have hso:=(hw.ty _ (List.mem_map_of_mem hx)).sort
  by_cases h1 : x.2.sort = 82 ∧ e.toNat = 123
  ·obtain rfl:=bn h1.2 dC
   exact abA hR h hw hx hrf cx_rf h1.1 hs oM oM
  by_cases h2 : x.2.sort = 69 ∧ e.toNat = 35
  ·obtain rfl:=bn h2.2 dC
   exact abB h hw hx hrf cx_rf h2.1 hs oM
  by_cases h3 : x.2.sort = 85 ∧ e.toNat = 60
  ·obtain rfl:=bn h3.2 dC
   exact abz hR h hw hx hrf cx_rf h3.1 hs oM
  refine aby h.sl.one cx_rf ?_ oM oM
  rcases hso with h4 | h4 | h4 <;> omega
 have hel : (e :: s).length = s.length + 1:=rfl
 have hk0 : bt (64 :: r) (Int.toNat 0) = 64:=a6 64 r
 have hkl2 : (64 :: r).length = r.length + 1:=rfl
 refine jB [(0,_),(1,_),(2,_),(3,_)] Tryz.func114 Tryz.ntmps114 fun B hok hB hW=>?_
 repeat' (first | refine jM ?_ | (refine jo ?_;first | refine jO fun _=>?_ | refine aw F ?_ | refine aQ F ?_ | (refine aF F F F cx_na F ?_;rintro _ G hle ⟨q1,r1,ok1,rfl,hyes,hno⟩;skip)) | refine am F F F ?_ | refine ab F F ?_ | refine ad F F ?_)
 refine jZ (vs:=[_,_,_]) F ⟨F,F,F,trivial⟩ F ⟨hle,F,?_⟩
 rw [aL,hrd]
 exact ⟨_,_,_,F,hyes,hno⟩
theorem zR {n : Nat} {u : Value} {vs : List bU} {s : adE} {c e : UInt8} (hu : u.oneCell' = true) (hc : c = 110 ∨ c = 116 ∨ c = 102) (hr : aX (af vs) [c] = none) (hs : s.length ≤ 1999999) (hn : n ≤ 999) :
  bd adD 114 [Ag [u],S (e :: s),S [c],I (n + 1 : Nat)] G (cD (af vs) (rd (af vs) (n + 1) [c] (e :: s)) [c]):=by
 have hrd:=lH (ts:=af vs) (n:=n) (s:=e :: s) hc hr
 have hel : (e :: s).length = s.length + 1:=rfl
 have cx_pl : bd adD 154 [Ag [u],S (e :: s),S [c]] G (cD (af vs) (rd (af vs) (n + 1) [c] (e :: s)) [c]):=by
  rw [hrd]
  rcases hc with rfl | rfl | rfl
  ·rw [if_pos rfl];exact xT hu oM
  ·rw [if_neg dC,if_pos rfl];exact xS hu oM (by simp)
  ·rw [if_neg dC,if_neg dC];exact xU hu oM
 clear hrd
 rcases hc with rfl | rfl | rfl
 all_goals
  refine jB [(0,_),(1,_),(2,_),(3,_)] Tryz.func114 Tryz.ntmps114 fun B hok hB hW=>?_
  repeat' (first | refine jX ?_ | (refine jo ?_;first | refine jO fun _=>?_ | refine aw F ?_ | refine aQ F ?_ | (refine aF F F F cx_pl F ?_;rintro _ G hle ⟨q1,r1,ok1,rfl,hyes,hno⟩;skip)) | refine am F F F ?_ | refine ad F F ?_)
  refine jZ (vs:=[_,_,_]) F ⟨F,F,F,trivial⟩ F ⟨hle,F,?_⟩
  rw [aL]
  exact ⟨_,_,_,F,hyes,hno⟩
theorem gW {u : Value} {vs : List bU} (hw : SchW (af vs)) : ∀ n,n ≤ 1000 → kQ n u vs
 | 0,_=>fun G k s _ _ _=>uy (.inr rfl) oM
 | n + 1,hn=>fun G k s h hk hs=>by
  have hR:=gW (u:=u) (vs:=vs) hw n oM
  match s,hs with
  | [],_=>exact uy (.inl F) hn
  | e :: s,hs =>
   simp only [List.length_cons] at hs
   match k,hk with
   | [],hk=>cases hk
   | c :: k,hk =>
    by_cases h1 : c.toNat = 91
    ·obtain rfl:=bn h1 dC
     exact zU hR h hk oM oM
    by_cases h2 : c.toNat = 63
    ·obtain rfl:=bn h2 dC
     exact zS hR h hk oM oM
    have h91 : ¬ (c.toNat = 91 ∨ c.toNat = 63):=fun h=>by rcases h with h | h <;> omega
    cases hr : aX (af vs) (c :: k) with
    | some t=>exact zV hR h hw hk hr oM oM
    | none =>
     rcases dK hk h91 hr with e1 | e1 | e1
     all_goals
      simp only [List.cons.injEq] at e1
      obtain ⟨rfl,rfl⟩:=e1
      exact zR h.sl.one (by simp) hr oM oM
def my (n : Nat) (u : Value) (vs : List bU) : Prop:=∀ (G : Gh) (k s : adE),SchR G u vs → aB (af vs) k = true → s.length ≤ 1000 →
 bd adD 121 [Ag [u],S s,S k,I (n : Nat)] G (cD (af vs) (rb (af vs) n k s) k)
theorem wO {n : Nat} {u : Value} {ts : List Ty} {k s : adE} (hc : s = [] ∨ n = 0) (hn : n ≤ 1000) : bd adD 121 [Ag [u],S s,S k,I (n : Nat)] G (cD ts (rb ts n k s) k):=by
 have hno : rb ts n k s = none:=by
  rcases hc with rfl | rfl
  ·exact aaG
  ·rfl
 by_cases hs : s = []
 ·refine jB [(0,_),(1,_),(2,_),(3,_)] Tryz.func121 Tryz.ntmps121 fun B hok hB hW=>?_
  repeat' (first | refine jR ?_ | (refine jo ?_;first | refine jO fun _=>?_ | refine aK F ?_) | refine aA F F (aD ‹_›) ?_ | refine ab F F ?_)
  refine jZ (vs:=[_,_,_]) F ⟨F,F,F,trivial⟩ F ⟨Gh.le.refl _,F,?_⟩
  rw [aL]
  exact ⟨_,_,_,F,fun h=>(by (cases h;done)),fun _=>hno⟩
 ·have hn0 : n = 0:=by
   rcases hc with h | h
   ·exact absurd h hs
   ·exact h
  refine jB [(0,_),(1,_),(2,_),(3,_)] Tryz.func121 Tryz.ntmps121 fun B hok hB hW=>?_
  repeat' (first | refine jR ?_ | (refine jo ?_;first | refine jO fun _=>?_ | refine aw F ?_) | refine am F F (aE ‹_›) ?_ | refine ab F (aD oM) ?_)
  refine jZ (vs:=[_,_,_]) F ⟨F,F,F,trivial⟩ F ⟨Gh.le.refl _,F,?_⟩
  rw [aL]
  exact ⟨_,_,_,F,fun h=>(by (cases h;done)),fun _=>hno⟩
theorem abM {n : Nat} {u : Value} {ts : List Ty} {s : adE} (hu : u.oneCell' = true) (h0 : s ≠ []) (hs : s.length ≤ 1000) (hn : n ≤ 999) : bd adD 121 [Ag [u],S s,S [110],I (n + 1 : Nat)] G (cD ts ((bI s).map fun x=>(.nd 110 (a8 x.1) 0 [],x.2)) [110]):=by
 have cx_ng0:=hO (G:=G) (s:=s) oM
 cases hg : bI s with
 | none =>
  rw [hg] at cx_ng0
  have cx_ng : aG adD 106 [S s] G (· = Tu [I 0,S [],Bo false]):=cx_ng0
  clear cx_ng0
  refine jB [(0,_),(1,_),(2,_),(3,_)] Tryz.func121 Tryz.ntmps121 fun B hok hB hW=>?_
  repeat' (first | refine jX ?_ | (refine jo ?_;first | refine jO fun _=>?_ | refine aw F ?_ | refine jV (ao F F) ?_ | refine ac F F F cx_ng F ?_ | refine ac F F F (dp oM) F ?_) | refine am F F (aE ‹_›) ?_ | refine ab F F ?_ | refine ad F F ?_)
  all_goals refine jZ (vs:=[_,_,_]) F ⟨F,F,F,trivial⟩ F ⟨Gh.le.refl _,F,?_⟩
  all_goals (rw [aL];exact ⟨_,_,_,F,fun h=>(by cases h),fun _=>rfl⟩)
 | some z =>
  obtain ⟨m,r⟩:=z
  obtain ⟨h1,h2,_⟩:=di hg
  have hl:=ce hg
  rw [hg] at cx_ng0
  have cx_ng : aG adD 106 [S s] G (· = Tu [I m,S r,Bo true]):=cx_ng0
  clear cx_ng0
  have hdg:=(g0 m.toNat (Nat.le_refl _) h1).2
  refine jB [(0,_),(1,_),(2,_),(3,_)] Tryz.func121 Tryz.ntmps121 fun B hok hB hW=>?_
  repeat' (first | refine jX ?_ | (refine jo ?_;first | refine jO fun _=>?_ | refine aw F ?_ | refine jV (ao F F) ?_ | refine ac F F F cx_ng F ?_ | refine ac F F F (dp oM) F ?_) | refine am F F (aE ‹_›) ?_ | refine ab F F ?_ | refine ad F F ?_)
  all_goals
   rename_i xr y
   refine Nx.sealC (b:=y) fun G2 hG2 hsy=>?_
   refine jZ (vs:=[_,_,_]) F ⟨F,F,F,trivial⟩ F ⟨hG2,F,?_⟩
   rw [aL]
   exact ⟨_,_,_,F,fun _=>⟨_,y,F,F,.leaf 110 _ _ _ _ hsy (.inl ⟨F,F,F,hdg⟩)⟩,fun h=>(by cases h)⟩
theorem abP {n : Nat} {u : Value} {ts : List Ty} {s : adE} {e : UInt8} (hu : u.oneCell' = true) (hs : s.length ≤ 1000) (hn : n ≤ 999) : bd adD 121 [Ag [u],S (e :: s),S [102],I (n + 1 : Nat)] G (cD ts ((cI (e :: s)).map fun x=>(.nd 102 (if x.1 = true then [121,101,115] else [110,111]) 0 [],x.2)) [102]):=by
 have he0 : bt (e :: s) (Int.toNat 0) = e.toNat:=a6 e s
 have hel : (e :: s).length = s.length + 1:=rfl
 by_cases h1 : e.toNat = 1
 ·obtain rfl : e = 1:=bn h1 dC
  have he0 : bt (1 :: s) (Int.toNat 0) = 1:=a6 1 s
  rw [xn]
  refine jB [(0,_),(1,_),(2,_),(3,_)] Tryz.func121 Tryz.ntmps121 fun B hok hB hW=>?_
  repeat' (first | refine jX ?_ | (refine jo ?_;first | refine jO fun _=>?_ | refine aw F ?_) | refine am F F F ?_ | refine ab F F ?_ | refine ad F F ?_ | (refine ak (ar (id:=14) _ (fun _ h=>h) aj ?_);refine jW 8 [0,2,3,8,9] (aa 13 781) ?_;refine jA 1 F ?_;(refine jF fun _=>?_);refine jS (aa 13 783) ?_;(refine jG (aa 13 799) 4 F (aq F F oM) ?_);(refine jG (aa 13 831) 5 F (aC F F F) ?_);(refine jG (aa 13 895) 6 F (ao F F) ?_);refine jA 7 F ?_;(refine jO fun _=>?_);refine jS (aa 13 1023) ?_;refine jT 0 [10,11,12] (aa 13 8191) ?_;refine jQ ?_))
  all_goals
   rename_i y
   refine Nx.sealC (b:=y) fun G2 hG2 hsy=>?_
   refine jZ (vs:=[_,_,_]) F ⟨F,F,F,trivial⟩ F ⟨hG2,F,?_⟩
   rw [aL]
   exact ⟨_,_,_,F,fun _=>⟨.nd 102 [121,101,115] 0 [],y,F,F,.leaf 102 _ _ _ _ hsy (.inr (.inr ⟨F,F,F,.inl F⟩))⟩,fun h=>(by cases h)⟩
 ·by_cases h0 : e.toNat = 0
  ·obtain rfl : e = 0:=bn h0 dC
   have he0 : bt (0 :: s) (Int.toNat 0) = 0:=a6 0 s
   rw [xp]
   refine jB [(0,_),(1,_),(2,_),(3,_)] Tryz.func121 Tryz.ntmps121 fun B hok hB hW=>?_
   repeat' (first | refine jX ?_ | (refine jo ?_;first | refine jO fun _=>?_ | refine aw F ?_) | refine am F F F ?_ | refine ab F F ?_ | refine ad F F ?_ | (refine ak (ar (id:=14) _ (fun _ h=>h) aj ?_);refine jW 8 [0,2,3,8,9] (aa 13 781) ?_;refine jA 1 F ?_;(refine jF fun _=>?_);refine jS (aa 13 783) ?_;(refine jG (aa 13 799) 4 F (aq F F oM) ?_);(refine jG (aa 13 831) 5 F (aC F F F) ?_);(refine jG (aa 13 895) 6 F (ao F F) ?_);refine jA 7 F ?_;(refine jO fun _=>?_);refine jS (aa 13 1023) ?_;refine jT 0 [10,11,12] (aa 13 8191) ?_;refine jQ ?_))
   all_goals
    rename_i y
    refine Nx.sealC (b:=y) fun G2 hG2 hsy=>?_
    refine jZ (vs:=[_,_,_]) F ⟨F,F,F,trivial⟩ F ⟨hG2,F,?_⟩
    rw [aL]
    exact ⟨_,_,_,F,fun _=>⟨.nd 102 [110,111] 0 [],y,F,F,.leaf 102 _ _ _ _ hsy (.inr (.inr ⟨F,F,F,.inr F⟩))⟩,fun h=>(by cases h)⟩
  ·have e1 : cI (e :: s) = none:=q3 h0 h1
   rw [e1]
   have h2 : ¬ ((e.toNat : Nat) : Int) < 2:=oM
   refine jB [(0,_),(1,_),(2,_),(3,_)] Tryz.func121 Tryz.ntmps121 fun B hok hB hW=>?_
   repeat' (first | refine jX ?_ | (refine jo ?_;first | refine jO fun _=>?_ | refine aw F ?_) | refine am F F F ?_ | (refine ab F (by first | rfl | (refine decide_eq_true ?_;(omega))) ?_) | refine ad F F ?_)
   all_goals refine jZ (vs:=[_,_,_]) F ⟨F,F,F,trivial⟩ F ⟨Gh.le.refl _,F,?_⟩
   all_goals (rw [aL];exact ⟨_,_,_,F,fun h=>(by cases h),fun _=>rfl⟩)
theorem abJ {n : Nat} {u : Value} {ts : List Ty} {s : adE} (hu : u.oneCell' = true) (h0 : s ≠ []) (hs : s.length ≤ 1000) (hn : n ≤ 999) : bd adD 121 [Ag [u], S s, S [116], I (n + 1 : Nat)] G (cD ts (match cx s with
      | none=>none
      | some (p,r)=>if dc (39 :: (p ++ [39])) = true then some (.nd 116 p 0 [],r) else none) [116]):=by
  have cx_tk0:=o7 (G:=G) (s:=s) oM
  cases hg : cx s with
  | none =>
    rw [hg] at cx_tk0
    have cx_tk : aG adD 68 [S s] G (· = Tu [S [],S [],Bo false]):=cx_tk0
    clear cx_tk0
    refine jB [(0,_),(1,_),(2,_),(3,_)] Tryz.func121 Tryz.ntmps121 fun B hok hB hW=>?_
    repeat' (first | refine jX ?_ | (refine jo ?_;first | refine jO fun _=>?_ | refine aw F ?_ | refine jV (ao F F) ?_ | refine ac F F F cx_tk F ?_) | (refine am F F (by first | rfl | (refine decide_eq_false ?_;(assumption))) ?_) | refine ab F F ?_ | refine ad F F ?_)
    all_goals refine jZ (vs:=[_,_,_]) F ⟨F,F,F,trivial⟩ F ⟨Gh.le.refl _,F,?_⟩
    all_goals (rw [aL];exact ⟨_,_,_,F,fun h=>(by cases h),fun _=>rfl⟩)
  | some z =>
    obtain ⟨p,r⟩:=z
    have hl:=eB hg
    rw [hg] at cx_tk0
    have cx_tk : aG adD 68 [S s] G (· = Tu [S p,S r,Bo true]):=cx_tk0
    clear cx_tk0
    have htx : [39] ++ p ++ [39] = 39 :: (p ++ [39]):=by simp
    have cx_tx:=fF (G:=G) (s:=[39] ++ p ++ [39]) (by simp only [List.length_append,List.length_cons,List.length_nil];omega)
    dsimp only
    refine jB [(0,_),(1,_),(2,_),(3,_)] Tryz.func121 Tryz.ntmps121 fun B hok hB hW=>?_
    repeat' (first | refine jX ?_ | (refine jo ?_;first | refine jO fun _=>?_ | refine aK F ?_ | refine aw F ?_ | refine jV (ao F F) ?_ | refine ac F F F cx_tk F ?_ | (refine ac F F F (fF ?_) F ?_;(focus ((simp;omega);done)))) | refine aA F F F ?_ | refine am F F (aE ‹_›) ?_ | refine ab F F ?_ | refine ad F F ?_)
    all_goals
      rename_i y
      refine Nx.sealC (b:=y) fun G2 hG2 hsy=>?_
      refine jZ (vs:=[_,_,_]) F ⟨F,F,F,trivial⟩ F ⟨hG2,F,?_⟩
      rw [aL,htx]
      rw [htx] at hsy
      refine ⟨_,_,_,F,fun h=>?_,fun h=>?_⟩
      · exact ⟨_,y,F,by rw [if_pos h],.leaf 116 _ _ _ _ hsy (.inr (.inl ⟨F,F,F⟩))⟩
      · rw [if_neg (by rw [h];decide)]
theorem abL {n : Nat} {u : Value} {vs : List bU} {k s : adE} {e : UInt8} (hR : my n u vs) (h : SchR G u vs) (hk : aB (af vs) (63 :: k) = true) (hs : s.length ≤ 999) (hn : n ≤ 999) :
  bd adD 121 [Ag [u],S (e :: s),S (63 :: k),I (n + 1 : Nat)] G (cD (af vs) (rb (af vs) (n + 1) (63 :: k) (e :: s)) (63 :: k)):=by
 have edn : ((n + 1 : Nat) : Int) - 1 = (n : Nat):=oM
 have he0 : bt (e :: s) (Int.toNat 0) = e.toNat:=a6 e s
 have hel : (e :: s).length = s.length + 1:=rfl
 have hk0 : bt (63 :: k) (Int.toNat 0) = 63:=a6 63 k
 have hkl2 : (63 :: k).length = k.length + 1:=rfl
 rw [vZ]
 by_cases h1 : e.toNat = 1
 ·have e1 : cI (e :: s) = some (true,s):=by rw [cI,if_neg oM,if_pos h1]
  rw [e1]
  dsimp only
  have cx_gt:=hR G k s h (dy (.inr rfl) hk) oM
  rw [← edn] at cx_gt
  refine jB [(0,_),(1,_),(2,_),(3,_)] Tryz.func121 Tryz.ntmps121 fun B hok hB hW=>?_
  repeat' (first | refine jM ?_ | (refine jo ?_;first | refine jO fun _=>?_ | refine aw F ?_ | refine jV (ao F F) ?_ | refine jF fun _=>?_) | refine am F F F ?_ | refine ab F F ?_ | (refine ad F (by first | rfl | (refine decide_eq_false ?_;(omega))) ?_) | (refine ak (ar (id:=25) _ (fun _ h=>h) aj ?_);refine jW 9 [1,2,3,4,5,6] (aa 15 126) ?_;(refine jG (aa 15 127) 0 F (bz F F F F) ?_);refine jA 7 F ?_;(refine aF F F F cx_gt F ?_;rintro _ G hle ⟨q1,r1,ok1,rfl,hyes,hno⟩;skip);refine jS (aa 15 255) ?_;refine jT 0 [8,9,10,11,12,13,14] (aa 15 32767) ?_;refine jQ ?_))
  all_goals
   rename_i y1 y8
   refine Nx.sealC (b:=y1) fun G2 hG2 hs1=>?_
   refine Nx.sealC (b:=y8) fun G3 hG3 hsg=>?_
   refine jZ (vs:=[_,_,_]) F ⟨F,F,F,trivial⟩ F ⟨((hle.trans hG2).trans hG3),F,?_⟩
   rw [aL]
   refine ⟨_,_,_,F,fun hb=>?_,fun hb=>by rw [hno hb];rfl⟩
   obtain ⟨w,wb,rfl,hf,hrep⟩:=hyes hb
   exact ⟨.nd 63 [] 0 [w],y8,F,by rw [hf];rfl,.opt k y8 y1 wb 1 w (Nat.le_refl _) hsg (hs1.mono hG3) (hrep.mono (hG2.trans hG3))⟩
 ·by_cases h0 : e.toNat = 0
  ·have e1 : cI (e :: s) = some (false,s):=by rw [cI,if_pos h0]
   rw [e1]
   refine jB [(0,_),(1,_),(2,_),(3,_)] Tryz.func121 Tryz.ntmps121 fun B hok hB hW=>?_
   repeat' (first | refine jM ?_ | (refine jo ?_;first | refine jO fun _=>?_ | refine aw F ?_) | refine am F F F ?_ | (refine ab F (by first | rfl | (refine decide_eq_true ?_;(omega))) ?_) | refine ad F F ?_ | (refine ak (ar (id:=22) _ (fun _ h=>h) aj ?_);refine jW 5 [0,3,4] (aa 8 25) ?_;(refine jG (aa 8 27) 1 F (ao F F) ?_);refine jA 2 F ?_;(refine jO fun _=>?_);refine jS (aa 8 31) ?_;refine jT 0 [5,6,7] (aa 8 255) ?_;refine jQ ?_))
   all_goals
    rename_i y
    refine Nx.sealC (b:=y) fun G2 hG2 hsy=>?_
    refine jZ (vs:=[_,_,_]) F ⟨F,F,F,trivial⟩ F ⟨hG2,F,?_⟩
    rw [aL]
    exact ⟨_,_,_,F,fun _=>⟨_,y,F,F,.non k y hsy⟩,fun h=>(by cases h)⟩
  ·rw [q3 h0 h1]
   refine jB [(0,_),(1,_),(2,_),(3,_)] Tryz.func121 Tryz.ntmps121 fun B hok hB hW=>?_
   repeat' (first | refine jM ?_ | (refine jo ?_;first | refine jO fun _=>?_ | refine aw F ?_) | refine am F F F ?_ | (refine ab F (by first | rfl | (refine decide_eq_true ?_;(omega))) ?_) | (refine ad F (by first | rfl | (refine decide_eq_false ?_;(omega))) ?_))
   all_goals refine jZ (vs:=[_,_,_]) F ⟨F,F,F,trivial⟩ F ⟨Gh.le.refl _,F,?_⟩
   all_goals (rw [aL];exact ⟨_,_,_,F,fun h=>(by cases h),fun _=>rfl⟩)
theorem kI {t : Ty} (hw : TyW t) : bB t.fields 0 = none:=by
 cases h : bB t.fields 0 with
 | none=>rfl
 | some d =>
  obtain ⟨j,hj,_,hjt,_⟩:=eE h
  have:=(hw.fld _ (bh hj)).tag
  omega
theorem uk {ts : List Ty} {k : adE} {v : Value} {G' : Gh} (h : cD ts none k v G') : ∃ q1 r1,v = Tu [.pointer q1,S r1,Bo false]:=by
 obtain ⟨q,r,ok,rfl,h1,h2⟩:=h
 cases ok with
 | false=>exact ⟨q,r,F⟩
 | true=>obtain ⟨w,b,_,h3,_⟩:=h1 rfl;cases h3
theorem qz {ts : List Ty} {k r : adE} {x : V} {v : Value} {G' : Gh} (h : cD ts (some (x,r)) k v G') : ∃ wb,v = Tu [Pt wb 0,S r,Bo true] ∧ RepR G' ts x k wb:=by
 obtain ⟨q,r,ok,rfl,h1,h2⟩:=h
 cases ok with
 | false=>cases h2 rfl
 | true =>
  obtain ⟨w,b,rfl,h3,h4⟩:=h1 rfl
  cases h3
  exact ⟨b,F,h4⟩
theorem gp {ts : List Ty} {k : adE} {q : Option Addr} {r : adE} {G' : Gh} {f : Option (V × adE)} (h : f = none) : cD ts f k (Tu [.pointer q,S r,Bo false]) G':=⟨_,_,_,rfl,fun h=>(by cases h),fun _=>h⟩
theorem pQ {ts : List Ty} {k : adE} {b : Nat} {r : adE} {G' : Gh} {f : Option (V × adE)} {w : V} (h : f = some (w,r)) (hr : RepR G' ts w k b) : cD ts f k (Tu [Pt b 0,S r,Bo true]) G':=⟨_,_,_,rfl,fun _=>⟨w,b,rfl,h,hr⟩,fun h=>(by cases h)⟩
theorem o4 {n : Nat} {u : Value} {vs : List bU} {k s : adE} (hR : my n u vs) (h : SchR G u vs) (hk : aB (af vs) k = true) (hs : s.length ≤ 1000) (hn : n ≤ 1000) (hf : cU (rb (af vs) n) k s = none) :
  bd adD 84 [Ag [u],S s,S k,I (n : Nat)] G (fun v _=>∃ q,v = Tu [.pointer q,Bo false]):=by
 have hkk:=cm (cE hk)
 have hop:=hR G k s h hk hs
 cases hg : rb (af vs) n k s with
 | none =>
  rw [hg] at hop
  have cx_gt0 : bd adD 121 [Ag [u],S s,S k,I (n : Nat)] G (fun v _=>∃ q1 r1,v = Tu [.pointer q1,S r1,Bo false]):=hop.mono fun v G' L' h=>⟨h.1,h.2.1,uk h.2.2⟩
  clear hop
  refine jB [(0,_),(1,_),(2,_),(3,_)] Tryz.func84 Tryz.ntmps84 fun B hok hB hW=>?_
  repeat' (first | refine jR ?_ | (refine jo ?_;first | refine jO fun _=>?_ | refine aQ F ?_ | refine aw F ?_ | (refine aF F F F cx_gt0 F ?_;rintro _ G hle ⟨q1,r1,rfl⟩;skip)) | refine am F F F ?_)
  all_goals refine jZ (vs:=[_,_]) F ⟨F,F,trivial⟩ F ⟨hle,F,?_⟩
  all_goals exact ⟨_,F⟩
 | some x =>
  obtain ⟨w,r⟩:=x
  rw [hg] at hop
  have cx_gt1 : bd adD 121 [Ag [u],S s,S k,I (n : Nat)] G (fun v G'=>∃ wb,v = Tu [Pt wb 0,S r,Bo true] ∧ RepR G' (af vs) w k wb):=hop.mono fun v G' L' h=>⟨h.1,h.2.1,qz h.2.2⟩
  clear hop
  cases r with
  | nil=>rw [gK hg] at hf;cases hf
  | cons e r =>
   refine jB [(0,_),(1,_),(2,_),(3,_)] Tryz.func84 Tryz.ntmps84 fun B hok hB hW=>?_
   repeat' (first | refine jR ?_ | (refine jo ?_;first | refine jO fun _=>?_ | refine aQ F ?_ | refine aK F ?_ | (refine aF F F F cx_gt1 F ?_;rintro _ G hle ⟨wb,rfl,hrep⟩;skip)) | refine aA F F F ?_)
   all_goals refine jZ (vs:=[_,_]) F ⟨F,F,trivial⟩ F ⟨hle,F,?_⟩
   all_goals exact ⟨_,F⟩
theorem md {n : Nat} {u : Value} {vs : List bU} {k s : adE} {w : V} (hR : my n u vs) (h : SchR G u vs) (hk : aB (af vs) k = true) (hs : s.length ≤ 1000) (hn : n ≤ 1000) (hf : cU (rb (af vs) n) k s = some w) :
  bd adD 84 [Ag [u],S s,S k,I (n : Nat)] G (fun v G'=>∃ wb,v = Tu [Pt wb 0,Bo true] ∧ RepR G' (af vs) w k wb):=by
 have hop:=hR G k s h hk hs
 rw [cS hf] at hop
 have cx_gt1 : bd adD 121 [Ag [u],S s,S k,I (n : Nat)] G (fun v G'=>∃ wb,v = Tu [Pt wb 0,S [],Bo true] ∧ RepR G' (af vs) w k wb):=hop.mono fun v G' L' h=>⟨h.1,h.2.1,qz h.2.2⟩
 clear hop
 refine jB [(0,_),(1,_),(2,_),(3,_)] Tryz.func84 Tryz.ntmps84 fun B hok hB hW=>?_
 repeat' (first | refine jR ?_ | (refine jo ?_;first | refine jO fun _=>?_ | refine aQ F ?_ | refine aK F ?_ | (refine aF F F F cx_gt1 F ?_;rintro _ G hle ⟨wb,rfl,hrep⟩;skip)) | refine aA F F F ?_)
 all_goals refine jZ (vs:=[_,_]) F ⟨F,F,trivial⟩ F ⟨hle,F,?_⟩
 all_goals exact ⟨_,F,hrep⟩
abbrev vR : TypeId:=60
abbrev adl : TypeId:=114
theorem zQ {n : Nat} {u : Value} {vs : List bU} {k s : adE} {m : Nat} (hR : my n u vs) (h : SchR G u vs) (hk : aB (af vs) (91 :: k) = true) (hs : s.length ≤ 1000) (hn : n ≤ 999) (hm : m ≤ 999999) :
  bd adD 158 [Ag [u],S s,S (91 :: k),I (m : Nat),I (n + 1 : Nat)] G (cD (af vs) (if m ≤ 20 then (bO (rb (af vs) n k) m s []).map fun x=>(.nd 91 [] 0 x.1,x.2) else none) (91 :: k)):=by
 have edn : ((n + 1 : Nat) : Int) - 1 = (n : Nat):=oM
 have hki:=dy (.inl rfl) hk
 have hkk:=cm (cE hk)
 have hkl:=hkk.2
 simp only [List.length_cons] at hkl
 have hkl2 : (91 :: k).length = k.length + 1:=rfl
 by_cases h20 : m ≤ 20
 case neg =>
  rw [if_neg h20]
  refine jB [(0,_),(1,_),(2,_),(3,_),(4,_)] Tryz.func158 Tryz.ntmps158 fun B hok hB hW=>?_
  repeat' (first | refine jR ?_ | (refine jo ?_;first | refine jO fun _=>?_ | refine jV (ao F F) ?_) | refine ab F (aD oM) ?_)
  all_goals refine jZ (vs:=[_,_,_]) F ⟨F,F,F,trivial⟩ F ⟨Gh.le.refl _,F,?_⟩
  all_goals exact gp F
 rw [if_pos h20]
 refine jB [(0,_),(1,_),(2,_),(3,_),(4,_)] Tryz.func158 Tryz.ntmps158 fun B hok hB hW=>?_
 repeat' (first | refine jR ?_ | (refine jo ?_;first | refine jO fun _=>?_ | refine jV (ao F F) ?_) | refine ad F (aE oM) ?_)
 rename_i xr y
 refine Nx.addNil vR 1 ?_
 refine aU (ι:=List V × List Nat × Option Addr × Nat × adE × Gh) (fun q=>((q.2.1.length = q.1.length ∧ ∀ i,i < q.1.length → RepR q.2.2.2.2.2 (af vs) (ae q.1 i) k (ae q.2.1 i)) ∧ Gh.le G q.2.2.2.2.2) ∧ (bO (rb (af vs) n k) m s [] = bO (rb (af vs) n k) (m - q.1.length) q.2.2.2.2.1 q.1 ∧ q.1.length ≤ m) ∧ q.2.2.2.2.1.length ≤ s.length) (fun q=>[(1,S q.2.2.2.2.1),(2,S (91 :: k)),(3,I (m : Nat)),(4,I (n + 1 : Nat)),(5,Pt xr 0),(13,Pt y 0),(14,I (q.1.length : Nat))]) (fun q=>q.2.2.2.2.2) (fun q=>[.acc (.slice q.2.2.1 q.1.length q.2.2.2.1) vR 1 q.1.length (ax eR q.2.1),.blk y (.cells (List.toArray [S (91 :: k),S [],aN,.slice q.2.2.1 q.1.length q.2.2.2.1]) qT (0,0)),.blk xr (.cells (List.toArray [u]) adl (0,0))]) (fun q=>m - q.1.length) ([],[],none,0,s,G) ?_ tU F aZ (fun q Hq=>?_)
 ·exact ⟨⟨⟨F,fun i hi=>absurd hi (by simp)⟩,Gh.le.refl _⟩,⟨F,Nat.zero_le _⟩,Nat.le_refl _⟩
 obtain ⟨ws,bs,a,cap,t,Gq⟩:=q
 dsimp only at Hq ⊢
 obtain ⟨⟨⟨hbl,hreps⟩,hgq⟩,⟨hit,hwm⟩,htl⟩:=Hq
 by_cases hi : ws.length < m
 case neg =>
  have e0 : m - ws.length = 0:=oM
  rw [e0,bO] at hit
  repeat' (first | refine jR ?_ | refine ad F (aE oM) ?_)
  all_goals
   refine Nx.sealS (v:=.slice a ws.length cap) fun G2 hG2 hsl=>?_
   refine Nx.sealC (b:=y) fun G3 hG3 hsg=>?_
   refine jZ (vs:=[_,_,_]) F ⟨F,F,F,trivial⟩ F ⟨((hgq.trans hG2).trans hG3),F,?_⟩
   exact pQ (by rw [hit];rfl) (.lst k y ws bs a cap hsg (hsl.mono hG3) hbl (fun i hi=>(hreps i hi).mono (hG2.trans hG3)))
 obtain ⟨m',hm'⟩ : ∃ m',m - ws.length = m' + 1:=⟨m - ws.length - 1,oM⟩
 rw [hm'] at hit
 have hop:=hR Gq k t (h.mono hgq) hki oM
 rw [← edn] at hop
 cases hf : rb (af vs) n k t with
 | none =>
  rw [hf] at hop
  have cx_gt0 : bd adD 121 [Ag [u],S t,S k,I (((n + 1 : Nat) : Int) - 1)] Gq (fun v _=>∃ q1 r1,v = Tu [.pointer q1,S r1,Bo false]):=hop.mono fun v G' L' h=>⟨h.1,h.2.1,uk h.2.2⟩
  clear hop
  have hno2:=pz (m:=m') (acc:=ws) hf
  repeat' (first | refine jR ?_ | (refine ab F (by first | rfl | (refine decide_eq_true ?_;(omega))) ?_) | (refine ak (ar (id:=7) _ (fun _ h=>h) aj ?_);refine jW 9 [1,2,3,4,5] (aa 14 62) ?_;(refine jG (aa 14 63) 0 F (bz F F F F) ?_);refine jA 6 F ?_;(refine aF F F F cx_gt0 F ?_;rintro _ G hle ⟨q1,r1,rfl⟩;skip);refine jS (aa 14 127) ?_;refine jT 0 [7,8,9,10,11,12,13] (aa 14 16383) ?_;refine jQ ?_))
  all_goals refine jZ (vs:=[_,_,_]) F ⟨F,F,F,trivial⟩ F ⟨(hgq.trans hle),F,?_⟩
  all_goals exact gp (by rw [hit,hno2];rfl)
 | some z =>
  obtain ⟨w,r'⟩:=z
  rw [hf] at hop
  have cx_gt1 : bd adD 121 [Ag [u],S t,S k,I (((n + 1 : Nat) : Int) - 1)] Gq (fun v G'=>∃ wb,v = Tu [Pt wb 0,S r',Bo true] ∧ RepR G' (af vs) w k wb):=hop.mono fun v G' L' h=>⟨h.1,h.2.1,qz h.2.2⟩
  clear hop
  have hsh:=px _ _ _ _ _ hf
  have hstep:=mZ (m:=m') (acc:=ws) hf
  have hwl1 : (ws ++ [w]).length = ws.length + 1:=by simp
  have hm2 : m - (ws ++ [w]).length = m':=by rw [hwl1];omega
  repeat' (first | refine jM ?_ | (refine jo ?_;first | refine al F ?_ | refine jF fun _=>?_ | refine ci F F F F F F F F F oM fun _ _=>?_ | refine jD F F F ?_) | refine ab F (aD oM) ?_ | refine ad F F ?_ | (refine ak (ar (id:=7) _ (fun _ h=>h) aj ?_);refine jW 9 [1,2,3,4,5] (aa 14 62) ?_;(refine jG (aa 14 63) 0 F (bz F F F F) ?_);refine jA 6 F ?_;(refine aF F F F cx_gt1 F ?_;rintro _ G hle ⟨wb,rfl,hrep⟩;skip);refine jS (aa 14 127) ?_;refine jT 0 [7,8,9,10,11,12,13] (aa 14 16383) ?_;refine jQ ?_))
  have hgl:=hgq.trans hle
  have hrow : ax eR bs ++ [Pt wb 0] = ax eR (bs ++ [wb]):=(b5 eR bs wb).symm
  have hbl1 : (bs ++ [wb]).length = (ws ++ [w]).length:=by simp [hbl]
  have hrp : ∀ i,i < (ws ++ [w]).length → RepR G (af vs) (ae (ws ++ [w]) i) k (ae (bs ++ [wb]) i):=fun i hi=>by
   by_cases h1 : i < ws.length
   ·have e1 : ae (ws ++ [w]) i = ae ws i:=by rw [aI hi,aI h1,List.getElem_append_left h1]
    have e2 : ae (bs ++ [wb]) i = ae bs i:=by rw [aI oM,aI oM,List.getElem_append_left oM]
    rw [e1,e2];exact (hreps i h1).mono hle
   ·have h2 : i = ws.length:=oM
    have e1 : ae (ws ++ [w]) i = w:=by rw [aI hi];simp [h2]
    have e2 : ae (bs ++ [wb]) i = wb:=by rw [aI oM];simp [h2,hbl]
    rw [e1,e2];exact hrep
  rename_i y0 y1 yc
  rw [hrow]
  refine Nx.re (d:=14) (v':=I ((ws ++ [w]).length : Nat)) F (congrArg (Value.int .i64) (by rw [hwl1];omega)) ?_
  exact a7 (ws ++ [w],bs ++ [wb],some ⟨y1,0,none⟩,yc,r',G) ⟨⟨⟨hbl1,hrp⟩,hgl⟩,⟨(by dsimp only;rw [hit,hstep,hm2]),(by dsimp only;omega)⟩,(by dsimp only;omega)⟩ (by dsimp only;omega) tU rfl (by rw [hwl1];repeat (first | exact List.Sublist.refl _ | apply List.Sublist.cons_cons | apply List.Sublist.cons))
theorem abN {n : Nat} {u : Value} {vs : List bU} {k s : adE} {e : UInt8} (hR : my n u vs) (h : SchR G u vs) (hk : aB (af vs) (91 :: k) = true) (hs : s.length ≤ 999) (hn : n ≤ 999) (hkl : k.length ≤ 1000) :
  bd adD 121 [Ag [u],S (e :: s),S (91 :: k),I (n + 1 : Nat)] G (cD (af vs) (rb (af vs) (n + 1) (91 :: k) (e :: s)) (91 :: k)):=by
 have hel : (e :: s).length = s.length + 1:=rfl
 have hk0 : bt (91 :: k) (Int.toNat 0) = 91:=a6 91 k
 have hkl2 : (91 :: k).length = k.length + 1:=rfl
 rw [v3]
 have cx_ng0:=hO (G:=G) (s:=e :: s) oM
 cases hg : bI (e :: s) with
 | none =>
  rw [hg] at cx_ng0
  have cx_ng : aG adD 106 [S (e :: s)] G (· = Tu [I 0,S [],Bo false]):=cx_ng0
  refine jB [(0,_),(1,_),(2,_),(3,_)] Tryz.func121 Tryz.ntmps121 fun B hok hB hW=>?_
  repeat' (first | refine jM ?_ | (refine jo ?_;first | refine jO fun _=>?_ | refine aw F ?_ | refine ac F F F cx_ng F ?_) | refine am F F F ?_ | refine ab F F ?_ | refine ad F F ?_)
  all_goals refine jZ (vs:=[_,_,_]) F ⟨F,F,F,trivial⟩ F ⟨Gh.le.refl _,F,?_⟩
  all_goals exact gp F
 | some z =>
  obtain ⟨m0,r⟩:=z
  obtain ⟨h0,h1,_⟩:=di hg
  have hl:=ce hg
  rw [hg] at cx_ng0
  obtain ⟨m,rfl⟩ : ∃ m : Nat,m0 = (m : Int):=⟨m0.toNat,oM⟩
  have cx_ng : aG adD 106 [S (e :: s)] G (· = Tu [I (m : Nat),S r,Bo true]):=cx_ng0
  clear cx_ng0
  have cx_som:=zQ (G:=G) (m:=m) (s:=r) hR h hk oM hn oM
  have hres : (if (m : Int) ≤ 20 then (bO (rb (af vs) n k) (m : Int).toNat r []).map (fun x=>(V.nd 91 [] 0 x.1,x.2)) else none) = if m ≤ 20 then (bO (rb (af vs) n k) m r []).map (fun x=>(V.nd 91 [] 0 x.1,x.2)) else none:=by
   rw [Int.toNat_natCast]
   by_cases h20 : m ≤ 20
   ·rw [if_pos h20,if_pos oM]
   ·rw [if_neg h20,if_neg oM]
  dsimp only
  rw [hres]
  generalize (if m ≤ 20 then (bO (rb (af vs) n k) m r []).map (fun x=>(V.nd 91 [] 0 x.1,x.2)) else none) = o at cx_som ⊢
  refine jB [(0,_),(1,_),(2,_),(3,_)] Tryz.func121 Tryz.ntmps121 fun B hok hB hW=>?_
  repeat' (first | refine jM ?_ | (refine jo ?_;first | refine jO fun _=>?_ | refine aw F ?_ | refine aQ F ?_ | refine ac F F F cx_ng F ?_ | (refine aF F F F cx_som F ?_;rintro _ G hle ⟨q1,r1,ok1,rfl,hyes,hno⟩;skip)) | refine am F F F ?_ | refine ab F F ?_ | refine ad F F ?_)
  all_goals refine jZ (vs:=[_,_,_]) F ⟨F,F,F,trivial⟩ F ⟨hle,F,?_⟩
  all_goals (rw [aL];exact ⟨_,_,_,F,hyes,hno⟩)
abbrev vT : TypeId:=3
abbrev vS : TypeId:=60
abbrev ab5 : TypeId:=114
abbrev ab4 : TypeId:=146
def pJ (gs : List (Fld × V)) : List V:=gs.map aV
theorem wR {n : Nat} {u : Value} {vs : List bU} {a : Option Addr} {ca : Nat} {nm : adE} {fs : List Fld} {k s : adE} (hR : my n u vs) (h : SchR G u vs) (hw : SchW (af vs)) (hr : d8 vs (64 :: k) = some ((a,ca),⟨82,nm,fs⟩)) (hk : d9 (64 :: k) = true) (hkl : k.length ≤ 999) (hs : s.length ≤ 1000) (hn : n ≤ 999) :
  bd adD 194 [Ag [u],S s,S (64 :: k),Ag [U8 (82 : Nat),S nm,.slice a fs.length ca],I (n + 1 : Nat)] G (cD (af vs) ((bS (af vs) (rb (af vs) n) ⟨82,nm,fs⟩ (s.length + 1) 0 s []).map fun x=>(.nd 82 [] 0 x.1,x.2)) (64 :: k)):=by
 have edn : ((n + 1 : Nat) : Int) - 1 = (n : Nat):=oM
 have hkl2 : (64 :: k).length = k.length + 1:=rfl
 have hvl : vs.length ≤ 8:=by have:=hw.len;unfold af at this;simpa using this
 have href:=dX vs (64 :: k)
 rw [hr] at href
 have hxm:=eI hr
 have hxt : (⟨82,nm,fs⟩ : Ty) ∈ af vs:=List.mem_map_of_mem hxm
 have hTW:=hw.ty _ hxt
 have hfl:=hTW.len
 dsimp only at hfl
 refine jB [(0,_),(1,_),(2,_),(3,_),(4,_)] Tryz.func194 Tryz.ntmps194 fun B hok hB hW=>?_
 repeat' (first | refine jR ?_ | (refine jo ?_;first | refine jO fun _=>?_ | refine jV (ao F F) ?_))
 rename_i xr xt y
 refine Nx.addNil vT 1 (Nx.addNil vS 1 ?_)
 refine aU (ι:=List (Fld × V) × List Nat × Option Addr × Nat × Option Addr × Nat × adE × Nat × Int × Gh) (fun q=>((q.2.1.length = q.1.length ∧ (∀ i,i < q.1.length → (ae q.1 i).1 ∈ fs) ∧ ∀ i,i < q.1.length → RepR q.2.2.2.2.2.2.2.2.2 (af vs) (ae q.1 i).2 (ae q.1 i).1.kind (ae q.2.1 i)) ∧ Gh.le G q.2.2.2.2.2.2.2.2.2) ∧ (bS (af vs) (rb (af vs) n) ⟨82,nm,fs⟩ (s.length + 1) 0 s [] = bS (af vs) (rb (af vs) n) ⟨82,nm,fs⟩ q.2.2.2.2.2.2.2.1 q.2.2.2.2.2.2.2.2.1 q.2.2.2.2.2.2.1 (pJ q.1) ∧ q.2.2.2.2.2.2.1.length < q.2.2.2.2.2.2.2.1) ∧ q.1.length + q.2.2.2.2.2.2.1.length ≤ s.length ∧ (0 ≤ q.2.2.2.2.2.2.2.2.1 ∧ q.2.2.2.2.2.2.2.2.1 ≤ 999999)) (fun q=>[(1,S q.2.2.2.2.2.2.1),(2,S (64 :: k)),(4,I (n + 1 : Nat)),(5,Pt xr 0),(8,Pt xt 0),(13,Pt y 0),(14,I q.2.2.2.2.2.2.2.2.1)]) (fun q=>q.2.2.2.2.2.2.2.2.2) (fun q=>[.acc (.slice q.2.2.2.2.1 q.1.length q.2.2.2.2.2.1) vS 1 q.1.length (ax eR q.2.1),.acc (.slice q.2.2.1 q.1.length q.2.2.2.1) vT 1 q.1.length (ax eb (q.1.map fun p=>p.1.tag)),.blk y (.cells (List.toArray [S (64 :: k),S [82],.slice q.2.2.1 q.1.length q.2.2.2.1,.slice q.2.2.2.2.1 q.1.length q.2.2.2.2.2.1]) qT (0,0)),.blk xt (.cells (List.toArray [U8 (82 : Nat),S nm,.slice a fs.length ca]) ab4 (0,0)),.blk xr (.cells (List.toArray [u]) ab5 (0,0))]) (fun q=>q.2.2.2.2.2.2.1.length) ([],[],none,0,none,0,s,s.length + 1,0,G) ?_ tU F aZ (fun q Hq=>?_)
 ·exact ⟨⟨⟨F,fun i hi=>absurd hi (by simp),fun i hi=>absurd hi (by simp)⟩,Gh.le.refl _⟩,⟨F,Nat.lt_succ_self _⟩,by simp,Int.le_refl 0,by show (0 : Int) ≤ 999999;omega⟩
 obtain ⟨gs,bs,a1,c1,a2,c2,t,m,la,Gq⟩:=q
 dsimp only at Hq ⊢
 obtain ⟨⟨⟨hbl,hfm,hreps⟩,hgq⟩,⟨hit,htm⟩,hwt,hla0,hla1⟩:=Hq
 obtain ⟨m,rfl⟩ : ∃ m',m = m' + 1:=⟨m - 1,oM⟩
 have cx_ng0:=hO (G:=Gq) (s:=t) oM
 cases hg : bI t with
 | none =>
  rw [hg] at cx_ng0
  have cx_ng : aG adD 106 [S t] Gq (· = Tu [I 0,S [],Bo false]):=cx_ng0
  clear cx_ng0
  rw [pE hg] at hit
  repeat' (first | refine jR ?_ | (refine jo ?_;refine ac F F F cx_ng F ?_) | refine ab F F ?_)
  all_goals refine jZ (vs:=[_,_,_]) F ⟨F,F,F,trivial⟩ F ⟨hgq,F,?_⟩
  all_goals exact gp (by rw [hit];rfl)
 | some z =>
  obtain ⟨tg,r⟩:=z
  obtain ⟨h0,h1,_⟩:=di hg
  have hl:=ce hg
  rw [hg] at cx_ng0
  have cx_ng : aG adD 106 [S t] Gq (· = Tu [I tg,S r,Bo true]):=cx_ng0
  clear cx_ng0
  by_cases htz : tg = 0
  ·subst htz
   rw [r6 hg] at hit
   repeat' (first | refine jR ?_ | (refine jo ?_;refine ac F F F cx_ng F ?_) | refine ab F F ?_ | refine ad F F ?_)
   all_goals
    refine Nx.sealS (v:=.slice a1 gs.length c1) fun G2 hG2 hs1=>?_
    refine Nx.sealS (v:=.slice a2 gs.length c2) fun G3 hG3 hs2=>?_
    refine Nx.sealC (b:=y) fun G4 hG4 hsg=>?_
    refine jZ (vs:=[_,_,_]) F ⟨F,F,F,trivial⟩ F ⟨(((hgq.trans hG2).trans hG3).trans hG4),F,?_⟩
    exact pQ (by rw [hit];rfl) (.recd (64 :: k) y ⟨82,nm,fs⟩ gs bs a1 a2 c1 c2 ⟨href.symm,rfl⟩ hsg ((hs1.mono hG3).mono hG4) (hs2.mono hG4) hbl hfm (fun i hi=>(hreps i hi).mono ((hG2.trans hG3).trans hG4)))
  have cx_tk0:=o7 (G:=Gq) (s:=r) oM
  cases ht : cx r with
  | none =>
   rw [ht] at cx_tk0
   have cx_tk : aG adD 68 [S r] Gq (· = Tu [S [],S [],Bo false]):=cx_tk0
   clear cx_tk0
   rw [lN hg htz ht] at hit
   repeat' (first | refine jR ?_ | (refine jo ?_;first | refine aK F ?_ | refine ac F F F cx_ng F ?_ | refine ac F F F cx_tk F ?_) | refine aA F F F ?_ | refine ab F F ?_ | (refine ad F (by first | rfl | (refine decide_eq_false ?_;(assumption))) ?_))
   all_goals refine jZ (vs:=[_,_,_]) F ⟨F,F,F,trivial⟩ F ⟨hgq,F,?_⟩
   all_goals exact gp (by rw [hit];rfl)
  | some z =>
   obtain ⟨p,r'⟩:=z
   have hl2:=eB ht
   rw [ht] at cx_tk0
   have cx_tk : aG adD 68 [S r] Gq (· = Tu [S p,S r',Bo true]):=cx_tk0
   clear cx_tk0
   by_cases hlast : tg ≤ la
   ·rw [pD hg htz ht hlast] at hit
    repeat' (first | refine jR ?_ | (refine jo ?_;first | refine aw F ?_ | refine ac F F F cx_ng F ?_ | refine ac F F F cx_tk F ?_) | refine am F F F ?_ | refine ab F (aD ‹_›) ?_ | (refine ad F (by first | rfl | (refine decide_eq_false ?_;(assumption))) ?_))
    all_goals refine jZ (vs:=[_,_,_]) F ⟨F,F,F,trivial⟩ F ⟨hgq,F,?_⟩
    all_goals exact gp (by rw [hit];rfl)
   have cx_f0:=gS (G:=Gq) (x:=((a,ca),⟨82,nm,fs⟩)) (tag:=tg) ((h.mono hgq).fl _ hxm) (by dsimp only;omega)
   cases hd : bB fs tg with
   | none =>
    rw [hd] at cx_f0
    have cx_fld : aG adD 161 [Ag [U8 (82 : Nat),S nm,.slice a fs.length ca],I tg] Gq (· = Tu [Ag [I 0,S [],S [],S []],Bo false]):=cx_f0
    clear cx_f0
    rw [n9 hg htz ht hlast hd] at hit
    repeat' (first | refine jR ?_ | (refine jo ?_;first | refine aw F ?_ | refine aQ F ?_ | refine jL fun _=>?_ | refine jC F F F ?_ | refine ac F F F cx_ng F ?_ | refine ac F F F cx_tk F ?_ | refine ac F F F cx_fld F ?_) | refine am F F F ?_ | refine ab F F ?_ | (refine ad F (by first | rfl | (refine decide_eq_false ?_;(assumption))) ?_))
    all_goals exact a7 (gs,bs,a1,c1,a2,c2,r',m,tg,Gq) ⟨⟨⟨hbl,hfm,hreps⟩,hgq⟩,⟨hit,by dsimp only;omega⟩,by dsimp only;omega,h0,h1⟩ (by dsimp only;omega) tU rfl sB
   | some d =>
    rw [hd] at cx_f0
    have cx_fld : aG adD 161 [Ag [U8 (82 : Nat),S nm,.slice a fs.length ca],I tg] Gq (· = Tu [Ag [I d.tag,S d.name,S d.kind,S d.stand],Bo true]):=cx_f0
    clear cx_f0
    have hdm : d ∈ fs:=List.mem_of_find?_eq_some hd
    have hdt : d.tag = tg:=(i4 hd).1
    have hdk : aB (af vs) d.kind = true:=dk hw hxt (by dsimp only;omega) hdm
    cases hf : cU (rb (af vs) n) d.kind p with
    | none =>
     have cx_wh0:=o4 (G:=Gq) hR (h.mono hgq) hdk oM oM hf
     rw [← edn] at cx_wh0
     rw [pC hg htz ht hlast hd hf] at hit
     repeat' (first | refine jM ?_ | (refine jo ?_;first | refine aw F ?_ | refine al F ?_ | refine aQ F ?_ | refine jL fun _=>?_ | refine jC F F F ?_ | refine ac F F F cx_ng F ?_ | refine ac F F F cx_tk F ?_ | refine ac F F F cx_fld F ?_ | (refine aF F F F cx_wh0 F ?_;rintro _ G hle ⟨q1,rfl⟩;skip)) | refine am F F F ?_ | refine ab F F ?_ | (refine ad F (by first | rfl | (refine decide_eq_false ?_;(assumption))) ?_))
     all_goals refine jZ (vs:=[_,_,_]) F ⟨F,F,F,trivial⟩ F ⟨(hgq.trans hle),F,?_⟩
     all_goals exact gp (by rw [hit];rfl)
    | some w =>
     have cx_wh1:=md (G:=Gq) hR (h.mono hgq) hdk oM oM hf
     rw [← edn] at cx_wh1
     have htot:=j9 _ _ _ _ _ (cS hf)
     simp only [List.length_nil] at htot
     rw [pB hg htz ht hlast hd hf] at hit
     repeat' (first | refine jM ?_ | (refine jo ?_;first | refine aw F ?_ | refine al F ?_ | refine aQ F ?_ | refine jL fun _=>?_ | refine jC F F F ?_ | refine ac F F F cx_ng F ?_ | refine ac F F F cx_tk F ?_ | refine ac F F F cx_fld F ?_ | (refine aF F F F cx_wh1 F ?_;rintro _ G hle ⟨wb,rfl,hrep⟩;skip)) | refine am F F F ?_ | (refine ad F (by first | rfl | (refine decide_eq_false ?_;(assumption))) ?_))
     have hgl:=hgq.trans hle
     have cx_out:=kq hw hrep oM
     have cx_sta:=me (f:=d) (h.mono hgl) hw hdk
     have hl' : (gs ++ [(d,w)]).length = gs.length + 1:=by simp
     have hbl' : (bs ++ [wb]).length = (gs ++ [(d,w)]).length:=by simp [hbl]
     by_cases heq : w.out = bK (af vs) d
     ·rw [if_pos heq] at hit
      repeat' (first | refine jR ?_ | (refine ad F ?_ ?_;(focus ((simp [*];done);done))) | (refine ak (ar (id:=18) _ (fun _ h=>h) aj ?_);refine jT 5 [0,2] (aa 7 5) ?_;(refine jG (aa 7 13) 3 F (aC F F F) ?_);(refine jG (aa 7 29) 4 F (bz F F F F) ?_);refine jA 1 F ?_;(refine ac F F F cx_out F ?_);refine jS (aa 7 31) ?_;refine jA 5 F ?_;(refine ac F F F cx_sta F ?_);refine jS (aa 7 63) ?_;refine jT 0 [6] (aa 7 127) ?_;refine jQ ?_))
      all_goals exact a7 (gs,bs,a1,c1,a2,c2,r',m,tg,G) ⟨⟨⟨hbl,hfm,fun i hi=>(hreps i hi).mono hle⟩,hgl⟩,⟨hit,by dsimp only;omega⟩,by dsimp only;omega,h0,h1⟩ (by dsimp only;omega) tU rfl sB
     ·rw [if_neg heq] at hit
      have hnth : ∀ i,i < (gs ++ [(d,w)]).length → (i < gs.length ∧ ae (gs ++ [(d,w)]) i = ae gs i ∧ ae (bs ++ [wb]) i = ae bs i) ∨ (ae (gs ++ [(d,w)]) i = (d,w) ∧ ae (bs ++ [wb]) i = wb):=fun i hi=>by
       by_cases h1 : i < gs.length
       ·exact .inl ⟨h1,by rw [aI hi,aI h1,List.getElem_append_left h1],by rw [aI oM,aI oM,List.getElem_append_left oM]⟩
       ·have h2 : i = gs.length:=oM
        exact .inr ⟨by rw [aI hi];simp [h2],by rw [aI oM];simp [h2,hbl]⟩
      have hfm' : ∀ i,i < (gs ++ [(d,w)]).length → (ae (gs ++ [(d,w)]) i).1 ∈ fs:=fun i hi=>by
       rcases hnth i hi with ⟨h1,h2,_⟩ | ⟨h2,_⟩
       ·rw [h2];exact hfm i h1
       ·rw [h2];exact hdm
      have hreps' : ∀ i,i < (gs ++ [(d,w)]).length → RepR G (af vs) (ae (gs ++ [(d,w)]) i).2 (ae (gs ++ [(d,w)]) i).1.kind (ae (bs ++ [wb]) i):=fun i hi=>by
       rcases hnth i hi with ⟨h1,h2,h3⟩ | ⟨h2,h3⟩
       ·rw [h2,h3];exact (hreps i h1).mono hle
       ·rw [h2,h3];exact hrep
      have hnd : pJ (gs ++ [(d,w)]) = pJ gs ++ [.nd 61 [] d.tag [w]]:=by simp [pJ]
      have hrow1 : ax eb (gs.map fun p=>p.1.tag) ++ [I tg] = ax eb ((gs ++ [(d,w)]).map fun p=>p.1.tag):=by rw [← hdt,List.map_append];exact (b5 eb _ d.tag).symm
      have hrow2 : ax eR bs ++ [Pt wb 0] = ax eR (bs ++ [wb]):=(b5 eR bs wb).symm
      repeat' (first | refine jR ?_ | (refine jo ?_;first | refine al F ?_ | refine jD F F F ?_ | refine jF fun _=>?_ | refine ci F F F F F F F F F oM fun _ _=>?_) | refine ab F (aD ‹_›) ?_ | (refine ak (ar (id:=18) _ (fun _ h=>h) aj ?_);refine jT 5 [0,2] (aa 7 5) ?_;(refine jG (aa 7 13) 3 F (aC F F F) ?_);(refine jG (aa 7 29) 4 F (bz F F F F) ?_);refine jA 1 F ?_;(refine ac F F F cx_out F ?_);refine jS (aa 7 31) ?_;refine jA 5 F ?_;(refine ac F F F cx_sta F ?_);refine jS (aa 7 63) ?_;refine jT 0 [6] (aa 7 127) ?_;refine jQ ?_))
      all_goals
       rename_i _ y1 yc1 _ y2 yc2
       rw [hrow1,hrow2]
       exact a7 (gs ++ [(d,w)],bs ++ [wb],some ⟨y1,0,none⟩,yc1,some ⟨y2,0,none⟩,yc2,r',m,tg,G) ⟨⟨⟨hbl',hfm',hreps'⟩,hgl⟩,⟨(by dsimp only;rw [hit,hnd]),(by dsimp only;omega)⟩,(by dsimp only;omega),h0,h1⟩ (by dsimp only;omega) tU rfl (by rw [hl'];repeat (first | exact List.Sublist.refl _ | apply List.Sublist.cons_cons | apply List.Sublist.cons))
end Go.E
