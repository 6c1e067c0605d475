/- Contracts and plain laws that the statement rests on, part 5. Conditions: as each says. -/
import Derived.Test.YtglhncibfmhblabGreatDoorU4
set_option linter.unusedVariables false
set_option linter.unusedSimpArgs false
namespace Go.E
set_option maxRecDepth 20000
set_option maxHeartbeats 2000000
open Go.Proofs
theorem gK {ts : List Ty} {k : ac1} (h : aE ts k = true) : ∃ c r,k = c :: r:=by
 cases k with
 | nil=>unfold aE bA ep at h;simp at h
 | cons c r=>exact ⟨c,r,F⟩
theorem abH {t : Ty} (hw : TyW t) (hs : t.sort ≠ 82) : t.fields.headD default ∈ t.fields:=by
 have:=hw.ne hs
 cases h : t.fields with
 | nil=>exact absurd h this
 | cons d r=>simp
theorem abX : a8 0 = [48]:=by rw [dF dC dC];decide
theorem lv : V.out (.nd 110 (a8 0) 0 []) = [48]:=by rw [V.out];exact abX
theorem uo {ts : List Ty} (hw : SchW ts) : ∀ (n : Nat) {k : ac1},aE ts k = true → (∀ t,aT ts k = some t → bQ ts n t = true) → ∃ u,OfK ts k u ∧ u.out = cm ts (n + 1) k ∧ u.deep ≤ n + 1 ∧ u.out.length ≤ 30 * (n + 1) ∧ u.size ≤ 1:=by
 intro n
 induction n with
 | zero =>
  intro k hk he
  obtain ⟨c,r,rfl⟩:=gK hk
  unfold cm
  by_cases h91 : c.toNat = 91
  ·obtain rfl:=bn h91 dC
   exact ⟨_,.lst _ [] (by simp) (by simp),by rw [if_pos h91,V.out];rfl,by simp [V.deep,V.deeps],by rw [V.out];decide,by simp [V.size,fF,V.sizes]⟩
  by_cases h63 : c.toNat = 63
  ·obtain rfl:=bn h63 dC
   exact ⟨_,.non _,by rw [if_neg h91,if_pos h63,V.out];rfl,by simp [V.deep,V.deeps],by rw [V.out];decide,by simp [V.size,fF]⟩
  rw [if_neg h91,if_neg h63]
  cases hr : aT ts (c :: r) with
  | some t=>have:=he t hr;simp [bQ] at this
  | none =>
   dsimp only
   rcases eK hk (by rintro (h | h) <;> contradiction) hr with e | e | e
   all_goals rw [e]
   ·exact ⟨_,.num [] 0 dC dC,by rw [lv];decide,by simp [V.deep,V.deeps],by rw [lv];decide,by simp [V.size,fF]⟩
   ·exact ⟨_,.txt [] [] dC,by rw [V.out];decide,by simp [V.deep,V.deeps],by rw [V.out];decide,by simp [V.size,fF]⟩
   ·exact ⟨_,.flg [] _ (.inr F),by rw [V.out];decide,by simp [V.deep,V.deeps],by rw [V.out];decide,by simp [V.size,fF]⟩
 | succ n ih =>
  intro k hk he
  obtain ⟨c,r,rfl⟩:=gK hk
  unfold cm
  by_cases h91 : c.toNat = 91
  ·obtain rfl:=bn h91 dC
   exact ⟨_,.lst _ [] (by simp) (by simp),by rw [if_pos h91,V.out];rfl,by simp [V.deep,V.deeps],by rw [V.out];simp [dv,V.outs,aM];omega,by simp [V.size,fF,V.sizes]⟩
  by_cases h63 : c.toNat = 63
  ·obtain rfl:=bn h63 dC
   exact ⟨_,.non _,by rw [if_neg h91,if_pos h63,V.out];rfl,by simp [V.deep,V.deeps],by rw [V.out];simp [dv];omega,by simp [V.size,fF]⟩
  rw [if_neg h91,if_neg h63]
  cases hr : aT ts (c :: r) with
  | none =>
   dsimp only
   rcases eK hk (by rintro (h | h) <;> contradiction) hr with e | e | e
   all_goals rw [e]
   ·exact ⟨_,.num [] 0 dC dC,by rw [lv];decide,by simp [V.deep,V.deeps],by rw [lv];simp;omega,by simp [V.size,fF]⟩
   ·exact ⟨_,.txt [] [] dC,by rw [V.out];decide,by simp [V.deep,V.deeps],by rw [V.out];simp [dv];omega,by simp [V.size,fF]⟩
   ·exact ⟨_,.flg [] _ (.inr F),by rw [V.out];decide,by simp [V.deep,V.deeps],by rw [V.out];simp [dv];omega,by simp [V.size,fF]⟩
  | some t =>
   have htm:=bJ hr
   have htw:=hw.ty t htm
   dsimp only
   by_cases h82 : t.sort = 82
   ·rw [if_pos h82]
    exact ⟨_,.recd _ t [] hr h82 (by simp) (by simp) (by simp) (by simp),by rw [V.out];rfl,by simp [V.deep,V.deeps],by rw [V.out];simp [dv,V.outs,aM];omega,by simp [V.size,fF,V.sizes]⟩
   rw [if_neg h82]
   have hd:=abH htw h82
   have htg:=(htw.fld _ hd).tag
   have hdl:=pz (m:=tag0 t) (by unfold tag0;omega)
   by_cases h69 : t.sort = 69
   ·rw [if_pos h69]
    exact ⟨_,.enm _ t _ hr h69 hd,by rw [V.out];rfl,by simp [V.deep,V.deeps],by rw [V.out];show (35 :: a8 (tag0 t)).length ≤ _;simp only [List.length_cons];omega,by simp [V.size,fF]⟩
   rw [if_neg h69]
   have h85 : t.sort = 85:=by have:=htw.sort;unfold d5 at this;omega
   have he1:=he t hr
   unfold bQ at he1
   rw [if_neg (by simpa using h85)] at he1
   obtain ⟨u,g1,g2,g3,g4,g5⟩:=ih (k:=fG t) (dK hw htm h69 hd) (fun t' ht'=>by rw [ht'] at he1;exact he1)
   refine ⟨_,.uni _ t _ u hr h82 h69 hd g1,?_,?_,?_,?_⟩
   ·rw [V.out,← g2];simp [dv,V.outs,aM,tag0]
   ·rw [ck dC,V.deeps,V.deeps];omega
   ·have e:=pU (v:=u) (n:=tag0 t) (r:=[])
    rw [List.append_nil] at e
    show (V.out (.nd 85 [] (tag0 t) [u])).length ≤ _
    rw [e];simp only [List.length_cons,List.length_append,List.length_nil];omega
   ·rw [V.size,if_neg (by unfold fF;simp),V.sizes,V.sizes];omega
theorem up {ts : List Ty} (hw : SchW ts) {k : ac1} (hk : aE ts k = true) : ∃ u,OfK ts k u ∧ u.out = oQ ts k ∧ u.deep ≤ 12 ∧ u.out.length ≤ 400 ∧ u.size ≤ 1:=by
 have hl:=hw.len
 obtain ⟨u,h1,h2,h3,h4,h5⟩:=uo hw (ts.length + 1) hk (fun t ht=>by
  have hm:=bJ ht
  obtain ⟨i,hi,rfl⟩:=List.mem_iff_getElem.1 hm
  have:=hw.valid.2 i hi
  rwa [aP hi] at this)
 exact ⟨u,h1,h2,oM,oM,h5⟩
theorem uq {ts : List Ty} (hw : SchW ts) {t : Ty} (ht : t ∈ ts) (hs : t.sort ≠ 69) {d : Fld} (hd : d ∈ t.fields) : ∃ u,OfK ts d.kind u ∧ u.out = bI ts d ∧ u.deep ≤ 12 ∧ u.out.length ≤ 400:=by
 unfold bI
 by_cases h0 : d.stand = []
 ·rw [if_pos h0]
  obtain ⟨u,h1,h2,h3,h4,_⟩:=up hw (dK hw ht hs hd)
  exact ⟨u,h1,h2,h3,h4⟩
 ·rw [if_neg h0]
  have h1:=(((hw.ty t ht).fld d hd).stand h0).2
  unfold bE at h1
  split at h1
  ·rename_i hk
   rw [hk]
   simp only [Bool.and_eq_true] at h1
   obtain ⟨m,hm⟩:=Option.isSome_iff_exists.1 h1.1
   have h2:=dm hm
   have h3:=jt hm
   refine ⟨_,.num [] m h3 h2.1,by rw [V.out];exact h2.2.1.symm,by simp [V.deep,V.deeps],?_⟩
   rw [V.out]
   show (a8 m).length ≤ 400
   have:=pz h2.1;omega
  ·split at h1
   ·rename_i hk
    rw [hk]
    simp only [Bool.and_eq_true] at h1
    have hx:=h1.1
    have hx2:=hx
    unfold cX at hx
    rw [decide_eq_true_eq] at hx
    obtain ⟨⟨h2,h3⟩,h4,h5,_⟩:=hx
    obtain ⟨x,hxs⟩ : ∃ x,d.stand = 39 :: (x ++ [39]):=by
     cases hs : d.stand with
     | nil=>exact absurd hs h0
     | cons c r =>
      rw [hs] at h4 h5 h2
      have hc : c = 39:=UInt8.toNat_inj.1 (by rw [a6] at h4;exact h4)
      have hr : r ≠ []:=by rintro rfl;simp at h2
      refine ⟨r.dropLast,?_⟩
      have hl : r.getLast hr = 39:=by
       refine UInt8.toNat_inj.1 ?_
       simp only [List.length_cons,Nat.add_sub_cancel] at h5
       obtain ⟨m,hm⟩ : ∃ m,r.length = m + 1:=⟨r.length - 1,by have:=List.length_pos_iff.2 hr;omega⟩
       rw [hm,dG] at h5
       rw [List.getLast_eq_getElem]
       have : bt r m = (r[r.length - 1]'(by have:=List.length_pos_iff.2 hr;omega)).toNat:=by simp [bt,List.getD,hm]
       rw [← this,h5];rfl
      rw [hc];congr 1
      rw [← hl,List.dropLast_concat_getLast]
    rw [hxs] at hx2 h3 ⊢
    refine ⟨_,.txt [] x hx2,by rw [V.out];rfl,by simp [V.deep,V.deeps],?_⟩
    rw [V.out]
    show (39 :: (x ++ [39])).length ≤ 400
    omega
   ·split at h1
    ·rename_i hk
     rw [hk]
     rw [decide_eq_true_eq] at h1
     rw [h1]
     exact ⟨_,.flg [] _ (.inl F),by rw [V.out];rfl,by simp [V.deep,V.deeps],by rw [V.out];decide⟩
    ·cases h1
def cj : List ac1 → Option (List Int)
 | []=>some []
 | x :: xs=>match aL x 999999 with
  | none=>none
  | some n=>(cj xs).map (n :: ·)
def cJ (s : ac1) : Option (List Int):=if s = [] then some [] else match cj (aV 47 s) with
 | some p=>if p.length ≤ 8 then some p else none
 | none=>none
theorem kC : ∀ {xs : List ac1} {p : List Int},cj xs = some p → p.length = xs.length ∧ ∀ n ∈ p,0 ≤ n ∧ n ≤ 999999
 | [],p,h=>by simp only [cj,Option.some.injEq] at h;subst h;simp
 | x :: xs,p,h=>by
  unfold cj at h
  cases hn : aL x 999999 with
  | none=>rw [hn] at h;cases h
  | some n =>
   rw [hn] at h
   dsimp only at h
   cases hs : cj xs with
   | none=>rw [hs] at h;cases h
   | some q =>
    rw [hs] at h
    simp only [Option.map_some,Option.some.injEq] at h
    subst h
    obtain ⟨h1,h2⟩:=kC hs
    refine ⟨by simp [h1],fun m hm=>?_⟩
    rcases List.mem_cons.1 hm with rfl | hm
    ·exact ⟨jt hn,(dm hn).1⟩
    ·exact h2 m hm
def fp (ts : List Ty) (f : Fld) : V:=(bV ts f.kind (bI ts f)).getD default
def cV (f : Fld) : List V → Option V
 | []=>none
 | x :: r=>if x.tag = f.tag then some (ae x.kids 0) else cV f r
def ff (ts : List Ty) (v : V) (f : Fld) : V:=(cV f v.kids).getD (fp ts f)
def bH (ts : List Ty) (k : ac1) (v : V) (n : Int) : Option (ac1 × V):=match k with
 | []=>none
 | c :: r=>if c.toNat = 91 ∨ c.toNat = 63 then (if n < (v.kids.length : Nat) then some (r,ae v.kids n.toNat) else none)
  else match aT ts (c :: r) with
   | none=>none
   | some t=>match br t.fields n with
    | none=>none
    | some f=>if t.sort = 69 then none else if t.sort = 82 then some (f.kind,ff ts v f) else if v.tag = n then some (f.kind,ae v.kids 0) else none
def bC (ts : List Ty) : ac1 → V → List Int → Option (ac1 × V)
 | k,v,[]=>some (k,v)
 | k,v,n :: p=>match bH ts k v n with
  | none=>none
  | some (k',v')=>bC ts k' v' p
theorem gI {ts : List Ty} (hw : SchW ts) {t : Ty} (ht : t ∈ ts) (hs : t.sort ≠ 69) {d : Fld} (hd : d ∈ t.fields) : OfK ts d.kind (fp ts d) ∧ bV ts d.kind (bI ts d) = some (fp ts d) ∧ (fp ts d).out = bI ts d:=by
 obtain ⟨u,h1,h2,h3,h4⟩:=uq hw ht hs hd
 have h5:=hZ hw h1 h4 h3
 rw [h2] at h5
 have h6 : fp ts d = u:=by unfold fp;rw [h5];rfl
 rw [h6]
 exact ⟨h1,h5,h2⟩
theorem k9 {ts : List Ty} {t : Ty} (hw : TyW t) {f : Fld} (hf : f ∈ t.fields) : ∀ {fs : List (Fld × V)} {u : V},(∀ p ∈ fs,p.1 ∈ t.fields ∧ OfK ts p.1.kind p.2) → cV f (fs.map aU) = some u → OfK ts f.kind u ∧ ∃ p ∈ fs,p.1 = f ∧ p.2 = u
 | [],u,_,h=>by simp [cV] at h
 | p :: fs,u,hp,h=>by
  simp only [List.map_cons,cV] at h
  split at h
  ·rename_i he
   simp only [Option.some.injEq] at h
   have h1 : p.2 = u:=h
   have h2:=jf hw (hp p (by simp)).1 hf he
   subst h1
   exact ⟨by rw [← h2];exact (hp p (by simp)).2,p,by simp,h2,F⟩
  ·obtain ⟨h1,q,h2,h3⟩:=k9 hw hf (fun q hq=>hp q (by simp [hq])) h
   exact ⟨h1,q,by simp [h2],h3⟩
theorem yv {ts : List Ty} (hw : SchW ts) {t : Ty} (ht : t ∈ ts) (hs : t.sort = 82) {f : Fld} (hf : f ∈ t.fields) {fs : List (Fld × V)} (hp : ∀ p ∈ fs,p.1 ∈ t.fields ∧ OfK ts p.1.kind p.2) : OfK ts f.kind (ff ts (.nd 82 [] 0 (fs.map aU)) f):=by
 unfold ff
 cases h : cV f (V.kids (.nd 82 [] 0 (fs.map aU))) with
 | none=>exact (gI hw ht oM hf).1
 | some u=>exact (k9 (hw.ty t ht) hf hp h).1
theorem gu {ts : List Ty} (hw : SchW ts) {k : ac1} {v : V} (h : OfK ts k v) (hk : aE ts k = true) {n : Int} (hn : 0 ≤ n) {k' : ac1} {v' : V} (e : bH ts k v n = some (k',v')) : OfK ts k' v' ∧ aE ts k' = true:=by
 obtain ⟨c,r,rfl⟩:=gK hk
 unfold bH at e
 dsimp only at e
 split at e
 ·rename_i hc
  split at e
  ·rename_i hlt
   simp only [Option.some.injEq,Prod.mk.injEq] at e
   obtain ⟨rfl,rfl⟩:=e
   refine ⟨?_,dP hc hk⟩
   rcases iD h oM with ⟨h1,_⟩ | ⟨h1,_⟩ | ⟨h1,_⟩ | ⟨h1,ks,_,h3,rfl⟩ | ⟨h1,rfl | ⟨u,h3,rfl⟩⟩
   ·omega
   ·omega
   ·omega
   ·rw [V.kids] at hlt ⊢
    have : n.toNat < ks.length:=oM
    rw [aP this];exact h3 _ (List.getElem_mem this)
   ·simp [V.kids] at hlt;omega
   ·simp [V.kids] at hlt
    have : n.toNat = 0:=oM
    rw [this];exact h3
  ·cases e
 ·split at e
  ·cases e
  ·rename_i t hr
   have ht:=bJ hr
   split at e
   ·cases e
   ·rename_i f hf
    have hfm:=List.mem_of_find?_eq_some hf
    split at e
    ·cases e
    ·rename_i h69
     have hki:=dK hw ht h69 hfm
     split at e
     ·rename_i h82
      simp only [Option.some.injEq,Prod.mk.injEq] at e
      obtain ⟨rfl,rfl⟩:=e
      rcases dH h hr with ⟨_,fs,rfl,g3,g4,_,_⟩ | ⟨h1,_⟩ | ⟨h1,_⟩
      ·exact ⟨yv hw ht h82 hfm fun p hp=>⟨g3 p hp,g4 p hp⟩,hki⟩
      ·omega
      ·omega
     ·rename_i h82
      split at e
      ·rename_i htg
       simp only [Option.some.injEq,Prod.mk.injEq] at e
       obtain ⟨rfl,rfl⟩:=e
       rcases dH h hr with ⟨h1,_⟩ | ⟨h1,_⟩ | ⟨_,_,d,u,rfl,g4,g5⟩
       ·omega
       ·omega
       ·have h7 : f.tag = n:=by have:=List.find?_some hf;simpa using this
        have h8:=jf (hw.ty t ht) g4 hfm (by rw [h7];exact htg)
        rw [V.kids]
        exact ⟨by rw [← h8];exact g5,hki⟩
      ·cases e
theorem f6 {ts : List Ty} (hw : SchW ts) : ∀ {p : List Int} {k : ac1} {v : V} {k' : ac1} {v' : V},OfK ts k v → aE ts k = true → (∀ n ∈ p,0 ≤ n) → bC ts k v p = some (k',v') → OfK ts k' v' ∧ aE ts k' = true
 | [],k,v,k',v',h,hk,_,e=>by
  simp only [bC,Option.some.injEq,Prod.mk.injEq] at e
  obtain ⟨rfl,rfl⟩:=e
  exact ⟨h,hk⟩
 | n :: p,k,v,k',v',h,hk,hp,e=>by
  unfold bC at e
  cases hs : bH ts k v n with
  | none=>rw [hs] at e;cases e
  | some x =>
   rw [hs] at e
   obtain ⟨k1,v1⟩:=x
   obtain ⟨h1,h2⟩:=gu hw h hk (hp n (by simp)) hs
   exact f6 hw h1 h2 (fun m hm=>hp m (by simp [hm])) e
def fz (ts : List Ty) (f : Fld) (x : V) : List V → List V
 | []=>if x.out = bI ts f then [] else [.nd 61 [] f.tag [x]]
 | y :: r=>if y.tag < f.tag then y :: fz ts f x r
  else (if x.out = bI ts f then [] else [.nd 61 [] f.tag [x]]) ++ (if y.tag = f.tag then r else y :: r)
def db (ts : List Ty) : ac1 → V → List Int → V → V
 | _,_,[],x=>x
 | k,v,n :: p,x=>match bH ts k v n with
  | none=>v
  | some (k',v')=>if v.what = 82 then (match aT ts k with
    | some t=>(match br t.fields n with
     | some f=>.nd 82 [] 0 (fz ts f (db ts k' v' p x) v.kids)
     | none=>v)
    | none=>v)
   else .nd v.what [] v.tag (if v.what = 91 then v.kids.set n.toNat (db ts k' v' p x) else [db ts k' v' p x])
theorem tz {ts : List Ty} {t : Ty} (hw : TyW t) {f : Fld} (hf : f ∈ t.fields) {x : V} (hx : OfK ts f.kind x) : ∀ {fs : List (Fld × V)},(∀ p ∈ fs,p.1 ∈ t.fields ∧ OfK ts p.1.kind p.2 ∧ p.2.out ≠ bI ts p.1) → fs.Pairwise (fun a b=>a.1.tag < b.1.tag) →
  ∃ gs : List (Fld × V),fz ts f x (fs.map aU) = gs.map aU ∧ (∀ p ∈ gs,(p.1 ∈ t.fields ∧ OfK ts p.1.kind p.2 ∧ p.2.out ≠ bI ts p.1) ∧ (p ∈ fs ∨ p.1 = f)) ∧ gs.Pairwise (fun a b=>a.1.tag < b.1.tag)
 | [],_,_=>by
  simp only [List.map_nil,fz]
  split
  ·exact ⟨[],F,by simp,by simp⟩
  ·rename_i hne
   exact ⟨[(f,x)],F,fun p hp=>by simp only [List.mem_singleton] at hp;subst hp;exact ⟨⟨hf,hx,hne⟩,.inr F⟩,by simp⟩
 | q :: fs,hp,hpw=>by
  rw [List.pairwise_cons] at hpw
  simp only [List.map_cons,fz]
  show ∃ gs : List (Fld × V),(if q.1.tag < f.tag then aU q :: fz ts f x (fs.map aU) else (if x.out = bI ts f then [] else [.nd 61 [] f.tag [x]]) ++ (if q.1.tag = f.tag then fs.map aU else aU q :: fs.map aU)) = gs.map aU ∧ _
  by_cases hlt : q.1.tag < f.tag
  ·rw [if_pos hlt]
   obtain ⟨gs,e1,e2,e3⟩:=tz hw hf hx (fun p h=>hp p (by simp [h])) hpw.2
   refine ⟨q :: gs,by rw [e1];rfl,fun p h=>?_,?_⟩
   ·rcases List.mem_cons.1 h with rfl | h
    ·exact ⟨hp _ (by simp),.inl (by simp)⟩
    ·exact ⟨(e2 p h).1,(e2 p h).2.imp (fun h=>by simp [h]) id⟩
   ·rw [List.pairwise_cons]
    refine ⟨fun p h=>?_,e3⟩
    rcases (e2 p h).2 with h1 | h1
    ·exact hpw.1 p h1
    ·rw [h1];exact hlt
  ·rw [if_neg hlt]
   have hB : ∃ gs : List (Fld × V),(if q.1.tag = f.tag then fs.map aU else aU q :: fs.map aU) = gs.map aU ∧ (∀ p ∈ gs,(p.1 ∈ t.fields ∧ OfK ts p.1.kind p.2 ∧ p.2.out ≠ bI ts p.1) ∧ p ∈ q :: fs ∧ f.tag < p.1.tag) ∧ gs.Pairwise (fun a b=>a.1.tag < b.1.tag):=by
    split
    ·rename_i he
     exact ⟨fs,F,fun p h=>⟨hp p (by simp [h]),by simp [h],by have:=hpw.1 p h;omega⟩,hpw.2⟩
    ·rename_i he
     refine ⟨q :: fs,F,fun p h=>⟨hp p h,h,?_⟩,by rw [List.pairwise_cons];exact hpw⟩
     rcases List.mem_cons.1 h with rfl | h
     ·omega
     ·have:=hpw.1 p h;omega
   obtain ⟨gs,e1,e2,e3⟩:=hB
   rw [e1]
   split
   ·exact ⟨gs,F,fun p h=>⟨(e2 p h).1,.inl (e2 p h).2.1⟩,e3⟩
   ·rename_i hne
    refine ⟨(f,x) :: gs,F,fun p h=>?_,?_⟩
    ·rcases List.mem_cons.1 h with rfl | h
     ·exact ⟨⟨hf,hx,hne⟩,.inr F⟩
     ·exact ⟨(e2 p h).1,.inl (e2 p h).2.1⟩
    ·rw [List.pairwise_cons]
     exact ⟨fun p h=>(e2 p h).2.2,e3⟩
theorem pC {ts : List Ty} (hw : SchW ts) : ∀ {p : List Int} {k : ac1} {v x : V} {k' : ac1} {v' : V},OfK ts k v → aE ts k = true → (∀ n ∈ p,0 ≤ n) → bC ts k v p = some (k',v') → OfK ts k' x → OfK ts k (db ts k v p x)
 | [],k,v,x,k',v',h,hk,_,e,hx=>by
  simp only [bC,Option.some.injEq,Prod.mk.injEq] at e
  obtain ⟨rfl,rfl⟩:=e
  exact hx
 | n :: p,k,v,x,k',v',h,hk,hp,e,hx=>by
  unfold bC at e
  cases hs : bH ts k v n with
  | none=>rw [hs] at e;cases e
  | some y =>
   rw [hs] at e
   obtain ⟨k1,v1⟩:=y
   obtain ⟨h1,h2⟩:=gu hw h hk (hp n (by simp)) hs
   have ih:=pC hw h1 h2 (fun m hm=>hp m (by simp [hm])) e hx
   have hn:=hp n (by simp)
   unfold db
   rw [hs]
   dsimp only
   obtain ⟨c,r,rfl⟩:=gK hk
   unfold bH at hs
   dsimp only at hs
   split at hs
   ·rename_i hc
    split at hs
    ·rename_i hlt
     simp only [Option.some.injEq,Prod.mk.injEq] at hs
     obtain ⟨rfl,rfl⟩:=hs
     rcases iD h oM with ⟨g1,_⟩ | ⟨g1,_⟩ | ⟨g1,_⟩ | ⟨g1,ks,g2,g3,rfl⟩ | ⟨g1,rfl | ⟨u,g3,rfl⟩⟩
     ·omega
     ·omega
     ·omega
     ·rw [V.what,if_neg dC,if_pos rfl]
      obtain rfl:=bn g1 dC
      refine .lst _ _ (by rw [List.length_set];exact g2) fun u hu=>?_
      rcases List.mem_or_eq_of_mem_set hu with hu | rfl
      ·exact g3 u hu
      ·exact ih
     ·simp [V.kids] at hlt;omega
     ·rw [V.what,if_neg dC,if_neg dC]
      obtain rfl:=bn g1 dC
      exact .opt _ _ ih
    ·cases hs
   ·split at hs
    ·cases hs
    ·rename_i t hr
     have ht:=bJ hr
     split at hs
     ·cases hs
     ·rename_i f hf
      have hfm:=List.mem_of_find?_eq_some hf
      split at hs
      ·cases hs
      ·rename_i h69
       split at hs
       ·rename_i h82
        simp only [Option.some.injEq,Prod.mk.injEq] at hs
        obtain ⟨rfl,rfl⟩:=hs
        rcases dH h hr with ⟨_,fs,rfl,g3,g4,g5,g6⟩ | ⟨g1,_⟩ | ⟨g1,_⟩
        ·rw [V.what,if_pos rfl,hr]
         dsimp only
         rw [hf]
         dsimp only
         rw [V.kids]
         obtain ⟨gs,e1,e2,e3⟩:=tz (hw.ty t ht) hfm ih (fun p hp=>⟨g3 p hp,g4 p hp,g5 p hp⟩) g6
         rw [e1]
         exact .recd _ t gs hr h82 (fun p hp=>(e2 p hp).1.1) (fun p hp=>(e2 p hp).1.2.1) (fun p hp=>(e2 p hp).1.2.2) e3
        ·omega
        ·omega
       ·rename_i h82
        split at hs
        ·rename_i htg
         simp only [Option.some.injEq,Prod.mk.injEq] at hs
         obtain ⟨rfl,rfl⟩:=hs
         rcases dH h hr with ⟨g1,_⟩ | ⟨g1,_⟩ | ⟨_,_,d,u,rfl,g4,g5⟩
         ·omega
         ·omega
         ·have h7 : f.tag = n:=by have:=List.find?_some hf;simpa using this
          have h8:=jf (hw.ty t ht) g4 hfm (by rw [h7];exact htg)
          rw [V.what,if_neg dC,if_neg dC]
          exact .uni _ t d _ hr h82 h69 g4 (by rw [h8];exact ih)
        ·cases hs
theorem pb {f : ac1 → Option (V × ac1)} {r : ac1} : ∀ (ks : List V) (acc : List V),(∀ v ∈ ks,∀ r,f (v.bys ++ r) = some (v,r)) → bG f ks.length ((V.byss ks).flatten ++ r) acc = some (acc ++ ks,r)
 | [],acc,_=>by simp [bG,V.byss]
 | v :: ks,acc,h=>by
  rw [V.byss,List.flatten_cons,List.append_assoc,List.length_cons,bG,h v (by simp)]
  dsimp only
  rw [pb ks (acc ++ [v]) fun u hu=>h u (by simp [hu])]
  simp
theorem gw {f : ac1 → ac1 → Option (V × ac1)} {k p : ac1} {v : V} (h : f k p = some (v,[])) : cN f k p = some v:=by unfold cN;rw [h]
theorem lY (p : Fld × V) : (aU p).bys = a7 p.1.tag ++ (a7 p.2.bys.length ++ p.2.bys):=by
 show V.bys (.nd 61 [] p.1.tag [p.2]) = _
 rw [V.bys];simp [V.byss,fC]
theorem aac (r : ac1) : bm (0 :: r) = some (0,r):=by rw [bm,if_pos dC];rfl
theorem qC {ts : List Ty} {f : ac1 → ac1 → Option (V × ac1)} {t : Ty} (hw : TyW t) {r : ac1} : ∀ (fs : List (Fld × V)) (m : Nat) (last : Int) (acc : List V),fs.length < m → (∀ p ∈ fs,p.1 ∈ t.fields ∧ p.2.out ≠ bI ts p.1 ∧ last < p.1.tag ∧ p.2.bys.length ≤ 999999 ∧ f p.1.kind p.2.bys = some (p.2,[])) → fs.Pairwise (fun a b=>a.1.tag < b.1.tag) →
  bM ts f t m last ((V.byss (fs.map aU)).flatten ++ 0 :: r) acc = some (acc ++ fs.map aU,r)
 | [],m,last,acc,hm,_,_=>by
  obtain ⟨m,rfl⟩ : ∃ n,m = n + 1:=⟨m - 1,by simp at hm;omega⟩
  simp only [List.map_nil,V.byss,List.flatten_nil,List.nil_append,bM,aac,if_pos,List.append_nil]
 | p :: fs,m,last,acc,hm,hf,hp=>by
  obtain ⟨m,rfl⟩ : ∃ n,m = n + 1:=⟨m - 1,by simp at hm;omega⟩
  obtain ⟨h1,h2,h3,h4,h5⟩:=hf p (by simp)
  have ht:=(hw.fld _ h1).tag
  rw [List.pairwise_cons] at hp
  have ih:=qC (ts:=ts) (f:=f) hw (r:=r) fs m p.1.tag (acc ++ [aU p]) (by simp at hm;omega) (fun q hq=>⟨(hf q (by simp [hq])).1,(hf q (by simp [hq])).2.1,hp.1 q hq,(hf q (by simp [hq])).2.2.2⟩) hp.2
  rw [List.map_cons,V.byss,List.flatten_cons,lY,bM]
  simp only [List.append_assoc]
  rw [fY oM oM]
  dsimp only
  rw [if_neg oM,my h4]
  dsimp only
  rw [if_neg oM,il hw h1]
  dsimp only
  rw [gw h5]
  dsimp only
  rw [if_neg h2]
  show bM ts f t m p.1.tag _ (acc ++ [aU p]) = _
  rw [ih];simp
theorem sV {ks : List V} {v : V} (h : v ∈ ks) : v.bys.length ≤ (V.byss ks).flatten.length:=by
 rw [ip]
 induction ks with
 | nil=>cases h
 | cons u ks ih =>
  simp only [List.map_cons,List.flatten_cons,List.length_append]
  rcases List.mem_cons.1 h with rfl | h
  ·omega
  ·have:=ih h;omega
theorem t9 : ∀ {fs : List (Fld × V)},fs.length ≤ (V.byss (fs.map aU)).flatten.length
 | []=>by simp [V.byss]
 | p :: fs=>by
  have:=t9 (fs:=fs)
  have h2:=fL p.1.tag
  rw [List.map_cons,V.byss,List.flatten_cons,List.length_append,lY]
  simp only [List.length_append,List.length_cons]
  omega
theorem pX {ts : List Ty} {k : ac1} {t : Ty} (h : aT ts k = some t) : ∃ k',k = 64 :: k':=by
 cases k with
 | nil=>simp [aT,bz] at h
 | cons c k' =>
  by_cases h64 : c.toNat = 64
  ·exact ⟨k',by rw [show c = 64 from UInt8.toNat_inj.1 h64]⟩
  ·exact (c6 h F h64).elim
theorem o8 {ts : List Ty} (hw : SchW ts) : ∀ (n : Nat) {k : ac1} {v : V},OfK ts k v → v.deep ≤ n → v.bys.length ≤ 999999 → ∀ r,rb ts n k (v.bys ++ r) = some (v,r)
 | 0,k,v,h,hd,_,r=>by
  obtain ⟨w,x,t,ks⟩:=v
  have hne : w ≠ 61:=by cases h <;> decide
  rw [ck hne] at hd;omega
 | n + 1,k,v,h,hd,hl,r=>by
  have ih:=fun {k : ac1} {v : V}=>o8 hw n (k:=k) (v:=v)
  show fD ts (rb ts n) k (v.bys ++ r) = some (v,r)
  cases h with
  | num k m h1 h2 =>
   have e : V.bys (.nd 110 (a8 m) 0 []) = a7 m:=by rw [V.bys];unfold fC;rw [if_pos rfl,lx h1 h2 dC];rfl
   have hrf : aT ts (110 :: k) = none:=by cases h : aT ts (110 :: k) with | none=>rfl | some t=>exact (c6 h F dC).elim
   rw [e]
   unfold fD
   try dsimp only
   rw [if_neg dC,if_neg dC,hrf]
   try dsimp only
   rw [if_pos dC,fY h1 h2];rfl
  | txt k x h1 =>
   have e : V.bys (.nd 116 x 0 []) = a7 x.length ++ x:=by rw [V.bys];rfl
   have hrf : aT ts (116 :: k) = none:=by cases h : aT ts (116 :: k) with | none=>rfl | some t=>exact (c6 h F dC).elim
   rw [e] at hl ⊢
   rw [List.length_append] at hl
   unfold fD
   try dsimp only
   rw [if_neg dC,if_neg dC,hrf]
   try dsimp only
   rw [if_neg dC,if_pos dC,List.append_assoc,my oM]
   dsimp only
   rw [if_pos h1]
  | flg k x h1 =>
   have hrf : aT ts (102 :: k) = none:=by cases h : aT ts (102 :: k) with | none=>rfl | some t=>exact (c6 h F dC).elim
   unfold fD
   try dsimp only
   rw [if_neg dC,if_neg dC,hrf]
   try dsimp only
   rw [if_neg dC,if_neg dC,if_pos dC]
   rcases h1 with rfl | rfl
   ·rw [show V.bys (.nd 102 [121,101,115] 0 []) = [1] by rw [V.bys];rfl];rfl
   ·rw [show V.bys (.nd 102 [110,111] 0 []) = [0] by rw [V.bys];rfl];rfl
  | lst k ks h1 h2 =>
   rw [ck dC] at hd
   have e : V.bys (.nd 91 [] 0 ks) = a7 ks.length ++ (V.byss ks).flatten:=by rw [V.bys];rfl
   rw [e] at hl ⊢
   rw [List.length_append] at hl
   have hI:=pb (f:=rb ts n k) (r:=r) ks [] fun v hv r=>ih (h2 v hv) (by have:=V.deep_mem hv;omega) (by have:=sV hv;omega) r
   unfold fD
   try dsimp only
   rw [if_pos dC,List.append_assoc,fY oM oM]
   dsimp only
   rw [if_pos oM,Int.toNat_natCast,hI];rfl
  | non k =>
   rw [show V.bys (.nd 63 [] 0 []) = [0] by rw [V.bys];rfl]
   unfold fD
   try dsimp only
   rw [if_neg dC,if_pos dC];rfl
  | opt k v h1 =>
   rw [ck dC] at hd
   have hd2 : v.deep ≤ n:=by have:=V.deep_mem (ks:=[v]) (v:=v) (by simp);omega
   have e : V.bys (.nd 63 [] 0 [v]) = 1 :: v.bys:=by rw [V.bys];simp [V.byss,fC]
   rw [e] at hl ⊢
   rw [List.length_cons] at hl
   unfold fD
   try dsimp only
   rw [if_neg dC,if_pos dC]
   rw [show cx (1 :: v.bys ++ r) = some (true,v.bys ++ r) from rfl]
   try dsimp only
   rw [ih h1 hd2 oM];rfl
  | recd k t fs h1 h2 h3 h4 h5 h6 =>
   rw [ck dC] at hd
   obtain ⟨k',rfl⟩:=pX h1
   have e : V.bys (.nd 82 [] 0 (fs.map aU)) = (V.byss (fs.map aU)).flatten ++ [0]:=by rw [V.bys];rfl
   have hg:=t9 (fs:=fs)
   rw [e] at hl ⊢
   rw [List.length_append] at hl
   have hW:=hw.ty t (bJ h1)
   have hF:=qC (ts:=ts) (f:=rb ts n) hW (r:=r) fs (((V.byss (fs.map aU)).flatten ++ 0 :: r).length + 1) 0 [] (by rw [List.length_append];omega) (fun p hp=>by
    have hdp : p.2.deep ≤ n:=by
     have h7:=V.deep_mem (List.mem_map_of_mem (f:=aU) hp)
     have h8 : (aU p).deep = p.2.deep:=by
      show V.deep (.nd 61 [] p.1.tag [p.2]) = _
      rw [V.deep,if_pos rfl];simp [V.deeps]
     omega
    have hbp : p.2.bys.length ≤ 999999:=by
     have h7:=sV (List.mem_map_of_mem (f:=aU) hp)
     rw [lY] at h7
     simp only [List.length_append] at h7
     omega
    have ht:=(hW.fld _ (h3 p hp)).tag
    refine ⟨h3 p hp,h5 p hp,oM,hbp,?_⟩
    have:=ih (h4 p hp) hdp hbp []
    rwa [List.append_nil] at this) h6
   unfold fD
   try dsimp only
   rw [if_neg dC,if_neg dC,h1]
   try dsimp only
   unfold bT
   rw [if_pos h2,List.append_assoc,List.singleton_append,hF];rfl
  | enm k t d h1 h2 h3 =>
   obtain ⟨k',rfl⟩:=pX h1
   have hW:=hw.ty t (bJ h1)
   have ht:=(hW.fld _ h3).tag
   rw [show V.bys (.nd 69 [] d.tag []) = a7 d.tag by rw [V.bys];rfl]
   unfold fD
   try dsimp only
   rw [if_neg dC,if_neg dC,h1]
   try dsimp only
   unfold bT
   rw [if_neg oM,fY oM oM]
   dsimp only
   rw [il hW h3]
   dsimp only
   rw [if_pos h2]
  | uni k t d v h1 h2 h3 h4 h5 =>
   rw [ck dC] at hd
   have hd2 : v.deep ≤ n:=by have:=V.deep_mem (ks:=[v]) (v:=v) (by simp);omega
   obtain ⟨k',rfl⟩:=pX h1
   have hW:=hw.ty t (bJ h1)
   have ht:=(hW.fld _ h4).tag
   have e : V.bys (.nd 85 [] d.tag [v]) = a7 d.tag ++ (a7 v.bys.length ++ v.bys):=by rw [V.bys];simp [V.byss,fC]
   rw [e] at hl ⊢
   simp only [List.length_append] at hl
   unfold fD
   try dsimp only
   rw [if_neg dC,if_neg dC,h1]
   try dsimp only
   unfold bT
   simp only [List.append_assoc]
   rw [if_neg h2,fY oM oM]
   dsimp only
   rw [il hW h4]
   dsimp only
   rw [if_neg h3,my oM]
   dsimp only
   have:=ih h5 hd2 oM []
   rw [List.append_nil] at this
   rw [gw this];rfl
theorem oe : ∀ {xs ys : List ac1},xs.length = ys.length → (∀ i,i < xs.length → (ae ys i).length ≤ (ae xs i).length + 1) → ys.flatten.length ≤ (aM 44 xs).length + 1
 | [],ys,h,_=>by
  obtain rfl:=List.eq_nil_of_length_eq_zero h.symm
  simp
 | [x],ys,h,hl=>by
  match ys,h with
  | [y],_ =>
   have:=hl 0 (by simp)
   simpa [aM,ae] using this
 | x :: x2 :: xs,ys,h,hl=>by
  match ys,h with
  | y :: ys,h =>
   have h0:=hl 0 (by simp)
   have ih:=oe (xs:=x2 :: xs) (ys:=ys) (by simpa using h) fun i hi=>by
    have:=hl (i + 1) (by simpa using hi)
    simpa [ae] using this
   have h1 : (ae (y :: ys) 0).length = y.length:=rfl
   have h2 : (ae (x :: x2 :: xs) 0).length = x.length:=rfl
   rw [h1,h2] at h0
   rw [aM,List.flatten_cons,List.length_append,List.length_append,List.length_cons]
   omega
theorem aaM {n : Int} (h : 10 ≤ n) : 2 ≤ (a8 n).length:=by
 rw [gN oM,List.length_append]
 have:=gE (n / 10)
 simp;omega
theorem aaL {n : Int} (h : 100 ≤ n) : 3 ≤ (a8 n).length:=by
 rw [gN oM,List.length_append]
 have:=aaM (n:=n / 10) oM
 simp;omega
theorem pj {n : Int} (h : n < 16384) : (a7 n).length ≤ 2:=nb _ 1 oM
theorem vw {n : Int} (h : n < 128) : (a7 n).length ≤ 1:=nb _ 0 oM
theorem ng {n : Int} (h0 : 0 ≤ n) (h : n ≤ 999999) : (a7 n).length ≤ (a8 n).length:=by
 by_cases h1 : n < 128
 ·have:=vw h1;have:=gE n;omega
 ·have:=cb h;have:=aaL (n:=n) oM;omega
theorem qF {ks : List V} : (V.nd 91 [] 0 ks).out = 91 :: (aM 44 (ks.map V.out) ++ [93]):=by rw [V.out,V.outs_map];rfl
theorem rL {ks : List V} : (V.nd 82 [] 0 ks).out = 123 :: (aM 44 (ks.map V.out) ++ [125]):=by rw [V.out,V.outs_map];rfl
theorem kf {xs : List ac1} {x : ac1} (h : x ∈ xs) : x.length ≤ (aM 44 xs).length:=by
 induction xs with
 | nil=>cases h
 | cons y xs ih =>
  cases xs with
  | nil =>
   simp only [List.mem_singleton] at h;subst h;simp [aM]
  | cons z xs =>
   rw [aM,List.length_append,List.length_cons]
   rcases List.mem_cons.1 h with rfl | h
   ·omega
   ·have:=ih h;omega
theorem zB {ts : List Ty} (hw : SchW ts) {k : ac1} {v : V} (h : OfK ts k v) : v.out.length ≤ 16000 → v.bys.length ≤ v.out.length:=by
 induction h with
 | num k m h1 h2 =>
  intro _
  have e : V.bys (.nd 110 (a8 m) 0 []) = a7 m:=by rw [V.bys];unfold fC;rw [if_pos rfl,lx h1 h2 dC];rfl
  rw [e,show V.out (.nd 110 (a8 m) 0 []) = a8 m by rw [V.out];rfl]
  exact ng h1 h2
 | txt k x h1 =>
  intro hl
  have e : V.out (.nd 116 x 0 []) = 39 :: (x ++ [39]):=by rw [V.out];rfl
  rw [e] at hl ⊢
  rw [show V.bys (.nd 116 x 0 []) = a7 x.length ++ x by rw [V.bys];rfl]
  simp only [List.length_append,List.length_cons,List.length_nil] at hl ⊢
  have:=pj (n:=x.length) oM
  omega
 | flg k x h1 =>
  intro _
  rcases h1 with rfl | rfl
  ·rw [V.bys,V.out];decide
  ·rw [V.bys,V.out];decide
 | lst k ks h1 h2 ih =>
  intro hl
  rw [qF] at hl ⊢
  rw [show V.bys (.nd 91 [] 0 ks) = a7 ks.length ++ (V.byss ks).flatten by rw [V.bys];rfl]
  simp only [List.length_append,List.length_cons,List.length_nil] at hl ⊢
  have h3:=vw (n:=ks.length) oM
  have h4:=oe (xs:=ks.map V.out) (ys:=V.byss ks) (by rw [ip];simp) fun i hi=>by
   have hi : i < ks.length:=by simpa using hi
   have hm:=kf (xs:=ks.map V.out) (List.mem_map_of_mem (f:=V.out) (bB hi))
   have:=ih _ (bB hi) oM
   rw [oJ hi,show ae (ks.map V.out) i = (ae ks i).out by rw [aP (by simpa using hi),aP hi];simp]
   omega
  omega
 | non k=>intro _;rw [V.bys,V.out];decide
 | opt k v h1 ih =>
  intro hl
  have e : V.out (.nd 63 [] 0 [v]) = 43 :: v.out:=by rw [V.out];simp [V.outs,aM,dv]
  rw [e] at hl ⊢
  rw [show V.bys (.nd 63 [] 0 [v]) = 1 :: v.bys by rw [V.bys];simp [V.byss,fC]]
  simp only [List.length_cons] at hl ⊢
  have:=ih oM
  omega
 | recd k t fs h1 h2 h3 h4 h5 h6 ih =>
  intro hl
  rw [rL] at hl ⊢
  rw [show V.bys (.nd 82 [] 0 (fs.map aU)) = (V.byss (fs.map aU)).flatten ++ [0] by rw [V.bys];rfl]
  simp only [List.length_append,List.length_cons,List.length_nil] at hl ⊢
  have hW:=hw.ty t (bJ h1)
  have h4:=oe (xs:=(fs.map aU).map V.out) (ys:=V.byss (fs.map aU)) (by rw [ip];simp) fun i hi=>by
   have hi : i < fs.length:=by simpa using hi
   have hm:=kf (xs:=(fs.map aU).map V.out) (List.mem_map_of_mem (f:=V.out) (List.mem_map_of_mem (f:=aU) (bB hi)))
   have ht:=(hW.fld _ (h3 _ (bB hi))).tag
   have eo : (aU (ae fs i)).out = a8 (ae fs i).1.tag ++ 61 :: (ae fs i).2.out:=fx
   have:=ih _ (bB hi) (by rw [eo] at hm;simp only [List.length_append,List.length_cons] at hm;omega)
   rw [oJ (by simpa using hi),show ae ((fs.map aU).map V.out) i = (aU (ae fs i)).out by rw [aP (by simpa using hi),aP hi];simp,
    show ae (fs.map aU) i = aU (ae fs i) by rw [aP (by simpa using hi),aP hi];simp,lY,eo]
   rw [eo] at hm
   simp only [List.length_append,List.length_cons] at hm ⊢
   have g1:=ng (n:=(ae fs i).1.tag) oM oM
   have g2:=pj (n:=(ae fs i).2.bys.length) oM
   omega
  omega
 | enm k t d h1 h2 h3 =>
  intro _
  have hW:=hw.ty t (bJ h1)
  have ht:=(hW.fld _ h3).tag
  rw [show V.bys (.nd 69 [] d.tag []) = a7 d.tag by rw [V.bys];rfl,show V.out (.nd 69 [] d.tag []) = 35 :: a8 d.tag by rw [V.out];rfl,List.length_cons]
  have:=ng (n:=d.tag) oM oM
  omega
 | uni k t d v h1 h2 h3 h4 h5 ih =>
  intro hl
  have hW:=hw.ty t (bJ h1)
  have ht:=(hW.fld _ h4).tag
  have e : V.out (.nd 85 [] d.tag [v]) = 60 :: (a8 d.tag ++ 61 :: (v.out ++ [62])):=by rw [V.out];simp [V.outs,aM,dv]
  rw [e] at hl ⊢
  rw [show V.bys (.nd 85 [] d.tag [v]) = a7 d.tag ++ (a7 v.bys.length ++ v.bys) by rw [V.bys];simp [V.byss,fC]]
  simp only [List.length_append,List.length_cons,List.length_nil] at hl ⊢
  have:=ih oM
  have g1:=ng (n:=d.tag) oM oM
  have g2:=pj (n:=v.bys.length) oM
  omega
def jJ (ts : List Ty) (k b : ac1) : Option V:=match rb ts 12 k b with
 | some (v,[])=>if v.bys = b ∧ v.out.length ≤ 400 then some v else none
 | _=>none
theorem pD {ts : List Ty} (hw : SchW ts) {k b : ac1} (hb : b.length ≤ 999999) {v : V} : jJ ts k b = some v ↔ OfK ts k v ∧ v.deep ≤ 12 ∧ v.out.length ≤ 400 ∧ v.bys = b:=by
 constructor
 ·intro h
  unfold jJ at h
  split at h
  ·rename_i u hu
   obtain ⟨g1,g2⟩:=ll _ _ _ _ hu
   split at h
   ·rename_i hc
    simp only [Option.some.injEq] at h;subst h
    exact ⟨g1,g2,hc.2,hc.1⟩
   ·cases h
  ·cases h
 ·rintro ⟨h1,h2,h3,rfl⟩
  have:=o8 hw 12 h1 h2 hb []
  rw [List.append_nil] at this
  unfold jJ
  rw [this]
  dsimp only
  rw [if_pos ⟨rfl,h3⟩]
theorem sm {ts : List Ty} (hw : SchW ts) {k b : ac1} (hb : b.length ≤ 999999) {v : V} : jJ ts k b = some v ↔ rb ts 13 k b = some (v,[]) ∧ v.deep ≤ 12 ∧ v.out.length ≤ 400 ∧ v.bys = b:=by
 rw [pD hw hb]
 constructor
 ·rintro ⟨h1,h2,h3,rfl⟩
  have:=o8 hw 13 h1 oM hb []
  rw [List.append_nil] at this
  exact ⟨this,h2,h3,F⟩
 ·rintro ⟨h1,h2,h3,h4⟩
  exact ⟨(ll _ _ _ _ h1).1,h2,h3,h4⟩
theorem fc {s r : ac1} {b : Bool} (h : cx s = some (b,r)) : s = (if b = true then 1 else 0) :: r:=by
 unfold cx at h
 split at h
 ·cases h
 ·rename_i c q
  split at h
  ·rename_i hc
   simp only [Option.some.injEq,Prod.mk.injEq] at h
   obtain ⟨rfl,rfl⟩:=h
   rw [bn hc dC];rfl
  ·split at h
   ·rename_i hc
    simp only [Option.some.injEq,Prod.mk.injEq] at h
    obtain ⟨rfl,rfl⟩:=h
    rw [bn hc dC];rfl
   ·cases h
theorem wL (r : ac1) : cx (0 :: r) = some (false,r):=by rw [cx,if_pos dC]
theorem wK (r : ac1) : cx (1 :: r) = some (true,r):=by rw [cx,if_neg dC,if_pos dC]
section
variable {ts : List Ty}
end
variable {ts : List Ty}
inductive LoK (ts : List Ty) : ac1 → V → Prop
 | num (k : ac1) (n : Int) : 0 ≤ n → LoK ts (110 :: k) (.nd 110 (a8 n) 0 [])
 | txt (k x : ac1) : cX (39 :: (x ++ [39])) = true → LoK ts (116 :: k) (.nd 116 x 0 [])
 | flg (k x : ac1) : x = [121,101,115] ∨ x = [110,111] → LoK ts (102 :: k) (.nd 102 x 0 [])
 | lst (k : ac1) (ks : List V) : (∀ v ∈ ks,LoK ts k v) → LoK ts (91 :: k) (.nd 91 [] 0 ks)
 | non (k : ac1) : LoK ts (63 :: k) (.nd 63 [] 0 [])
 | opt (k : ac1) (v : V) : LoK ts k v → LoK ts (63 :: k) (.nd 63 [] 0 [v])
 | recd (k : ac1) (t : Ty) (fs : List (Fld × V)) : aT ts k = some t → t.sort = 82 → (∀ p ∈ fs,p.1 ∈ t.fields) → (∀ p ∈ fs,LoK ts p.1.kind p.2) → LoK ts k (.nd 82 [] 0 (fs.map aU))
 | enm (k : ac1) (t : Ty) (d : Fld) : aT ts k = some t → t.sort = 69 → d ∈ t.fields → LoK ts k (.nd 69 [] d.tag [])
 | uni (k : ac1) (t : Ty) (d : Fld) (v : V) : aT ts k = some t → t.sort ≠ 82 → t.sort ≠ 69 → d ∈ t.fields → LoK ts d.kind v → LoK ts k (.nd 85 [] d.tag [v])
variable {ts : List Ty} {st : Bool}
theorem qD {e : UInt8} {t : ac1} (h0 : e.toNat ≠ 0) (h1 : e.toNat ≠ 1) : cx (e :: t) = none:=by rw [cx,if_neg h0,if_neg h1]
variable {ts : List Ty}
theorem nG {f : ac1 → Option (V × ac1)} (h : ∀ s v r,f s = some (v,r) → r.length < s.length) : ∀ (m : Nat) (s : ac1) (acc : List V) {x : List V × ac1},bG f m s acc = some x → x.2.length + m ≤ s.length
 | 0,s,acc,x,e=>by simp only [bG,Option.some.injEq] at e;subst e;dsimp only;omega
 | m + 1,s,acc,x,e=>by
  unfold bG at e
  cases hf : f s with
  | none=>rw [hf] at e;cases e
  | some y =>
   rw [hf] at e
   obtain ⟨v,r⟩:=y
   have h1:=nG h m r _ e
   have h2:=h _ _ _ hf
   omega
theorem lr {f : ac1 → ac1 → Option (V × ac1)} {t : Ty} : ∀ (m : Nat) (last : Int) (s : ac1) (acc : List V) {x : List V × ac1},bM ts f t m last s acc = some x → x.2.length < s.length
 | 0,_,_,_,_,e=>by cases e
 | m + 1,last,s,acc,x,e=>by
  unfold bM at e
  cases hn : bm s with
  | none=>rw [hn] at e;cases e
  | some y =>
   rw [hn] at e
   obtain ⟨n,r⟩:=y
   have hl:=bU hn
   dsimp only at e
   split at e
   ·simp only [Option.some.injEq] at e;subst e;exact hl
   ·split at e
    ·cases e
    ·rename_i p r' hp
     have hl2:=d8 hp
     split at e
     ·cases e
     ·split at e
      ·have:=lr m n r' _ e;omega
      ·split at e
       ·cases e
       ·have:=lr m n r' _ e;omega
theorem s5 {f : ac1 → ac1 → Option (V × ac1)} {t : Ty} {s r : ac1} {v : V} (e : bT ts f t s = some (v,r)) : r.length < s.length:=by
 unfold bT at e
 split at e
 ·cases hi : bM ts f t (s.length + 1) 0 s [] with
  | none=>rw [hi] at e;cases e
  | some y=>rw [hi] at e;cases e;exact lr _ _ _ _ hi
 ·split at e
  ·cases e
  ·rename_i n q hn
   have hl:=bU hn
   split at e
   ·cases e
   ·rename_i d hd
    split at e
    ·cases e;exact hl
    ·split at e
     ·cases e
     ·rename_i p r' hp
      have hl2:=d8 hp
      cases ha : cN f d.kind p with
      | none=>rw [ha] at e;cases e
      | some w=>rw [ha] at e;cases e;omega
theorem o7 : ∀ (n : Nat) (k s : ac1) (v : V) (r : ac1),rb ts n k s = some (v,r) → r.length < s.length
 | 0,_,_,_,_,e=>by cases e
 | n + 1,k,s,v,r,e=>by
  have ih:=o7 n
  replace e : fD ts (rb ts n) k s = some (v,r):=e
  cases k with
  | nil=>cases e
  | cons c k =>
   unfold fD at e
   dsimp only at e
   split at e
   ·split at e
    ·cases e
    ·rename_i q1 q hn
     have hl:=bU hn
     split at e
     ·cases hi : bG (rb ts n k) q1.toNat q [] with
      | none=>rw [hi] at e;cases e
      | some y=>rw [hi] at e;cases e;have:=nG (ih k) _ _ _ hi;omega
     ·cases e
   ·split at e
    ·cases hb : cx s with
     | none=>rw [hb] at e;cases e
     | some y =>
      rw [hb] at e
      obtain ⟨b,q⟩:=y
      have hl : s.length = q.length + 1:=by rw [fc hb];rfl
      cases b with
      | false=>cases e;omega
      | true =>
       dsimp only at e
       cases hf : rb ts n k q with
       | none=>rw [hf] at e;cases e
       | some y=>rw [hf] at e;obtain ⟨w,q2⟩:=y;cases e;have:=ih _ _ _ _ hf;dsimp only;omega
    ·split at e
     ·exact s5 e
     ·split at e
      ·cases hn : bm s with
       | none=>rw [hn] at e;cases e
       | some y=>rw [hn] at e;obtain ⟨a,q⟩:=y;cases e;exact bU hn
      ·split at e
       ·split at e
        ·cases e
        ·rename_i p q hp
         have hl2:=d8 hp
         split at e
         ·cases e;omega
         ·cases e
       ·split at e
        ·cases hb : cx s with
         | none=>rw [hb] at e;cases e
         | some y=>rw [hb] at e;obtain ⟨b,q⟩:=y;have hl : s.length = q.length + 1:=by { rw [fc hb];rfl };cases e;dsimp only;omega
        ·cases e
theorem z7 {n : Nat} {k : ac1} : rb ts n k [] = none:=by
 cases h : rb ts n k [] with
 | none=>rfl
 | some x=>have:=o7 n k [] x.1 x.2 h;simp at this
theorem vr {n : Nat} {k s : ac1} : rb ts (n + 1) (91 :: k) s = match bm s with
      | none=>none
      | some (m,r)=>if m ≤ 20 then (bG (rb ts n k) m.toNat r []).map fun x=>(.nd 91 [] 0 x.1,x.2) else none:=by
  rw [rb];unfold fD;dsimp only;rw [if_pos dC]
  all_goals (rcases bm s with _ | ⟨b,r⟩)
  all_goals rfl
theorem vq {n : Nat} {k s : ac1} : rb ts (n + 1) (63 :: k) s = match cx s with
      | none=>none
      | some (false,r)=>some (.nd 63 [] 0 [],r)
      | some (true,r)=>(rb ts n k r).map fun x=>(.nd 63 [] 0 [x.1],x.2):=by
  rw [rb];unfold fD;dsimp only;rw [if_neg dC,if_pos dC]
  all_goals (rcases cx s with _ | ⟨b,r⟩)
  all_goals (try cases b)
  all_goals rfl
theorem wJ {n : Nat} {r s : ac1} {t : Ty} (h : aT ts (64 :: r) = some t) : rb ts (n + 1) (64 :: r) s = bT ts (rb ts n) t s:=by
 rw [rb];unfold fD;dsimp only;rw [if_neg dC,if_neg dC,h]
theorem z8 {n : Nat} {s : ac1} (h : aT ts [110] = none) : rb ts (n + 1) [110] s = (bm s).map fun x=>(.nd 110 (a8 x.1) 0 [],x.2):=by
 rw [rb];unfold fD;dsimp only;rw [if_neg dC,if_neg dC,h];dsimp only;rw [if_pos dC]
theorem z6 {n : Nat} {s : ac1} (h : aT ts [116] = none) : rb ts (n + 1) [116] s = match cg s with
          | none=>none
          | some (p,r)=>if cX (39 :: (p ++ [39])) = true then some (.nd 116 p 0 [],r) else none:=by
  rw [rb];unfold fD;dsimp only;rw [if_neg dC,if_neg dC,h];dsimp only;rw [if_neg dC,if_pos dC]
  all_goals (rcases cg s with _ | ⟨b,r⟩)
  all_goals rfl
theorem z9 {n : Nat} {s : ac1} (h : aT ts [102] = none) : rb ts (n + 1) [102] s = (cx s).map fun x=>(.nd 102 (if x.1 = true then [121,101,115] else [110,111]) 0 [],x.2):=by
 rw [rb];unfold fD;dsimp only;rw [if_neg dC,if_neg dC,h];dsimp only;rw [if_neg dC,if_neg dC,if_pos dC]
theorem nF {f : ac1 → Option (V × ac1)} (h : ∀ s v r,f s = some (v,r) → v.tot + 100 * r.length ≤ 100 * s.length) : ∀ (m : Nat) (s : ac1) (acc : List V) {x : List V × ac1},bG f m s acc = some x → V.tots x.1 + 100 * x.2.length ≤ V.tots acc + 100 * s.length
 | 0,s,acc,x,e=>by simp only [bG,Option.some.injEq] at e;subst e;exact Nat.le_refl _
 | m + 1,s,acc,x,e=>by
  unfold bG at e
  cases hf : f s with
  | none=>rw [hf] at e;cases e
  | some y =>
   rw [hf] at e
   obtain ⟨v,r⟩:=y
   have h1:=nF h m r _ e
   have h2:=h _ _ _ hf
   have e2 : V.tots (acc ++ [v]) = V.tots acc + v.tot:=by simp [gq,V.tots]
   omega
theorem lm {f : ac1 → ac1 → Option (V × ac1)} (h : ∀ k s v r,f k s = some (v,r) → v.tot + 100 * r.length ≤ 100 * s.length) {t : Ty} : ∀ (m : Nat) (last : Int) (s : ac1) (acc : List V) {x : List V × ac1},bM ts f t m last s acc = some x → V.tots x.1 + 100 * x.2.length + 100 ≤ V.tots acc + 100 * s.length
 | 0,_,_,_,_,e=>by cases e
 | m + 1,last,s,acc,x,e=>by
  unfold bM at e
  cases hn : bm s with
  | none=>rw [hn] at e;cases e
  | some y =>
   rw [hn] at e
   obtain ⟨n,r⟩:=y
   have hl:=bU hn
   dsimp only at e
   split at e
   ·simp only [Option.some.injEq] at e;subst e;dsimp only;omega
   ·split at e
    ·cases e
    ·rename_i p r' hp
     have hl2:=d8 hp
     split at e
     ·cases e
     ·split at e
      ·have:=lm h m n r' _ e;omega
      ·rename_i d hd
       split at e
       ·cases e
       ·rename_i v hv
        have h1:=lm h m n r' _ e
        have h2:=h _ _ _ _ (cL hv)
        have e2 : V.tots (acc ++ [V.nd 61 [] d.tag [v]]) = V.tots acc + (20 + v.tot):=by simp [gq,V.tots,V.tot]
        simp only [List.length_nil] at h2
        split at h1
        ·omega
        ·omega
theorem s4 {f : ac1 → ac1 → Option (V × ac1)} (h : ∀ k s v r,f k s = some (v,r) → v.tot + 100 * r.length ≤ 100 * s.length) {t : Ty} {s r : ac1} {v : V} (e : bT ts f t s = some (v,r)) : v.tot + 100 * r.length ≤ 100 * s.length:=by
 unfold bT at e
 split at e
 ·cases hi : bM ts f t (s.length + 1) 0 s [] with
  | none=>rw [hi] at e;cases e
  | some y =>
   rw [hi] at e;cases e
   have:=lm h _ _ _ _ hi
   simp only [V.tot,V.tots,List.length_nil] at this ⊢;omega
 ·split at e
  ·cases e
  ·rename_i n q hn
   have hl:=bU hn
   split at e
   ·cases e
   ·rename_i d _
    split at e
    ·cases e;simp only [V.tot,V.tots,List.length_nil];omega
    ·split at e
     ·cases e
     ·rename_i p r' hp
      have hl2:=d8 hp
      cases ha : cN f d.kind p with
      | none=>rw [ha] at e;cases e
      | some w =>
       rw [ha] at e;cases e
       have:=h _ _ _ _ (cL ha)
       simp only [V.tot,V.tots,List.length_nil] at this ⊢;omega
theorem jq : ∀ (n : Nat) (k s : ac1) (v : V) (r : ac1),rb ts n k s = some (v,r) → v.tot + 100 * r.length ≤ 100 * s.length
 | 0,_,_,_,_,e=>by cases e
 | n + 1,k,s,v,r,e=>by
  have ih:=jq n
  replace e : fD ts (rb ts n) k s = some (v,r):=e
  cases k with
  | nil=>cases e
  | cons c k =>
   unfold fD at e
   dsimp only at e
   split at e
   ·split at e
    ·cases e
    ·rename_i q1 q hn
     have hl:=bU hn
     split at e
     ·cases hi : bG (rb ts n k) q1.toNat q [] with
      | none=>rw [hi] at e;cases e
      | some y =>
       rw [hi] at e;cases e
       have:=nF (ih k) _ _ _ hi
       simp only [V.tot,V.tots,List.length_nil] at this ⊢;omega
     ·cases e
   ·split at e
    ·cases hb : cx s with
     | none=>rw [hb] at e;cases e
     | some y =>
      rw [hb] at e
      obtain ⟨b,q⟩:=y
      have hl : s.length = q.length + 1:=by rw [fc hb];rfl
      cases b with
      | false=>cases e;simp only [V.tot,V.tots,List.length_nil];omega
      | true =>
       dsimp only at e
       cases hf : rb ts n k q with
       | none=>rw [hf] at e;cases e
       | some y=>rw [hf] at e;obtain ⟨w,q2⟩:=y;cases e;have:=ih _ _ _ _ hf;simp only [V.tot,V.tots,List.length_nil];omega
    ·split at e
     ·exact s4 ih e
     ·split at e
      ·cases hn : bm s with
       | none=>rw [hn] at e;cases e
       | some y =>
        rw [hn] at e;obtain ⟨a,q⟩:=y;cases e
        have hl:=bU hn
        obtain ⟨h0,h1,_⟩:=cF hn
        have:=pz (m:=a) h1
        simp only [V.tot,V.tots];omega
      ·split at e
       ·split at e
        ·cases e
        ·rename_i p q hp
         have hl2:=d8 hp
         split at e
         ·cases e;simp only [V.tot,V.tots];omega
         ·cases e
       ·split at e
        ·cases hb : cx s with
         | none=>rw [hb] at e;cases e
         | some y =>
          rw [hb] at e;obtain ⟨b,q⟩:=y
          have hl : s.length = q.length + 1:=by rw [fc hb];rfl
          cases e
          cases b
          all_goals (simp [V.tot,V.tots];omega)
        ·cases e
theorem mz {f : ac1 → Option (V × ac1)} {m : Nat} {t r : ac1} {acc : List V} {v : V} (hf : f t = some (v,r)) : bG f (m + 1) t acc = bG f m r (acc ++ [v]):=by
 rw [bG,hf]
theorem o9 {f : ac1 → Option (V × ac1)} {m : Nat} {t : ac1} {acc : List V} (hf : f t = none) : bG f (m + 1) t acc = none:=by
 rw [bG,hf]
theorem rE {f : ac1 → ac1 → Option (V × ac1)} {ty : Ty} {m : Nat} {la : Int} {t r : ac1} {acc : List V} (h : bm t = some (0,r)) : bM ts f ty (m + 1) la t acc = some (acc,r):=by rw [bM,h];dsimp only;rw [if_pos rfl]
theorem pg {f : ac1 → ac1 → Option (V × ac1)} {ty : Ty} {m : Nat} {la : Int} {t : ac1} {acc : List V} (h : bm t = none) : bM ts f ty (m + 1) la t acc = none:=by rw [bM,h]
theorem lq {f : ac1 → ac1 → Option (V × ac1)} {ty : Ty} {m : Nat} {la n : Int} {t r : ac1} {acc : List V} (h : bm t = some (n,r)) (h0 : n ≠ 0) (hp : cg r = none) : bM ts f ty (m + 1) la t acc = none:=by rw [bM,h];dsimp only;rw [if_neg h0,hp]
theorem pf {f : ac1 → ac1 → Option (V × ac1)} {ty : Ty} {m : Nat} {la n : Int} {t r p r' : ac1} {acc : List V} (h : bm t = some (n,r)) (h0 : n ≠ 0) (hp : cg r = some (p,r')) (hl : n ≤ la) : bM ts f ty (m + 1) la t acc = none:=by rw [bM,h];dsimp only;rw [if_neg h0,hp];dsimp only;rw [if_pos hl]
theorem nI {f : ac1 → ac1 → Option (V × ac1)} {ty : Ty} {m : Nat} {la n : Int} {t r p r' : ac1} {acc : List V} (h : bm t = some (n,r)) (h0 : n ≠ 0) (hp : cg r = some (p,r')) (hl : ¬ n ≤ la) (hd : br ty.fields n = none) : bM ts f ty (m + 1) la t acc = bM ts f ty m n r' acc:=by rw [bM,h];dsimp only;rw [if_neg h0,hp];dsimp only;rw [if_neg hl,hd]
theorem pe {f : ac1 → ac1 → Option (V × ac1)} {ty : Ty} {m : Nat} {la n : Int} {t r p r' : ac1} {acc : List V} {d : Fld} (h : bm t = some (n,r)) (h0 : n ≠ 0) (hp : cg r = some (p,r')) (hl : ¬ n ≤ la) (hd : br ty.fields n = some d) (ha : cN f d.kind p = none) : bM ts f ty (m + 1) la t acc = none:=by rw [bM,h];dsimp only;rw [if_neg h0,hp];dsimp only;rw [if_neg hl,hd];dsimp only;rw [ha]
theorem pd {f : ac1 → ac1 → Option (V × ac1)} {ty : Ty} {m : Nat} {la n : Int} {t r p r' : ac1} {acc : List V} {d : Fld} {v : V} (h : bm t = some (n,r)) (h0 : n ≠ 0) (hp : cg r = some (p,r')) (hl : ¬ n ≤ la) (hd : br ty.fields n = some d) (ha : cN f d.kind p = some v) : bM ts f ty (m + 1) la t acc = bM ts f ty m n r' (if v.out = bI ts d then acc else acc ++ [.nd 61 [] d.tag [v]]):=by rw [bM,h];dsimp only;rw [if_neg h0,hp];dsimp only;rw [if_neg hl,hd];dsimp only;rw [ha]
variable {G : Gh}
def kQ (n : Int) : Value:=if 0 ≤ n ∧ n ≤ 999999 then Tu [S (a7 n),Bo true] else Tu [S [],Bo false]
theorem wr {n : Int} : aC ac0 172 [I n] G (· = kQ n):=by
 refine jE [(0,_)] Tryz.func172 Tryz.ntmps172 fun B hB=>?_
 repeat' (first | refine jR ?_ | (refine jo ?_;first | refine aH F ?_ | refine aw F ?_) | refine eD F F (fun _=>?_) (fun _=>?_) | refine ac F F ?_ | refine er F (fun _=>?_) (fun _=>?_))
 ·refine jY (vs:=[_,_]) ?_
  rw [dS,kQ,if_neg oM]
 ·refine jY (vs:=[_,_]) ?_
  rw [dS,kQ,if_neg oM]
 ·refine Nx.addNil 5 1 ?_
  refine aR (ι:=Value × ac1 × Int) (fun i=>0 ≤ i.2.2 ∧ i.2.2 ≤ 999999 ∧ i.2.1 ++ a7 i.2.2 = a7 n ∧ i.2.1.length ≤ 100) (fun i=>[(0,I i.2.2),(4,i.1)]) (fun _=>G) (fun i=>[.acc i.1 5 1 i.2.1.length (cz i.2.1)]) (fun i=>i.2.2.toNat) (aJ,[],n) ?_ tU F aW (fun i hI=>?_)
  ·dsimp only;refine ⟨?_,?_,?_,?_⟩ <;> first | omega | simp
  ·obtain ⟨v,l,m⟩:=i
   dsimp only at hI ⊢
   repeat' (first | refine jM ?_ | (refine jo ?_;first | refine jF fun _=>?_ | refine nn F F F F F F F F oM fun _=>?_ | refine jV (abS F (by (repeat (first | exact BL.nil | apply BL.cons | apply BL.ap));done)) ?_) | refine er F (fun _=>?_) (fun _=>?_))
   ·have h1:=ig (n:=m) oM
    (refine aX (_,l ++ [u8 (m % 128 + 128)],m / 128) ?_ ?_ tU F (by (dsimp only;simp only [wB,List.length_append,List.length_cons,List.length_nil,Nat.zero_add];repeat (first | exact List.nil_sublist _ | apply List.Sublist.cons_cons))))
    ·refine ⟨?_,?_,?_,?_⟩ <;> dsimp only
     ·omega
     ·omega
     ·rw [← hI.2.2.1,h1,Int.add_comm];simp
     ·have:=cb (n:=n) oM
      rw [← hI.2.2.1,h1] at this
      simp at this ⊢;omega
    ·dsimp only;omega
   ·refine jY (vs:=[_,_]) ?_
    rw [dS,kQ,if_pos oM,← hI.2.2.1,fy oM hI.1]
theorem gR {n : Int} (h : 0 ≤ n ∧ n ≤ 999999) : aC ac0 136 [I n] G (· = S (a7 n)):=by
 have e : kQ n = Tu [S (a7 n),Bo true]:=by rw [kQ,if_pos h]
 have cx_NumPut : aC ac0 172 [I n] G (· = Tu [S (a7 n),Bo true]):=by rw [← e];exact wr
 refine jE [(0,_)] Tryz.func136 Tryz.ntmps136 fun B hB=>?_
 repeat' (first | refine jR ?_ | (refine jo ?_;refine ab F F F cx_NumPut F ?_))
 refine jY (vs:=[_]) ?_
 rfl
theorem qj {s : ac1} (h : s.length ≤ 999999) : aC ac0 137 [S s] G (· = S (a7 s.length ++ s)):=by
 have:=cb (n:=s.length) oM
 refine jE [(0,_)] Tryz.func137 Tryz.ntmps137 fun B hB=>?_
 repeat' (first | refine jM ?_ | (refine jo ?_;refine ab F F F (gR oM) F ?_))
 refine jY (vs:=[_]) ?_
 rfl
theorem uP {s : ac1} (h : s.length ≤ 9000000000000000000) : aC ac0 35 [S s] G (· = I (dy s)):=by
 refine jE [(0,_)] Tryz.func35 Tryz.ntmps35 fun B hB=>?_
 repeat' (refine jR ?_)
 refine aR (ι:=Nat × Int) (fun i=>i.1 ≤ s.length ∧ 0 ≤ i.2 ∧ i.2 < 9973 ∧ pQ i.2 (s.drop i.1) = dy s) (fun i=>[(0,S s),(3,I i.2),(6,I s.length),(7,I i.1)]) (fun _=>G) (fun i=>[]) (fun i=>s.length - i.1) (0,1) ?_ tU F aW (fun i hI=>?_)
 ·dsimp only;refine ⟨?_,?_,?_,?_⟩ <;> first | omega | rfl
 ·obtain ⟨i,m⟩:=i
  dsimp only at hI ⊢
  have:=ky s i
  repeat' (first | refine jX ?_ | refine er F (fun _=>?_) (fun _=>?_))
  ·obtain ⟨c,h1,h2⟩:=f7 (l:=s) (i:=i) oM
   refine aX (i + 1,(m * 31 + bt s i) % 9973) ?_ ?_ tU F aW
   ·refine ⟨?_,?_,?_,?_⟩ <;> dsimp only
    ·omega
    ·omega
    ·omega
    ·rw [← hI.2.2.2,h1,h2];rfl
   ·dsimp only;omega
  ·refine jY (vs:=[_]) ?_
   have : i = s.length:=oM
   rw [aB,← hI.2.2.2,this,List.drop_length];rfl
theorem jh {s : ac1} (h : s.length ≤ 9000000000000000000) : aC ac0 29 [S s] G (· = I (dy s)):=by
 refine jE [(0,_)] Tryz.func29 Tryz.ntmps29 fun B hB=>?_
 repeat' (refine jR ?_)
 refine aR (ι:=Nat × Int) (fun i=>i.1 ≤ s.length ∧ 0 ≤ i.2 ∧ i.2 < 9973 ∧ pQ i.2 (s.drop i.1) = dy s) (fun i=>[(0,S s),(3,I i.2),(4,I i.1)]) (fun _=>G) (fun i=>[]) (fun i=>s.length - i.1) (0,1) ?_ tU F aW (fun i hI=>?_)
 ·dsimp only;refine ⟨?_,?_,?_,?_⟩ <;> first | omega | rfl
 ·obtain ⟨i,m⟩:=i
  dsimp only at hI ⊢
  have:=ky s i
  repeat' (first | refine jX ?_ | refine er F (fun _=>?_) (fun _=>?_))
  ·obtain ⟨c,h1,h2⟩:=f7 (l:=s) (i:=i) oM
   refine aX (i + 1,(31 * m + bt s i) % 9973) ?_ ?_ tU F aW
   ·refine ⟨?_,?_,?_,?_⟩ <;> dsimp only
    ·omega
    ·omega
    ·omega
    ·rw [← hI.2.2.2,h1,h2,Int.mul_comm];rfl
   ·dsimp only;omega
  ·refine jY (vs:=[_]) ?_
   have : i = s.length:=oM
   rw [aB,← hI.2.2.2,this,List.drop_length];rfl
theorem te {s : ac1} (h : s.length ≤ 9000000000000000000) : aC ac0 139 [S s] G (· = Tu [S (kV s),Bo (vN s)]):=by
 have h1:=e9 s
 have h2:=nY s
 have h3 : s.length ≤ 100 → (a7 s.length).length ≤ 3:=fun h=>cb oM
 refine jE [(0,_)] Tryz.func139 Tryz.ntmps139 fun B hB=>?_
 repeat' (first | refine jX ?_ | (refine jo ?_;first | refine ab F F F (qj oM) F ?_ | refine ab F F F (uP ‹_›) F ?_ | refine ab F F F (gR oM) F ?_) | refine er F (fun _=>?_) (fun _=>?_))
 ·refine jY (vs:=[_,_]) ?_
  exact abV oM
 ·refine jY (vs:=[_,_]) ?_
  rw [dS,← aaB oM]
  simp [frame]
  rfl
def ngV (o : Option (Int × ac1)) : Value:=match o with
 | some (n,r)=>Tu [I n,S r,Bo true]
 | none=>Tu [I 0,S [],Bo false]
def tkV (o : Option (ac1 × ac1)) : Value:=match o with
 | some (p,r)=>Tu [S p,S r,Bo true]
 | none=>Tu [S [],S [],Bo false]
def fX : Nat → Nat → ac1 → Option (Int × ac1)
 | 0,_,s=>bm s
 | 1,m,s=>gm m s
 | 2,m,s=>fZ m s
 | _,_,_=>none
theorem qH : ∀ {i m : Nat},fX i m [] = none
 | 0,_=>rfl
 | 1,_=>rfl
 | 2,_=>rfl
 | _ + 3,_=>rfl
def dk : Nat → Int
 | 0=>1
 | 1=>128
 | 2=>16384
 | _=>2097152
def j3 : Nat → Nat
 | 0=>1
 | 1=>128
 | 2=>16384
 | _=>2097152
theorem qL {m : Nat} {c : UInt8} {r : ac1} (h : c.toNat < 128) : fX 0 m (c :: r) = some ((c.toNat : Int),r):=by show bm (c :: r) = _;rw [bm,if_pos h]
theorem qO {m : Nat} {c : UInt8} {r : ac1} (h : ¬ c.toNat < 128) : fX 0 m (c :: r) = fX 1 (c.toNat % 128) r:=by show bm (c :: r) = gm (c.toNat % 128) r;rw [bm,if_neg h]
theorem nh {i m : Nat} {c : UInt8} {r : ac1} (h : c.toNat = 0) (hi : 1 ≤ i) : fX i m (c :: r) = none:=by
 match i,hi with
 | 1,_=>show gm m (c :: r) = none;rw [gm,if_pos oM,if_pos h]
 | 2,_=>show fZ m (c :: r) = none;rw [fZ,if_pos oM,if_pos (.inl h)]
 | _ + 3,_=>rfl
theorem qJ {m : Nat} {c : UInt8} {r : ac1} (h : c.toNat < 128) (h0 : c.toNat ≠ 0) : fX 1 m (c :: r) = some (((m + c.toNat * 128 : Nat) : Int),r):=by show gm m (c :: r) = _;rw [gm,if_pos h,if_neg h0]
theorem qN {m : Nat} {c : UInt8} {r : ac1} (h : ¬ c.toNat < 128) : fX 1 m (c :: r) = fX 2 (m + c.toNat % 128 * 128) r:=by show gm m (c :: r) = fZ (m + c.toNat % 128 * 128) r;rw [gm,if_neg h]
theorem qI {m : Nat} {c : UInt8} {r : ac1} (h : c.toNat < 128) (h0 : c.toNat ≠ 0) (hm : m + c.toNat * 16384 ≤ 999999) : fX 2 m (c :: r) = some (((m + c.toNat * 16384 : Nat) : Int),r):=by show fZ m (c :: r) = _;rw [fZ,if_pos h,if_neg oM]
theorem qP {m : Nat} {c : UInt8} {r : ac1} (h : c.toNat < 128) (hm : ¬ m + c.toNat * 16384 ≤ 999999) : fX 2 m (c :: r) = none:=by show fZ m (c :: r) = _;rw [fZ,if_pos h,if_pos oM]
theorem qM {m : Nat} {c : UInt8} {r : ac1} (h : ¬ c.toNat < 128) : fX 2 m (c :: r) = none:=by show fZ m (c :: r) = _;rw [fZ,if_neg h]
theorem eZ {s : ac1} (hs : s.length ≤ 1000000) : aC ac0 71 [S s] G (· = ngV (bm s)):=by
 refine jE [(0,_)] Tryz.func71 Tryz.ntmps71 fun B hB=>?_
 repeat' (refine jR ?_)
 refine aR (ι:=Nat × Nat) (fun q=>(q.1 ≤ s.length ∧ q.1 ≤ 3) ∧ q.2 < j3 q.1 ∧ bm s = fX q.1 q.2 (s.drop q.1)) (fun q=>[(0,S s),(5,I q.2),(6,I (dk q.1)),(7,I q.1)]) (fun _=>G) (fun q=>[]) (fun q=>s.length - q.1) (0,0) ?_ tU F aW (fun q Hq=>?_)
 ·exact ⟨⟨Nat.zero_le _,by decide⟩,by decide,F⟩
 obtain ⟨i,m⟩:=q
 dsimp only at Hq ⊢
 obtain ⟨⟨hi0,hi3⟩,hm,hng⟩:=Hq
 by_cases hi : i < s.length
 case neg =>
  have hno : bm s = none:=by rw [hng,List.drop_of_length_le oM];exact qH
  rw [hno]
  repeat' (first | refine jR ?_ | (refine jo ?_;refine aw F ?_) | refine aj F F (aA oM) ?_ | refine ad F F ?_)
  all_goals refine jY (vs:=[_,_,_]) ?_
  all_goals rfl
 by_cases h3 : i = 3
 ·subst h3
  have hno : bm s = none:=by rw [hng];rfl
  rw [hno]
  repeat' (first | refine jR ?_ | (refine jo ?_;refine aH F ?_) | refine ax F F (ar oM) ?_ | refine ad F F ?_)
  all_goals refine jY (vs:=[_,_,_]) ?_
  all_goals rfl
 obtain ⟨c,hc1,hc2⟩:=f7 hi
 rw [hc1] at hng
 have hc3 : bt s ((i : Int).toNat) = c.toNat:=hc2
 have hcl:=c.toNat_lt
 have hdl : s.drop ((i : Int) + 1).toNat = s.drop (i + 1):=by congr 1
 obtain rfl | rfl | rfl : i = 0 ∨ i = 1 ∨ i = 2:=oM
 ·have hm : m < 1:=hm
  rw [show dk 0 = 1 from rfl]
  by_cases h1 : c.toNat < 128
  ·rw [qL h1] at hng
   rw [hng]
   repeat' (first | refine jM ?_ | (refine jo ?_;first | refine aH F ?_ | refine aw F ?_) | refine ax F F (ar oM) ?_ | refine aj F F F ?_ | (refine ac F (by first | rfl | (refine decide_eq_true ?_;(omega))) ?_) | refine ad F (aA oM) ?_ | (refine ai (am (id:=11) _ (fun _ h=>h) ah ?_);refine jW 0 [0,1,2,3,4,5,6,7] (aa 8 255) ?_;refine jQ ?_))
   all_goals (try rw [hdl])
   all_goals refine jY (vs:=[_,_,_]) ?_
   all_goals (rw [hc3];exact (aF _ _ _).trans (congrArg (fun z : Int=>Tu [I z,S (s.drop (0 + 1)),Bo true]) oM))
  ·rw [qO h1] at hng
   repeat' (first | refine jM ?_ | (refine jo ?_;refine aH F ?_) | refine ax F F (ar oM) ?_ | refine ac F F ?_ | refine ad F (aA oM) ?_)
   refine Nx.re (d:=5) (v':=I ((c.toNat % 128 : Nat) : Int)) F (congrArg (Value.int .i64) (by rw [hc3];omega)) ?_
   refine Nx.re (d:=6) (v':=I (dk 1)) F (congrArg (Value.int .i64) F) ?_
   refine Nx.re (d:=7) (v':=I ((1 : Nat) : Int)) F (congrArg (Value.int .i64) F) ?_
   exact aX (1,c.toNat % 128) ⟨⟨oM,oM⟩,by show _ < _;simp only [j3];omega,hng⟩ oM tU rfl aW
 ·have hm : m < 128:=hm
  rw [show dk 1 = 128 from rfl]
  by_cases h1 : c.toNat < 128
  ·by_cases h0 : c.toNat = 0
   ·rw [nh h0 dC] at hng
    rw [hng]
    repeat' (first | refine jM ?_ | (refine jo ?_;refine aH F ?_) | (refine ax F F (by first | rfl | (refine decide_eq_true ?_;(omega))) ?_) | (refine ac F (by first | rfl | (refine decide_eq_true ?_;(omega))) ?_))
    all_goals refine jY (vs:=[_,_,_]) ?_
    all_goals rfl
   rw [qJ h1 h0] at hng
   rw [hng]
   repeat' (first | refine jM ?_ | (refine jo ?_;first | refine aH F ?_ | refine aw F ?_) | (refine ax F F (by first | rfl | (refine decide_eq_true ?_;(omega))) ?_) | refine aj F F (aA oM) ?_ | (refine ac F (by first | rfl | (refine decide_eq_true ?_;(omega))) ?_) | refine ad F (aA oM) ?_ | (refine ai (am (id:=11) _ (fun _ h=>h) ah ?_);refine jW 0 [0,1,2,3,4,5,6,7] (aa 8 255) ?_;refine jQ ?_))
   all_goals (try rw [hdl])
   all_goals refine jY (vs:=[_,_,_]) ?_
   all_goals (rw [hc3];exact (aF _ _ _).trans (congrArg (fun z : Int=>Tu [I z,S (s.drop (1 + 1)),Bo true]) oM))
  ·rw [qN h1] at hng
   repeat' (first | refine jM ?_ | (refine jo ?_;refine aH F ?_) | refine ax F F (ar oM) ?_ | refine ac F F ?_ | refine ad F (aA oM) ?_)
   refine Nx.re (d:=5) (v':=I ((m + c.toNat % 128 * 128 : Nat) : Int)) F (congrArg (Value.int .i64) (by rw [hc3];omega)) ?_
   refine Nx.re (d:=6) (v':=I (dk 2)) F (congrArg (Value.int .i64) (by show _ = (16384 : Int);omega)) ?_
   refine Nx.re (d:=7) (v':=I ((2 : Nat) : Int)) F (congrArg (Value.int .i64) F) ?_
   exact aX (2,m + c.toNat % 128 * 128) ⟨⟨oM,oM⟩,by show _ < _;simp only [j3];omega,hng⟩ oM tU rfl aW
 ·have hm : m < 16384:=hm
  rw [show dk 2 = 16384 from rfl]
  by_cases h1 : c.toNat < 128
  ·by_cases h0 : c.toNat = 0
   ·rw [nh h0 dC] at hng
    rw [hng]
    repeat' (first | refine jM ?_ | (refine jo ?_;refine aH F ?_) | (refine ax F F (by first | rfl | (refine decide_eq_true ?_;(omega))) ?_) | (refine ac F (by first | rfl | (refine decide_eq_true ?_;(omega))) ?_))
    all_goals refine jY (vs:=[_,_,_]) ?_
    all_goals rfl
   by_cases hbig : m + c.toNat * 16384 ≤ 999999
   case neg =>
    rw [qP h1 hbig] at hng
    rw [hng]
    repeat' (first | refine jM ?_ | (refine jo ?_;first | refine aH F ?_ | refine aw F ?_) | (refine ax F F (by first | rfl | (refine decide_eq_true ?_;(omega))) ?_) | refine aj F F (aA oM) ?_ | (refine ac F (by first | rfl | (refine decide_eq_true ?_;(omega))) ?_))
    all_goals refine jY (vs:=[_,_,_]) ?_
    all_goals rfl
   rw [qI h1 h0 hbig] at hng
   rw [hng]
   repeat' (first | refine jM ?_ | (refine jo ?_;first | refine aH F ?_ | refine aw F ?_) | (refine ax F F (by first | rfl | (refine decide_eq_true ?_;(omega))) ?_) | refine aj F F (aA oM) ?_ | (refine ac F (by first | rfl | (refine decide_eq_true ?_;(omega))) ?_) | refine ad F (aA oM) ?_ | (refine ai (am (id:=11) _ (fun _ h=>h) ah ?_);refine jW 0 [0,1,2,3,4,5,6,7] (aa 8 255) ?_;refine jQ ?_))
   all_goals (try rw [hdl])
   all_goals refine jY (vs:=[_,_,_]) ?_
   all_goals (rw [hc3];exact (aF _ _ _).trans (congrArg (fun z : Int=>Tu [I z,S (s.drop (2 + 1)),Bo true]) oM))
  ·rw [qM h1] at hng
   repeat' (first | refine jM ?_ | (refine jo ?_;refine aH F ?_) | refine ax F F (ar oM) ?_ | refine ac F F ?_ | refine ad F (aA oM) ?_)
   refine Nx.re (d:=5) (v':=I ((m + c.toNat % 128 * 16384 : Nat) : Int)) F (congrArg (Value.int .i64) (by rw [hc3];omega)) ?_
   refine Nx.re (d:=6) (v':=I (dk 3)) F (congrArg (Value.int .i64) (by show _ = (2097152 : Int);omega)) ?_
   refine Nx.re (d:=7) (v':=I ((3 : Nat) : Int)) F (congrArg (Value.int .i64) F) ?_
   exact aX (3,m + c.toNat % 128 * 16384) ⟨⟨oM,oM⟩,by show _ < _;simp only [j3];omega,hng⟩ oM tU rfl aW
theorem mX {s : ac1} (hs : s.length ≤ 1000000) : aC ac0 34 [S s] G (· = ngV (bm s)):=by
 refine jE [(0,_)] Tryz.func34 Tryz.ntmps34 fun B hB=>?_
 repeat' (refine jR ?_)
 refine aR (ι:=Nat × Nat) (fun q=>(q.1 ≤ s.length ∧ q.1 ≤ 3) ∧ q.2 < j3 q.1 ∧ bm s = fX q.1 q.2 (s.drop q.1)) (fun q=>[(0,S s),(5,I q.2),(6,I (dk q.1)),(7,I q.1)]) (fun _=>G) (fun q=>[]) (fun q=>s.length - q.1) (0,0) ?_ tU F aW (fun q Hq=>?_)
 ·exact ⟨⟨Nat.zero_le _,by decide⟩,by decide,F⟩
 obtain ⟨i,m⟩:=q
 dsimp only at Hq ⊢
 obtain ⟨⟨hi0,hi3⟩,hm,hng⟩:=Hq
 by_cases hi : i < s.length
 case neg =>
  have hno : bm s = none:=by rw [hng,List.drop_of_length_le oM];exact qH
  rw [hno]
  repeat' (first | refine jR ?_ | (refine jo ?_;refine aw F ?_) | refine aj F F (aA oM) ?_ | refine ad F F ?_)
  all_goals refine jY (vs:=[_,_,_]) ?_
  all_goals rfl
 by_cases h3 : i = 3
 ·subst h3
  have hno : bm s = none:=by rw [hng];rfl
  rw [hno]
  repeat' (first | refine jR ?_ | (refine jo ?_;refine aH F ?_) | refine ax F F (ar oM) ?_ | refine ad F F ?_)
  all_goals refine jY (vs:=[_,_,_]) ?_
  all_goals rfl
 obtain ⟨c,hc1,hc2⟩:=f7 hi
 rw [hc1] at hng
 have hc3 : bt s ((i : Int).toNat) = c.toNat:=hc2
 have hcl:=c.toNat_lt
 have hdl : s.drop ((i : Int) + 1).toNat = s.drop (i + 1):=by congr 1
 obtain rfl | rfl | rfl : i = 0 ∨ i = 1 ∨ i = 2:=oM
 ·have hm : m < 1:=hm
  rw [show dk 0 = 1 from rfl]
  by_cases h1 : c.toNat < 128
  ·rw [qL h1] at hng
   rw [hng]
   repeat' (first | refine jM ?_ | (refine jo ?_;first | refine aH F ?_ | refine aw F ?_) | refine ax F F (ar oM) ?_ | refine aj F F F ?_ | (refine ac F (by first | rfl | (refine decide_eq_true ?_;(omega))) ?_) | refine ad F (aA oM) ?_ | (refine ai (am (id:=11) _ (fun _ h=>h) ah ?_);refine jW 0 [0,1,2,3,4,5,6,7] (aa 8 255) ?_;refine jQ ?_))
   all_goals (try rw [hdl])
   all_goals refine jY (vs:=[_,_,_]) ?_
   all_goals (rw [hc3];exact (aF _ _ _).trans (congrArg (fun z : Int=>Tu [I z,S (s.drop (0 + 1)),Bo true]) oM))
  ·rw [qO h1] at hng
   repeat' (first | refine jM ?_ | (refine jo ?_;refine aH F ?_) | refine ax F F (ar oM) ?_ | refine ac F F ?_ | refine ad F (aA oM) ?_)
   refine Nx.re (d:=5) (v':=I ((c.toNat % 128 : Nat) : Int)) F (congrArg (Value.int .i64) (by rw [hc3];omega)) ?_
   refine Nx.re (d:=6) (v':=I (dk 1)) F (congrArg (Value.int .i64) F) ?_
   refine Nx.re (d:=7) (v':=I ((1 : Nat) : Int)) F (congrArg (Value.int .i64) F) ?_
   exact aX (1,c.toNat % 128) ⟨⟨oM,oM⟩,by show _ < _;simp only [j3];omega,hng⟩ oM tU rfl aW
 ·have hm : m < 128:=hm
  rw [show dk 1 = 128 from rfl]
  by_cases h1 : c.toNat < 128
  ·by_cases h0 : c.toNat = 0
   ·rw [nh h0 dC] at hng
    rw [hng]
    repeat' (first | refine jM ?_ | (refine jo ?_;refine aH F ?_) | (refine ax F F (by first | rfl | (refine decide_eq_true ?_;(omega))) ?_) | (refine ac F (by first | rfl | (refine decide_eq_true ?_;(omega))) ?_))
    all_goals refine jY (vs:=[_,_,_]) ?_
    all_goals rfl
   rw [qJ h1 h0] at hng
   rw [hng]
   repeat' (first | refine jM ?_ | (refine jo ?_;first | refine aH F ?_ | refine aw F ?_) | (refine ax F F (by first | rfl | (refine decide_eq_true ?_;(omega))) ?_) | refine aj F F (aA oM) ?_ | (refine ac F (by first | rfl | (refine decide_eq_true ?_;(omega))) ?_) | refine ad F (aA oM) ?_ | (refine ai (am (id:=11) _ (fun _ h=>h) ah ?_);refine jW 0 [0,1,2,3,4,5,6,7] (aa 8 255) ?_;refine jQ ?_))
   all_goals (try rw [hdl])
   all_goals refine jY (vs:=[_,_,_]) ?_
   all_goals (rw [hc3];exact (aF _ _ _).trans (congrArg (fun z : Int=>Tu [I z,S (s.drop (1 + 1)),Bo true]) oM))
  ·rw [qN h1] at hng
   repeat' (first | refine jM ?_ | (refine jo ?_;refine aH F ?_) | refine ax F F (ar oM) ?_ | refine ac F F ?_ | refine ad F (aA oM) ?_)
   refine Nx.re (d:=5) (v':=I ((m + c.toNat % 128 * 128 : Nat) : Int)) F (congrArg (Value.int .i64) (by rw [hc3];omega)) ?_
   refine Nx.re (d:=6) (v':=I (dk 2)) F (congrArg (Value.int .i64) (by show _ = (16384 : Int);omega)) ?_
   refine Nx.re (d:=7) (v':=I ((2 : Nat) : Int)) F (congrArg (Value.int .i64) F) ?_
   exact aX (2,m + c.toNat % 128 * 128) ⟨⟨oM,oM⟩,by show _ < _;simp only [j3];omega,hng⟩ oM tU rfl aW
 ·have hm : m < 16384:=hm
  rw [show dk 2 = 16384 from rfl]
  by_cases h1 : c.toNat < 128
  ·by_cases h0 : c.toNat = 0
   ·rw [nh h0 dC] at hng
    rw [hng]
    repeat' (first | refine jM ?_ | (refine jo ?_;refine aH F ?_) | (refine ax F F (by first | rfl | (refine decide_eq_true ?_;(omega))) ?_) | (refine ac F (by first | rfl | (refine decide_eq_true ?_;(omega))) ?_))
    all_goals refine jY (vs:=[_,_,_]) ?_
    all_goals rfl
   by_cases hbig : m + c.toNat * 16384 ≤ 999999
   case neg =>
    rw [qP h1 hbig] at hng
    rw [hng]
    repeat' (first | refine jM ?_ | (refine jo ?_;first | refine aH F ?_ | refine aw F ?_) | (refine ax F F (by first | rfl | (refine decide_eq_true ?_;(omega))) ?_) | refine aj F F (aA oM) ?_ | (refine ac F (by first | rfl | (refine decide_eq_true ?_;(omega))) ?_))
    all_goals refine jY (vs:=[_,_,_]) ?_
    all_goals rfl
   rw [qI h1 h0 hbig] at hng
   rw [hng]
   repeat' (first | refine jM ?_ | (refine jo ?_;first | refine aH F ?_ | refine aw F ?_) | (refine ax F F (by first | rfl | (refine decide_eq_true ?_;(omega))) ?_) | refine aj F F (aA oM) ?_ | (refine ac F (by first | rfl | (refine decide_eq_true ?_;(omega))) ?_) | refine ad F (aA oM) ?_ | (refine ai (am (id:=11) _ (fun _ h=>h) ah ?_);refine jW 0 [0,1,2,3,4,5,6,7] (aa 8 255) ?_;refine jQ ?_))
   all_goals (try rw [hdl])
   all_goals refine jY (vs:=[_,_,_]) ?_
   all_goals (rw [hc3];exact (aF _ _ _).trans (congrArg (fun z : Int=>Tu [I z,S (s.drop (2 + 1)),Bo true]) oM))
  ·rw [qM h1] at hng
   repeat' (first | refine jM ?_ | (refine jo ?_;refine aH F ?_) | refine ax F F (ar oM) ?_ | refine ac F F ?_ | refine ad F (aA oM) ?_)
   refine Nx.re (d:=5) (v':=I ((m + c.toNat % 128 * 16384 : Nat) : Int)) F (congrArg (Value.int .i64) (by rw [hc3];omega)) ?_
   refine Nx.re (d:=6) (v':=I (dk 3)) F (congrArg (Value.int .i64) (by show _ = (2097152 : Int);omega)) ?_
   refine Nx.re (d:=7) (v':=I ((3 : Nat) : Int)) F (congrArg (Value.int .i64) F) ?_
   exact aX (3,m + c.toNat % 128 * 16384) ⟨⟨oM,oM⟩,by show _ < _;simp only [j3];omega,hng⟩ oM tU rfl aW
theorem oE {s : ac1} (hs : s.length ≤ 1000000) : aC ac0 38 [S s] G (· = tkV (cg s)):=by
 have cx_ng0:=eZ (G:=G) (s:=s) hs
 unfold cg
 cases hg : bm s with
 | none =>
  rw [hg] at cx_ng0
  have cx_ng : aC ac0 71 [S s] G (· = Tu [I 0,S [],Bo false]):=cx_ng0
  refine jE [(0,_)] Tryz.func38 Tryz.ntmps38 fun B hB=>?_
  repeat' (first | refine jR ?_ | (refine jo ?_;first | refine aH F ?_ | refine ab F F F cx_ng F ?_) | refine ax F F F ?_ | refine ac F F ?_)
  all_goals refine jY (vs:=[_,_,_]) ?_
  all_goals rfl
 | some z =>
  obtain ⟨n,r⟩:=z
  obtain ⟨h0,h1,_⟩:=cF hg
  have hl:=bU hg
  rw [hg] at cx_ng0
  have cx_ng : aC ac0 71 [S s] G (· = Tu [I n,S r,Bo true]):=cx_ng0
  dsimp only
  by_cases hb : n.toNat ≤ r.length
  ·rw [if_pos hb]
   refine jE [(0,_)] Tryz.func38 Tryz.ntmps38 fun B hB=>?_
   repeat' (first | refine jR ?_ | (refine jo ?_;first | refine aw F ?_ | refine ab F F F cx_ng F ?_) | refine aj F F F ?_ | refine ad F (aA oM) ?_ | (refine ai (am (id:=4) _ (fun _ h=>h) ah ?_);refine jW 0 [0,1,2,3,4,5,6,7,8] (aa 9 511) ?_;refine jQ ?_))
   all_goals refine jY (vs:=[_,_,_]) ?_
   all_goals rfl
  ·rw [if_neg hb]
   refine jE [(0,_)] Tryz.func38 Tryz.ntmps38 fun B hB=>?_
   repeat' (first | refine jR ?_ | (refine jo ?_;first | refine aw F ?_ | refine ab F F F cx_ng F ?_) | refine aj F F F ?_ | refine ac F (ar oM) ?_)
   all_goals refine jY (vs:=[_,_,_]) ?_
   all_goals rfl
theorem wz {ts : List Ty} {k s : ac1} {u : V} {t : ac1} {N : Nat} (hN : 12 ≤ N) (hl : s.length ≤ 400) (h : rd ts N k s = some (u,t)) : bV ts k s = if t = [] ∧ V.deep u ≤ 12 then some u else none:=by
 unfold bV
 rw [if_pos hl]
 cases h12 : rd ts 12 k s with
 | none =>
  dsimp only
  rw [if_neg]
  rintro ⟨_,hd⟩
  have:=xL _ 12 k s _ h hd
  rw [h12] at this;cases this
 | some x =>
  have h1:=xJ (m:=N) hN h12
  rw [h] at h1
  have hd:=iV _ _ _ _ h12
  obtain rfl:=Option.some.inj h1
  dsimp only at hd ⊢
  cases t with
  | nil=>dsimp only;rw [if_pos ⟨rfl,hd⟩]
  | cons c t=>dsimp only;rw [if_neg (fun h=>by cases h.1)]
theorem wA {ts : List Ty} {k s : ac1} {N : Nat} (hN : 12 ≤ N) (hl : s.length ≤ 400) (h : rd ts N k s = none) : bV ts k s = none:=by
 unfold bV
 rw [if_pos hl]
 cases h12 : rd ts 12 k s with
 | none=>rfl
 | some x=>rw [xJ (m:=N) hN h12] at h;cases h
theorem qk {b : Nat} {qs : List co} {k s : ac1} (hS : ScI G b qs) (hw : SchW (ag qs)) (hk : aE (ag qs) k = true) (hs : s.length ≤ 10000000) :
  bi ac0 97 [Pt b 0,Ag (cS k),S s] G (fun v G'=>(bV (ag qs) k s = none ∧ v = Tu [zP,Bo false]) ∨ ∃ u c,bV (ag qs) k s = some u ∧ v = Tu [Ag (bx c),Bo true] ∧ V.rep G' u c):=by
 unfold cS
 by_cases hl : s.length ≤ 400
 case neg =>
  have hno : bV (ag qs) k s = none:=by unfold bV;rw [if_neg hl]
  refine jB [(0,_),(1,_),(2,_)] Tryz.func97 Tryz.ntmps97 fun B hok hB hW=>?_
  repeat' (first | refine jR ?_ | (refine jo ?_;first | refine jO fun _=>?_ | refine jL fun _=>?_ | refine jV (an F F) ?_ | refine jC F F F ?_) | refine ac F (ar oM) ?_)
  all_goals refine jZ (vs:=[_,_]) F ⟨av F F F F,F,trivial⟩ F ⟨Gh.le.refl _,F,?_⟩
  all_goals exact .inl ⟨hno,F⟩
 obtain ⟨N,hN⟩ : ∃ N,s.length + 12 ≤ N:=⟨_,Nat.le_refl _⟩
 have hN2 : 12 ≤ N:=oM
 have hV:=rp (sc:=b) hw N
 have cy_vl : ∀ {r : Nat},dw ac0 133 [Pt r 0,Ag (cS k)] G [dX r b s false] (ir (rd (ag qs) N k) r b s false):=fun {r}=>hV G r k s false hS hk oM oM
 refine jB [(0,_),(1,_),(2,_)] Tryz.func97 Tryz.ntmps97 fun B hok hB hW=>?_
 repeat' (first | refine jR ?_ | (refine jo ?_;first | refine jO fun _=>?_ | refine jL fun _=>?_ | refine jV (an F F) ?_ | refine aN F ?_) | refine ad F (aA oM) ?_)
 refine jo ?_
 rename_i r
 refine dZ F F F (cy_vl (r:=r)) F ?_
 rintro _ G1 _ hle ⟨u1,c1,t1,b1,rfl,hrep,rfl,hP⟩
 dsimp only [zA,fA]
 obtain ⟨hPl,hP0,hP1⟩:=hP
 cases b1 with
 | true =>
  have hno : bV (ag qs) k s = none:=wA hN2 hl (by rcases (hP1 rfl).1 with h | h;cases h;exact h)
  repeat' (first | refine jR ?_ | (refine jo ?_;first | refine jL fun _=>?_ | refine jV (an F F) ?_ | refine jC F F F ?_ | refine ak F ?_ | refine aH F ?_) | refine ax F F F ?_ | refine ac F F ?_)
  all_goals refine jZ (vs:=[_,_]) F ⟨av F F F F,F,trivial⟩ F ⟨hle,F,?_⟩
  all_goals exact .inl ⟨hno,F⟩
 | false =>
  have hrd:=(hP0 rfl).2
  have hof:=wz hN2 hl hrd
  have htt:=iB _ _ _ _ hrd
  dsimp only at htt
  by_cases ht : t1 = []
  case neg =>
   have hno : bV (ag qs) k s = none:=by rw [hof,if_neg (fun h=>ht h.1)]
   repeat' (first | refine jR ?_ | (refine jo ?_;first | refine jL fun _=>?_ | refine jV (an F F) ?_ | refine jC F F F ?_ | refine ak F ?_ | refine aH F ?_ | refine aw F ?_) | refine ax F F (ar ‹_›) ?_ | refine aj F F F ?_ | refine ac F F ?_)
   all_goals refine jZ (vs:=[_,_]) F ⟨av F F F F,F,trivial⟩ F ⟨hle,F,?_⟩
   all_goals exact .inl ⟨hno,F⟩
  have hnn : ¬ t1 ≠ []:=fun h=>h ht
  have cx_dp:=wi (G:=G1) u1.tot (Nat.le_refl _) oM hrep
  have hdt:=oo u1
  by_cases hd : V.deep u1 ≤ 12
  ·have hyes : bV (ag qs) k s = some u1:=by rw [hof,if_pos ⟨ht,hd⟩]
   repeat' (first | refine jR ?_ | (refine jo ?_;first | refine jL fun _=>?_ | refine jC F F F ?_ | refine ak F ?_ | refine aN F ?_ | refine aw F ?_ | refine ab F F F cx_dp F ?_) | (refine aj F F (by first | rfl | (refine decide_eq_false ?_;(assumption))) ?_) | refine ad F (aA oM) ?_)
   all_goals refine jZ (vs:=[_,_]) F ⟨av F F F F,F,trivial⟩ F ⟨hle,F,?_⟩
   all_goals exact .inr ⟨u1,c1,hyes,F,hrep⟩
  ·have hno : bV (ag qs) k s = none:=by rw [hof,if_neg (fun h=>hd h.2)]
   repeat' (first | refine jR ?_ | (refine jo ?_;first | refine jL fun _=>?_ | refine jV (an F F) ?_ | refine jC F F F ?_ | refine ak F ?_ | refine aN F ?_ | refine aw F ?_ | refine ab F F F cx_dp F ?_) | (refine aj F F (by first | rfl | (refine decide_eq_false ?_;(assumption))) ?_) | refine ac F (ar oM) ?_)
   all_goals refine jZ (vs:=[_,_]) F ⟨av F F F F,F,trivial⟩ F ⟨hle,F,?_⟩
   all_goals exact .inl ⟨hno,F⟩
theorem nJ {s k : ac1} (h : cP s k = true) : ∃ ts,aO s = some ts ∧ aE ts k = true ∧ SchW ts:=by
 unfold cP at h
 cases h1 : aO s with
 | none=>rw [h1] at h;cases h
 | some ts=>rw [h1] at h;exact ⟨ts,F,h,cp h1⟩
def dT (s k v : ac1) : Option V:=match aO s with
 | some ts=>if aE ts k = true then bV ts k v else none
 | none=>none
theorem sE {s k w : ac1} (h : s.length ≤ 1048576 ∧ k.length ≤ 1048576 ∧ w.length ≤ 1048576) (hno : dT s k w = none) : bi ac0 62 [S s,S k,S w] G (fun v _=>∃ p a b c,v = Tu [p,Ag [S a,S b,S c],zP,Bo false]):=by
 by_cases hk : cP s k = true
 case neg =>
  have cx_bo1 : ∀ G,bi ac0 59 [S s,S k] G (fun v _=>∃ p a b c,v = Tu [p,Ag [S a,S b,S c],Bo false]):=fun G=>by
   refine (mW (G:=G) (s:=s) (k:=k) oM oM).mono ?_
   rintro v G' L' ⟨h1,h2,⟨_,p,a,b,c,rfl⟩ | ⟨b,qs,rfl,h4,h5,_⟩⟩
   ·exact ⟨h1,h2,p,a,b,c,F⟩
   ·exact absurd (by unfold cP;rw [h4];exact h5) hk
  refine jB [(0,_),(1,_),(2,_)] Tryz.func62 Tryz.ntmps62 fun B hok hB hW=>?_
  repeat' (first | refine jR ?_ | (refine jo ?_;first | refine jL fun _=>?_ | refine jC F F F ?_ | refine jV (an F F) ?_ | (refine aK F F F (cx_bo1 _) F ?_;rintro _ G hle ⟨p1,a1,b1,c1,rfl⟩;skip)) | refine ac F F ?_)
  all_goals refine jZ (vs:=[_,_,_,_]) F ⟨F,av F F F F,av F F F F,F,trivial⟩ F ⟨hle,F,?_⟩
  all_goals exact ⟨_,_,_,_,F⟩
 obtain ⟨ts,hs,hki,hw⟩:=nJ hk
 have hvo : bV ts k w = none:=by unfold dT at hno;rw [hs] at hno;dsimp only at hno;rwa [if_pos hki] at hno
 have cx_boa : ∀ G,bi ac0 59 [S s,S k] G (fun v G'=>∃ b qs,v = Tu [Pt b 0,Ag [S (sg k),S (bs k),S (nm k)],Bo true] ∧ ag qs = ts ∧ ScI G' b qs):=fun G=>by
  refine (mW (G:=G) (s:=s) (k:=k) oM oM).mono ?_
  rintro v G' L' ⟨h1,h2,⟨h4,_⟩ | ⟨b,qs,rfl,h4,h5,h6⟩⟩
  ·rw [h4] at hk;cases hk
  ·rw [hs] at h4;exact ⟨h1,h2,b,qs,F,(Option.some.inj h4).symm,h6⟩
 have cx_ri0 : ∀ G b qs,ag qs = ts → ScI G b qs → bi ac0 97 [Pt b 0,Ag [S (sg k),S (bs k),S (nm k)],S w] G (fun v _=>v = Tu [zP,Bo false]):=fun G b qs hq hS=>by
  subst hq
  refine (qk (G:=G) (b:=b) (s:=w) hS hw hki oM).mono ?_
  rintro v G' L' ⟨h1,h2,⟨_,rfl⟩ | ⟨u,c,h4,_⟩⟩
  ·exact ⟨h1,h2,F⟩
  ·rw [hvo] at h4;cases h4
 refine jB [(0,_),(1,_),(2,_)] Tryz.func62 Tryz.ntmps62 fun B hok hB hW=>?_
 repeat' (first | refine jR ?_ | (refine jo ?_;first | refine jL fun _=>?_ | refine jC F F F ?_ | refine aN F ?_ | (refine aK F F F (cx_boa _) F ?_;rintro _ G hle ⟨ba,qa,rfl,hT1,hR1⟩;skip) | (refine aK F F F ((cx_ri0 _ _ _) (by (repeat (assumption));done) (by (repeat (assumption));done)) rfl ?_;rintro _ G hle rfl;skip)) | refine ad F F ?_ | (refine ai (dA (id:=5) (tt:=7) F ah ?_);refine jW 5 [0,3,4] (aa 8 25) ?_;(refine jG (aa 8 27) 1 F (bo F F F F) ?_);(refine jG (aa 8 31) 2 F (bo F F F F) ?_);refine jA 5 F ?_;(refine jC F F F ?_);refine jK (aa 8 63) ?_;refine jA 6 F ?_;(refine jC F F F ?_);refine jK (aa 8 127) ?_;refine jW 0 [7] (aa 8 255) ?_;refine jQ ?_))
 all_goals refine jZ (vs:=[_,_,_,_]) F ⟨F,av F F F F,av F F F F,F,trivial⟩ F ⟨(Gh.le.trans aS hle),F,?_⟩
 all_goals exact ⟨_,_,_,_,F⟩
theorem sD {s k w : ac1} {u : V} {ts : List Ty} (h : s.length ≤ 1048576 ∧ k.length ≤ 1048576 ∧ w.length ≤ 1048576) (hs : aO s = some ts) (hki : aE ts k = true) (hvo : bV ts k w = some u) :
  bi ac0 62 [S s,S k,S w] G (fun v G'=>∃ b qs cv,v = Tu [Pt b 0,Ag [S (sg k),S (bs k),S (nm k)],Ag (bx cv),Bo true] ∧ ag qs = ts ∧ ScI G' b qs ∧ V.rep G' u cv):=by
 have hw:=cp hs
 have hk : cP s k = true:=by unfold cP;rw [hs];exact hki
 have cx_boa : ∀ G,bi ac0 59 [S s,S k] G (fun v G'=>∃ b qs,v = Tu [Pt b 0,Ag [S (sg k),S (bs k),S (nm k)],Bo true] ∧ ag qs = ts ∧ ScI G' b qs):=fun G=>by
  refine (mW (G:=G) (s:=s) (k:=k) oM oM).mono ?_
  rintro v G' L' ⟨h1,h2,⟨h4,_⟩ | ⟨b,qs,rfl,h4,h5,h6⟩⟩
  ·rw [h4] at hk;cases hk
  ·rw [hs] at h4;exact ⟨h1,h2,b,qs,F,(Option.some.inj h4).symm,h6⟩
 have cx_ri1 : ∀ G b qs,ag qs = ts → ScI G b qs → bi ac0 97 [Pt b 0,Ag [S (sg k),S (bs k),S (nm k)],S w] G (fun v G'=>∃ cv,v = Tu [Ag (bx cv),Bo true] ∧ V.rep G' u cv):=fun G b qs hq hS=>by
  subst hq
  refine (qk (G:=G) (b:=b) (s:=w) hS hw hki oM).mono ?_
  rintro v G' L' ⟨h1,h2,⟨h4,_⟩ | ⟨u',c,h4,rfl,h5⟩⟩
  ·rw [hvo] at h4;cases h4
  ·rw [hvo] at h4;obtain rfl:=Option.some.inj h4;exact ⟨h1,h2,c,F,h5⟩
 refine jB [(0,_),(1,_),(2,_)] Tryz.func62 Tryz.ntmps62 fun B hok hB hW=>?_
 repeat' (first | refine jR ?_ | (refine jo ?_;first | refine jL fun _=>?_ | refine jC F F F ?_ | refine aN F ?_ | (refine aK F F F (cx_boa _) F ?_;rintro _ G hle ⟨ba,qa,rfl,hT1,hR1⟩;skip) | (refine aK F F F ((cx_ri1 _ _ _) (by (repeat (assumption));done) (by (repeat (assumption));done)) rfl ?_;rintro _ G hle ⟨cv,rfl,hrv⟩;skip)) | refine ad F F ?_)
 rename_i x7 x8 Ga hla x11 x13
 dsimp only [bx,VC.sl]
 (refine ai (am (id:=5) [.blk x13 (.cells (List.toArray [U8 (cv.what : Nat),S cv.text,I cv.tag,.slice cv.a cv.n cv.c]) du (0,0)),.blk x11 (.cells (List.toArray [S (sg k),S (bs k),S (nm k)]) eI (0,0))] (by intro y hy;simp only [List.mem_cons,List.not_mem_nil,or_false] at hy ⊢;rcases hy with hy | hy <;> simp [hy]) ah ?_);refine jW 5 [0,3,4] (aa 8 25) ?_;(refine jG (aa 8 27) 1 F (bo F F F F) ?_);(refine jG (aa 8 31) 2 F (bo F F F F) ?_);refine jA 5 F ?_;(refine jC F F F ?_);refine jK (aa 8 63) ?_;refine jA 6 F ?_;(refine jC F F F ?_);refine jK (aa 8 127) ?_;refine jW 0 [7] (aa 8 255) ?_;refine jQ ?_)
 all_goals repeat' (refine jR ?_)
 all_goals refine jZ (vs:=[_,_,_,_]) F ⟨F,av F F F F,av F F F F,F,trivial⟩ F ⟨(Gh.le.trans aS hle),F,?_⟩
 all_goals exact ⟨ba,qa,cv,F,hT1,hR1.mono hle,hrv⟩
def gj (b : Nat) : List Value:=[Pt b 0]
instance : RowF gj 1:=⟨fun _=>rfl⟩
def eh (n : Int) : List Value:=[I n]
instance : RowF eh 1:=⟨fun _=>rfl⟩
abbrev acJ : TypeId:=9
abbrev vh : TypeId:=94
inductive RepR (G : Gh) (ts : List Ty) : V → ac1 → Nat → Prop
 | leaf (w : Nat) (x k tx : ac1) (b : Nat) : cE G b 0 [S k,S tx,aJ,aJ] → ((w = 110 ∧ k = [110] ∧ tx = x ∧ ∀ c ∈ x,aY c = true) ∨ (w = 116 ∧ k = [116] ∧ tx = 39 :: (x ++ [39])) ∨ (w = 102 ∧ k = [102] ∧ tx = x ∧ (x = [121,101,115] ∨ x = [110,111]))) → RepR G ts (.nd w x 0 []) k b
 | lst (k : ac1) (b : Nat) (ks : List V) (bs : List Nat) (a : Option Addr) (c : Nat) : cE G b 0 [S (91 :: k),S [],aJ,.slice a ks.length c] → bR G (.slice a ks.length c) 1 ks.length (aI gj bs) → bs.length = ks.length → (∀ i,i < ks.length → RepR G ts (ae ks i) k (ae bs i)) → RepR G ts (.nd 91 [] 0 ks) (91 :: k) b
 | non (k : ac1) (b : Nat) : cE G b 0 [S (63 :: k),S [],aJ,aJ] → RepR G ts (.nd 63 [] 0 []) (63 :: k) b
 | opt (k : ac1) (b kb b' cc : Nat) (v : V) : 1 ≤ cc → cE G b 0 [S (63 :: k),S [],aJ,.slice (some ⟨kb,0,none⟩) 1 cc] → cE G kb 0 [Pt b' 0] → RepR G ts v k b' → RepR G ts (.nd 63 [] 0 [v]) (63 :: k) b
 | recd (k : ac1) (b : Nat) (t : Ty) (fs : List (Fld × V)) (bs : List Nat) (a a2 : Option Addr) (c c2 : Nat) : aT ts k = some t ∧ t.sort = 82 → cE G b 0 [S k,S [82],.slice a fs.length c,.slice a2 fs.length c2] → bR G (.slice a fs.length c) 1 fs.length (aI eh (fs.map fun p=>p.1.tag)) → bR G (.slice a2 fs.length c2) 1 fs.length (aI gj bs) → bs.length = fs.length → (∀ i,i < fs.length → (ae fs i).1 ∈ t.fields) → (∀ i,i < fs.length → RepR G ts (ae fs i).2 (ae fs i).1.kind (ae bs i)) → RepR G ts (.nd 82 [] 0 (fs.map fun p=>.nd 61 [] p.1.tag [p.2])) k b
 | enm (k : ac1) (b tb : Nat) (t : Ty) (d : Fld) {tc : Nat} : aT ts k = some t ∧ t.sort = 69 → d ∈ t.fields → cE G b 0 [S k,S [69],.slice (some ⟨tb,0,none⟩) 1 (tc + 1),aJ] → cE G tb 0 [I d.tag] → RepR G ts (.nd 69 [] d.tag []) k b
 | uni (k : ac1) (b tb kb b' cc : Nat) (t : Ty) (d : Fld) (v : V) {tc : Nat} : 1 ≤ cc → aT ts k = some t ∧ t.sort = 85 → d ∈ t.fields → cE G b 0 [S k,S [85],.slice (some ⟨tb,0,none⟩) 1 (tc + 1),.slice (some ⟨kb,0,none⟩) 1 cc] → cE G tb 0 [I d.tag] → cE G kb 0 [Pt b' 0] → RepR G ts v d.kind b' → RepR G ts (.nd 85 [] d.tag [v]) k b
theorem RepR.mono {G G' : Gh} {ts : List Ty} (hl : Gh.le G G') {v : V} {k : ac1} {b : Nat} (h : RepR G ts v k b) : RepR G' ts v k b:=by
 induction h with
 | leaf w x k tx b h1 h2=>exact .leaf w x k tx b (h1.mono hl) h2
 | lst k b ks bs a c h1 h2 h3 _ ih=>exact .lst k b ks bs a c (h1.mono hl) (h2.mono hl) h3 ih
 | non k b h1=>exact .non k b (h1.mono hl)
 | opt k b kb b' cc v h0 h1 h2 _ ih=>exact .opt k b kb b' cc v h0 (h1.mono hl) (h2.mono hl) ih
 | recd k b t fs bs a a2 c c2 h0 h1 h2 h3 h4 h5 _ ih=>exact .recd k b t fs bs a a2 c c2 h0 (h1.mono hl) (h2.mono hl) (h3.mono hl) h4 h5 ih
 | enm k b tb t d h0 h1 h2 h3=>exact .enm k b tb t d h0 h1 (h2.mono hl) (h3.mono hl)
 | uni k b tb kb b' cc t d v hcc h0 h1 h2 h3 h4 _ ih=>exact .uni k b tb kb b' cc t d v hcc h0 h1 (h2.mono hl) (h3.mono hl) (h4.mono hl) ih
def cq (ts : List Ty) (f : Option (V × ac1)) (k : ac1) (v : Value) (G' : Gh) : Prop :=
 ∃ q rest ok,v = Tu [.pointer q,S rest,Bo ok] ∧ (ok = true → ∃ w b,q = some ⟨b,0,none⟩ ∧ f = some (w,rest) ∧ RepR G' ts w k b) ∧ (ok = false → f = none)
theorem sI {s : ac1} (hs : s.length ≤ 100000000) : aC ac0 152 [S s] G (· = I ((s.takeWhile aY).length : Nat)):=by
 refine jE [(0,_)] Tryz.func152 Tryz.ntmps152 fun B hB=>?_
 repeat' (refine jR ?_)
 refine aR (ι:=Nat) (fun i=>i ≤ s.length ∧ i + ((s.drop i).takeWhile aY).length = (s.takeWhile aY).length) (fun i=>[(0,S s),(3,I i)]) (fun _=>G) (fun i=>[]) (fun i=>s.length - i) 0 ?_ tU F aW (fun i Hi=>?_)
 ·exact ⟨Nat.zero_le _,by simp⟩
 obtain ⟨hi0,hi1⟩:=Hi
 by_cases hi : i < s.length
 ·obtain ⟨c,hc1,hc2⟩:=f7 hi
  have hc3 : bt s ((i : Int).toNat) = c.toNat:=hc2
  rw [hc1,List.takeWhile_cons] at hi1
  by_cases hd : aY c = true
  ·rw [if_pos hd] at hi1
   have hd2:=hd
   unfold aY at hd2
   rw [decide_eq_true_eq] at hd2
   simp only [List.length_cons] at hi1
   repeat' (first | refine jM ?_ | (refine jo ?_;refine aH F ?_) | refine ax F F (ar oM) ?_ | refine ac F (ar oM) ?_)
   exact aX (i + 1) ⟨oM,oM⟩ oM tU F aW
  ·rw [if_neg hd] at hi1
   have hd2 : ¬ (48 ≤ c.toNat ∧ c.toNat ≤ 57):=fun h=>hd (by unfold aY;rw [decide_eq_true_eq];exact h)
   simp only [List.length_nil] at hi1
   repeat' (first | refine jM ?_ | (refine jo ?_;first | refine aH F ?_ | refine aw F ?_) | refine ax F F (ar oM) ?_ | refine eD F F (fun _=>?_) (fun _=>?_) | (refine ad F (by first | rfl | (refine decide_eq_false ?_;(omega))) ?_))
   all_goals refine jY (vs:=[_]) ?_
   all_goals (rw [aB,← hi1];rfl)
 ·have : i = s.length:=oM
  rw [this,List.drop_length] at hi1
  simp only [List.takeWhile_nil,List.length_nil] at hi1
  repeat' (first | refine jR ?_ | (refine jo ?_;refine aw F ?_) | (refine aj F F (by first | rfl | (refine decide_eq_false ?_;(omega))) ?_) | refine ad F F ?_)
  all_goals refine jY (vs:=[_]) ?_
  all_goals (rw [aB,← hi1,this];rfl)
theorem oN (q : UInt8 → Bool) (s : ac1) : s.take ((((s.takeWhile q).length : Nat) : Int)).toNat = s.takeWhile q ∧ s.drop ((((s.takeWhile q).length : Nat) : Int)).toNat = s.dropWhile q:=by
 have h:=List.takeWhile_append_dropWhile (p:=q) (l:=s)
 have e : ((((s.takeWhile q).length : Nat) : Int)).toNat = (s.takeWhile q).length:=oM
 rw [e]
 constructor
 ·have h2 : (s.takeWhile q ++ s.dropWhile q).take (s.takeWhile q).length = s.takeWhile q:=List.take_left
  rwa [h] at h2
 ·have h2 : (s.takeWhile q ++ s.dropWhile q).drop (s.takeWhile q).length = s.dropWhile q:=List.drop_left
  rwa [h] at h2
theorem xg {u : Value} {ts : List Ty} {s : ac1} (hu : u.oneCell' = true) (hs : s.length ≤ 100000000) : bi ac0 112 [Ag [u],S s,S [110]] G (cq ts ((ce 999999 s).map fun x=>(.nd 110 (a8 x.1) 0 [],x.2)) [110]):=by
 have cx_dg:=sI (G:=G) hs
 obtain ⟨e1,e2⟩:=oN aY s
 have hwl:=dQ aY s
 have hlen : (s.take ((((s.takeWhile aY).length : Nat) : Int)).toNat).length ≤ 100000000:=by rw [e1];omega
 refine jB [(0,_),(1,_),(2,_)] Tryz.func112 Tryz.ntmps112 fun B hok hB hW=>?_
 repeat' (first | refine jM ?_ | (refine jo ?_;first | refine jO fun _=>?_ | refine ab F F F cx_dg F ?_ | (refine cZ F F F (gc oM) F ?_;rintro _ ⟨n,rfl,hnum⟩)) | refine ac F F ?_ | (refine ai (am (id:=6) _ (fun _ h=>h) ah ?_);refine jW 5 [0,1,2,3,6,7,8,9] (aa 13 975) ?_;(refine jG (aa 13 991) 4 F (an F F) ?_);refine jA 5 F ?_;(refine jO fun _=>?_);refine jS (aa 13 1023) ?_;refine jT 0 [10,11,12] (aa 13 8191) ?_;refine jQ ?_))
 rename_i x3 x4
 refine Nx.sealC (b:=x4) fun G2 hG2 hsy=>?_
 refine jZ (vs:=[_,_,_]) F ⟨F,F,F,trivial⟩ F ⟨hG2,F,?_⟩
 rw [aF]
 rw [e1] at hnum hsy
 rw [e1,e2]
 refine ⟨_,_,_,F,fun h=>?_,fun h=>?_⟩
 ·cases hm : aL (s.takeWhile aY) 999999 with
  | none=>rw [hm] at h;cases h
  | some m =>
   have hmd:=(dm hm).2.1
   refine ⟨.nd 110 (a8 m) 0 [],x4,F,by unfold ce;rw [hm];rfl,.leaf 110 _ _ _ _ hsy (.inl ⟨rfl,rfl,hmd,fun c hc=>List.all_eq_true.1 (List.all_takeWhile (l:=s) (p:=aY)) c (by rw [hmd];exact hc)⟩)⟩
 ·cases hm : aL (s.takeWhile aY) 999999 with
  | none=>unfold ce;rw [hm];rfl
  | some m=>rw [hm] at h;cases h
theorem ph {c : UInt8} {r : ac1} {i : Nat} (hc : i ≤ r.length) (hn : ∀ j,j < i → bt r j ≠ 39) (hi : i = r.length ∨ bt r i = 39 ∧ i < r.length) :
  (dh (c :: r) = if cX ((c :: r).take (min (i + 2) (r.length + 1))) = true then some (.nd 116 (r.take i) 0 [],r.drop (i + 1)) else none) ∧ (cX ((c :: r).take (min (i + 2) (r.length + 1))) = true → (c :: r).take (min (i + 2) (r.length + 1)) = 39 :: (r.take i ++ [39])):=by
 unfold dh
 dsimp only
 rcases hi with hi | ⟨h39,hlt⟩
 ·have hcut : aG 39 r = (r,[],false):=qh fun j hj=>hn j oM
  have htk : (c :: r).take (min (i + 2) (r.length + 1)) = c :: r:=List.take_of_length_le (by simp;omega)
  have hno : cX (c :: r) = false:=by
   unfold cX
   refine decide_eq_false fun h=>?_
   obtain ⟨⟨h2,_⟩,_,h3,_⟩:=h
   simp only [List.length_cons] at h2
   rw [show (c :: r).length - 1 = (r.length - 1) + 1 by simp;omega,dG] at h3
   exact hn (r.length - 1) oM h3
  rw [hcut,htk,hno]
  exact ⟨by simp,fun h=>(by cases h)⟩
 ·have hcut:=nk (k:=39) hlt hn h39
  have htk : (c :: r).take (min (i + 2) (r.length + 1)) = c :: (r.take i ++ [39]):=by
   rw [show min (i + 2) (r.length + 1) = (i + 1) + 1 by omega,List.take_succ_cons,d4 hlt]
   congr 1;congr 1;congr 1
   rw [aP hlt]
   have : bt r i = (r[i]).toNat:=by simp [bt,List.getD,List.getElem?_eq_getElem hlt]
   exact UInt8.toNat_inj.1 (by rw [← this,h39];rfl)
  rw [hcut,htk]
  dsimp only
  by_cases h : c.toNat = 39
  ·rw [if_pos h,show c = 39 from UInt8.toNat_inj.1 h]
   exact ⟨F,fun _=>rfl⟩
  ·have hno : ¬ cX (c :: (r.take i ++ [39])) = true:=fun ht=>by
    unfold cX at ht
    rw [decide_eq_true_eq] at ht
    exact h (by have:=ht.2.1;rwa [a6] at this)
   rw [if_neg h,if_neg hno]
   exact ⟨F,fun h2=>absurd h2 hno⟩
theorem xf {u : Value} {ts : List Ty} {s : ac1} (hu : u.oneCell' = true) (hs : s.length ≤ 100000000) (hne : s ≠ []) : bi ac0 112 [Ag [u],S s,S [116]] G (cq ts (dh s) [116]):=by
 match s,hne with
 | c :: r,_ =>
 simp only [List.length_cons] at hs
 have hcl : (c :: r).length = r.length + 1:=rfl
 refine jB [(0,_),(1,_),(2,_)] Tryz.func112 Tryz.ntmps112 fun B hok hB hW=>?_
 repeat' (first | refine jR ?_ | (refine jo ?_;refine jO fun _=>?_) | refine ac F F ?_ | refine ad F F ?_)
 rename_i x3
 refine aR (ι:=Nat) (fun i=>i ≤ r.length ∧ ∀ j,j < i → bt r j ≠ 39) (fun i=>[(1,S (c :: r)),(2,S [116]),(9,I (i + 1 : Nat))]) (fun _=>G) (fun i=>[]) (fun i=>r.length - i) 0 ?_ tU F (by repeat (exact List.nil_sublist _)) (fun i Hi=>?_)
 ·exact ⟨Nat.zero_le _,fun j hj=>absurd hj oM⟩
 obtain ⟨hi0,hi1⟩:=Hi
 have hb : bt (c :: r) ((i + 1 : Nat) : Int).toNat = bt r i:=dG c r i
 by_cases hi : i < r.length
 ·by_cases h39 : bt r i = 39
  ·have h39' : bt (c :: r) ((i + 1 : Nat) : Int).toNat = 39:=by rw [hb];exact h39
   have hq:=ph (c:=c) hi0 hi1 (.inr ⟨h39,hi⟩)
   have e3 : (min (((i + 1 : Nat) : Int) + 1) ((((c :: r).length : Nat) : Int))).toNat = min (i + 2) (r.length + 1):=oM
   have cx_tx:=fj (G:=G) (s:=(c :: r).take (min (((i + 1 : Nat) : Int) + 1) ((((c :: r).length : Nat) : Int))).toNat) (by rw [List.length_take];omega)
   repeat' (first | refine jM ?_ | (refine jo ?_;first | refine aH F ?_ | refine jV (uE F F) ?_) | refine ax F F (ar oM) ?_ | refine ad F (aA oM) ?_ | (refine ai (am (id:=12) _ (fun _ h=>h) ah ?_);refine jW 6 [0,1,2,3,6,7,8,9,10,11] (aa 16 4047) ?_;(refine jG (aa 16 4063) 4 F (an F F) ?_);refine dN [5,12] kR dC ⟨?_,?_,trivial⟩;(focus (refine b6 F F ?_;(refine jO fun _=>?_);refine jS (aa 16 4095) ?_;refine jA 12 F ?_;((refine ab F F F (fj ?_) F ?_;(focus ((simp;omega);done))));refine jS (aa 16 8191) ?_;refine jW 0 [13,14,15] (aa 16 65535) ?_;refine jQ ?_));rotate_left 1;(focus (refine b6 F F ?_;((refine ab F F F (fj ?_) F ?_;(focus ((simp;omega);done))));refine jS (aa 16 8159) ?_;refine jA 5 F ?_;(refine jO fun _=>?_);refine jS (aa 16 8191) ?_;refine jW 0 [13,14,15] (aa 16 65535) ?_;refine jQ ?_));rotate_left 1))
   all_goals
    rename_i x4
    refine Nx.sealC (b:=x4) fun G2 hG2 hsy=>?_
    refine jZ (vs:=[_,_,_]) F ⟨F,F,F,trivial⟩ F ⟨hG2,F,?_⟩
    rw [aF]
    rw [e3] at hsy
    rw [e3]
    refine ⟨_,_,_,F,fun h=>?_,fun h=>?_⟩
    ·have htk:=hq.2 h
     rw [htk] at hsy
     have hdr : (c :: r).drop (min (i + 2) (r.length + 1)) = r.drop (i + 1):=by
      rcases Nat.lt_or_ge i r.length with h2 | h2
      ·rw [show min (i + 2) (r.length + 1) = (i + 1) + 1 by omega];rfl
      ·rw [List.drop_eq_nil_of_le (by simp;omega),List.drop_eq_nil_of_le oM]
     exact ⟨_,x4,F,by rw [hq.1,if_pos h,hdr],.leaf 116 _ _ _ _ hsy (.inr (.inl ⟨F,F,F⟩))⟩
    ·rw [hq.1,if_neg (by rw [h];decide)]
  ·have h39' : ¬ bt (c :: r) ((i + 1 : Nat) : Int).toNat = 39:=by rw [hb];exact h39
   repeat' (first | refine jM ?_ | (refine jo ?_;refine aH F ?_) | refine ax F F (ar oM) ?_ | refine ac F (ar oM) ?_)
   refine Nx.re (d:=9) (v':=I (i + 1 + 1 : Nat)) F (congrArg (Value.int .i64) oM) ?_
   exact aX (i + 1) ⟨oM,fun j hj=>(by
    rcases Nat.lt_or_ge j i with h | h
    ·exact hi1 j h
    ·have : j = i:=oM
     subst this;exact h39)⟩ oM tU F aW
 ·have hq:=ph (c:=c) hi0 hi1 (.inl oM)
  have e3 : (min (((i + 1 : Nat) : Int) + 1) ((((c :: r).length : Nat) : Int))).toNat = min (i + 2) (r.length + 1):=oM
  have cx_tx:=fj (G:=G) (s:=(c :: r).take (min (((i + 1 : Nat) : Int) + 1) ((((c :: r).length : Nat) : Int))).toNat) (by rw [List.length_take];omega)
  repeat' (first | refine jM ?_ | (refine jo ?_;first | refine aw F ?_ | refine jV (uE F F) ?_) | refine aj F F (aA oM) ?_ | refine ad F F ?_ | (refine ai (am (id:=12) _ (fun _ h=>h) ah ?_);refine jW 6 [0,1,2,3,6,7,8,9,10,11] (aa 16 4047) ?_;(refine jG (aa 16 4063) 4 F (an F F) ?_);refine dN [5,12] kR dC ⟨?_,?_,trivial⟩;(focus (refine b6 F F ?_;(refine jO fun _=>?_);refine jS (aa 16 4095) ?_;refine jA 12 F ?_;((refine ab F F F (fj ?_) F ?_;(focus ((simp;omega);done))));refine jS (aa 16 8191) ?_;refine jW 0 [13,14,15] (aa 16 65535) ?_;refine jQ ?_));rotate_left 1;(focus (refine b6 F F ?_;((refine ab F F F (fj ?_) F ?_;(focus ((simp;omega);done))));refine jS (aa 16 8159) ?_;refine jA 5 F ?_;(refine jO fun _=>?_);refine jS (aa 16 8191) ?_;refine jW 0 [13,14,15] (aa 16 65535) ?_;refine jQ ?_));rotate_left 1))
  all_goals
   rename_i x4
   refine Nx.sealC (b:=x4) fun G2 hG2 hsy=>?_
   refine jZ (vs:=[_,_,_]) F ⟨F,F,F,trivial⟩ F ⟨hG2,F,?_⟩
   rw [aF]
   rw [e3] at hsy
   rw [e3]
   refine ⟨_,_,_,F,fun h=>?_,fun h=>?_⟩
   ·have htk:=hq.2 h
    rw [htk] at hsy
    have hdr : (c :: r).drop (min (i + 2) (r.length + 1)) = r.drop (i + 1):=by
     rcases Nat.lt_or_ge i r.length with h2 | h2
     ·rw [show min (i + 2) (r.length + 1) = (i + 1) + 1 by omega];rfl
     ·rw [List.drop_eq_nil_of_le (by simp;omega),List.drop_eq_nil_of_le oM]
    exact ⟨_,x4,F,by rw [hq.1,if_pos h,hdr],.leaf 116 _ _ _ _ hsy (.inr (.inl ⟨F,F,F⟩))⟩
   ·rw [hq.1,if_neg (by rw [h];decide)]
theorem xh {u : Value} {ts : List Ty} {s : ac1} (hu : u.oneCell' = true) (hs : s.length ≤ 100000000) : bi ac0 112 [Ag [u],S s,S [102]] G (cq ts (d6 s) [102]):=by
 have hpf : ∀ l : ac1,l.isPrefixOf s = true ↔ l.length ≤ s.length ∧ s.take l.length = l:=fun l=>by
  rw [List.isPrefixOf_iff_prefix]
  constructor
  ·rintro ⟨t,rfl⟩;simp
  ·rintro ⟨h1,h2⟩;exact ⟨s.drop l.length,by rw [show l ++ s.drop l.length = s.take l.length ++ s.drop l.length from by rw [h2]];exact List.take_append_drop _ _⟩
 refine jB [(0,_),(1,_),(2,_)] Tryz.func112 Tryz.ntmps112 fun B hok hB hW=>?_
 repeat' (first | refine jR ?_ | (refine jo ?_;first | refine jO fun _=>?_ | refine jF fun _=>?_ | refine jV (al F) ?_) | refine ad F F ?_)
 rename_i x3 x4
 refine aR (ι:=Nat) (fun i=>i ≤ 2 ∧ (1 ≤ i → ([121,101,115] : ac1).isPrefixOf s = false) ∧ (2 ≤ i → ([110,111] : ac1).isPrefixOf s = false)) (fun i=>[(1,S s),(2,S [102]),(68,.slice (some ⟨x4,0,none⟩) 2 2),(69,I (2 : Nat)),(70,I i)]) (fun _=>G) (fun i=>[.blk x4 (.cells (List.toArray [S [121,101,115],S [110,111]]) acJ (0,0))]) (fun i=>2 - i) 0 ?_ tU F sB (fun i Hi=>?_)
 ·exact ⟨Nat.zero_le _,fun h=>absurd h oM,fun h=>absurd h oM⟩
 obtain ⟨hi0,hi1,hi2⟩:=Hi
 have h3 : i = 0 ∨ i = 1 ∨ i = 2:=oM
 rcases h3 with rfl | rfl | rfl
 ·cases hp : ([121,101,115] : ac1).isPrefixOf s with
  | true =>
   obtain ⟨h1,h2⟩:=(hpf _).1 hp
   have h1' : (((([121,101,115] : ac1).length : Nat) : Int)) ≤ s.length:=oM
   have h2' : s.take (((([121,101,115] : ac1).length : Nat) : Int)).toNat = [121,101,115]:=h2
   repeat' (first | refine jM ?_ | (refine jo ?_;first | refine aH F ?_ | refine jV (ay F F oM) ?_ | refine ak F ?_) | refine ax F F (ar ‹_›) ?_ | (refine ac F (by first | rfl | (refine decide_eq_true ?_;(assumption))) ?_) | (refine ai (am (id:=17) _ (fun _ h=>h) ah ?_);refine jW 5 [0,1,4,5,6,7] (aa 11 243) ?_;(refine jG (aa 11 247) 2 F (an F F) ?_);refine jA 3 F ?_;(refine jO fun _=>?_);refine jS (aa 11 255) ?_;refine jT 0 [8,9,10] (aa 11 2047) ?_;refine jQ ?_))
   all_goals
    rename_i y
    refine Nx.sealC (b:=y) fun G2 hG2 hsy=>?_
    refine jZ (vs:=[_,_,_]) F ⟨F,F,F,trivial⟩ F ⟨hG2,F,?_⟩
    rw [aF]
    exact ⟨_,_,_,F,fun _=>⟨.nd 102 [121,101,115] 0 [],y,F,by unfold d6;rw [hp,if_pos rfl];rfl,.leaf 102 _ _ _ _ hsy (.inr (.inr ⟨rfl,rfl,rfl,.inl rfl⟩))⟩,fun h=>(by cases h)⟩
  | false =>
   have hn : ¬ ((([121,101,115] : ac1).length : Nat) ≤ s.length ∧ s.take ([121,101,115] : ac1).length = [121,101,115]):=fun h=>by rw [(hpf _).2 h] at hp;cases hp
   have hn' : ¬ ((((([121,101,115] : ac1).length : Nat) : Int)) ≤ s.length ∧ s.take (((([121,101,115] : ac1).length : Nat) : Int)).toNat = [121,101,115]):=fun h=>hn ⟨oM,h.2⟩
   by_cases h1' : (((([121,101,115] : ac1).length : Nat) : Int)) ≤ s.length
   ·have h2' : ¬ s.take (((([121,101,115] : ac1).length : Nat) : Int)).toNat = [121,101,115]:=fun h=>hn' ⟨h1',h⟩
    repeat' (first | refine jM ?_ | (refine jo ?_;first | refine aH F ?_ | refine jV (ay F F oM) ?_ | refine ak F ?_) | refine ax F F (ar ‹_›) ?_ | refine ac F F ?_ | refine ad F (aA ‹_›) ?_)
    exact aX 1 ⟨oM,fun _=>rfl,fun h=>absurd h oM⟩ oM tU F aW
   ·repeat' (first | refine jM ?_ | (refine jo ?_;first | refine aw F ?_ | refine jV (ay F F oM) ?_ | refine ak F ?_) | refine aj F F (aA ‹_›) ?_ | refine ac F F ?_ | refine ad F F ?_)
    exact aX 1 ⟨oM,fun _=>rfl,fun h=>absurd h oM⟩ oM tU F aW
 ·have hy:=hi1 (Nat.le_refl _)
  cases hp : ([110,111] : ac1).isPrefixOf s with
  | true =>
   obtain ⟨h1,h2⟩:=(hpf _).1 hp
   have h1' : (((([110,111] : ac1).length : Nat) : Int)) ≤ s.length:=oM
   have h2' : s.take (((([110,111] : ac1).length : Nat) : Int)).toNat = [110,111]:=h2
   repeat' (first | refine jM ?_ | (refine jo ?_;first | refine aH F ?_ | refine jV (ay F F oM) ?_ | refine ak F ?_) | refine ax F F (ar ‹_›) ?_ | (refine ac F (by first | rfl | (refine decide_eq_true ?_;(assumption))) ?_) | (refine ai (am (id:=17) _ (fun _ h=>h) ah ?_);refine jW 5 [0,1,4,5,6,7] (aa 11 243) ?_;(refine jG (aa 11 247) 2 F (an F F) ?_);refine jA 3 F ?_;(refine jO fun _=>?_);refine jS (aa 11 255) ?_;refine jT 0 [8,9,10] (aa 11 2047) ?_;refine jQ ?_))
   all_goals
    rename_i y
    refine Nx.sealC (b:=y) fun G2 hG2 hsy=>?_
    refine jZ (vs:=[_,_,_]) F ⟨F,F,F,trivial⟩ F ⟨hG2,F,?_⟩
    rw [aF]
    exact ⟨_,_,_,F,fun _=>⟨.nd 102 [110,111] 0 [],y,F,by unfold d6;rw [hy,if_neg dC,hp,if_pos rfl];rfl,.leaf 102 _ _ _ _ hsy (.inr (.inr ⟨rfl,rfl,rfl,.inr rfl⟩))⟩,fun h=>(by cases h)⟩
  | false =>
   have hn : ¬ ((([110,111] : ac1).length : Nat) ≤ s.length ∧ s.take ([110,111] : ac1).length = [110,111]):=fun h=>by rw [(hpf _).2 h] at hp;cases hp
   have hn' : ¬ ((((([110,111] : ac1).length : Nat) : Int)) ≤ s.length ∧ s.take (((([110,111] : ac1).length : Nat) : Int)).toNat = [110,111]):=fun h=>hn ⟨oM,h.2⟩
   by_cases h1' : (((([110,111] : ac1).length : Nat) : Int)) ≤ s.length
   ·have h2' : ¬ s.take (((([110,111] : ac1).length : Nat) : Int)).toNat = [110,111]:=fun h=>hn' ⟨h1',h⟩
    repeat' (first | refine jM ?_ | (refine jo ?_;first | refine aH F ?_ | refine jV (ay F F oM) ?_ | refine ak F ?_) | refine ax F F (ar ‹_›) ?_ | refine ac F F ?_ | refine ad F (aA ‹_›) ?_)
    exact aX 2 ⟨oM,fun _=>hy,fun _=>rfl⟩ oM tU F aW
   ·repeat' (first | refine jM ?_ | (refine jo ?_;first | refine aw F ?_ | refine jV (ay F F oM) ?_ | refine ak F ?_) | refine aj F F (aA ‹_›) ?_ | refine ac F F ?_ | refine ad F F ?_)
    exact aX 2 ⟨oM,fun _=>hy,fun _=>rfl⟩ oM tU F aW
 ·repeat' (first | refine jR ?_ | refine ad F F ?_)
  refine jZ (vs:=[_,_,_]) F ⟨F,F,F,trivial⟩ F ⟨Gh.le.refl _,F,?_⟩
  rw [aF]
  exact ⟨_,_,_,F,fun h=>(by cases h),fun _=>by unfold d6;rw [hi1 oM,if_neg dC,hi2 oM,if_neg dC]⟩
theorem rm {u : Value} {x : bZ} {s : ac1} (hs : s.length ≤ 100000000) (hu : u.oneCell' = true) (hf : bR G (gJ x) 4 x.2.fields.length (aI gC x.2.fields)) (hl : x.2.fields.length ≤ 1000) :
  aC ac0 151 [Ag [u],S s,Ag (jk x)] G (fun v=>∃ n,v = Tu [Ag (gC ((br x.2.fields n).getD zF)),S (s.dropWhile aY),Bo ((aL (s.takeWhile aY) 200).isSome && (br x.2.fields n).isSome)] ∧ ∀ m,aL (s.takeWhile aY) 200 = some m → n = m):=by
 have cx_dg:=sI (G:=G) hs
 obtain ⟨e1,e2⟩:=oN aY s
 have hwl:=dQ aY s
 have hlen : (s.take ((((s.takeWhile aY).length : Nat) : Int)).toNat).length ≤ 100000000:=by rw [e1];omega
 simp only [jk]
 refine jE [(0,_),(1,_),(2,_)] Tryz.func151 Tryz.ntmps151 fun B hB=>?_
 repeat' (first | refine jM ?_ | (refine jo ?_;first | refine jO fun _=>?_ | refine jL fun _=>?_ | refine aN F ?_ | refine ab F F F cx_dg F ?_ | (refine cZ F F F (gc oM) F ?_;rintro _ ⟨n,rfl,hnum⟩)))
 rename_i n
 have cx_fld:=gF (G:=G) (tag:=n) hf hl
 rw [e1] at hnum
 cases hm : (aL (s.take ((((s.takeWhile aY).length : Nat) : Int)).toNat) 200).isSome with
 | false =>
  repeat' (first | refine jR ?_ | (refine jo ?_;first | refine jL fun _=>?_ | refine jC F F F ?_ | refine ab F F F cx_fld F ?_) | (refine ai (dA (id:=4) (tt:=6) F ah ?_);refine jW 6 [1,2,3,4,5] (aa 11 62) ?_;(try (refine Nx.re (d:=34) (v':=Bo false) F (congrArg Value.bool F) ?_));refine jW 5 [6] (aa 11 126) ?_;(refine jG (aa 11 127) 0 F (bo F F F F) ?_);((refine jG (aa 11 255) 7 F (bc F F ?_) ?_;(focus ((rfl);done))));refine jA 8 F ?_;(refine jC F F F ?_);refine jK (aa 11 511) ?_;refine jW 0 [9,10] (aa 11 2047) ?_;refine jQ ?_))
  all_goals refine jZ (vs:=[_,_,_]) F ⟨av F F F F,F,F,trivial⟩ F ⟨F,F,?_⟩
  all_goals (rw [aF];exact ⟨n,by rw [e1] at hm;rw [hm,e2];rfl,hnum⟩)
 | true =>
  repeat' (first | refine jR ?_ | (refine jo ?_;first | refine jL fun _=>?_ | refine jC F F F ?_ | refine ab F F F cx_fld F ?_) | (refine ai (dA (id:=4) (tt:=6) F ah ?_);refine jW 6 [1,2,3,4,5] (aa 11 62) ?_;(try (refine Nx.re (d:=34) (v':=Bo true) F (congrArg Value.bool F) ?_));refine jW 5 [6] (aa 11 126) ?_;(refine jG (aa 11 127) 0 F (bo F F F F) ?_);((refine jG (aa 11 255) 7 F (bD F F ?_) ?_;(focus ((rfl);done))));refine jA 8 F ?_;(refine jC F F F ?_);refine jK (aa 11 511) ?_;refine jW 0 [9,10] (aa 11 2047) ?_;refine jQ ?_))
  all_goals refine jZ (vs:=[_,_,_]) F ⟨av F F F F,F,F,trivial⟩ F ⟨F,F,?_⟩
  all_goals (rw [aF];exact ⟨n,by rw [e1] at hm;rw [hm,e2];rfl,hnum⟩)
def iN (v : V) : Prop:=v.out.length + 1 ≤ 2 * v.tot
theorem j9 : ∀ {ks : List V},(∀ v ∈ ks,iN v) → dc (V.outs ks) + ks.length ≤ 2 * V.tots ks
 | [],_=>by simp [V.outs,dc]
 | v :: r,h=>by
  have h1:=h v (.head _)
  have h2:=j9 fun u hu=>h u (.tail _ hu)
  unfold iN at h1
  simp only [V.outs,dc,List.map_cons,List.sum_cons,V.tots,List.length_cons] at *
  omega
theorem fW {w : Nat} {x : ac1} {t : Int} {ks : List V} (h : ∀ v ∈ ks,iN v) (ht : t ≤ 999999) : iN (.nd w x t ks):=by
 have h1:=j9 h
 have h2:=fM 44 (V.outs ks)
 rw [jr] at h2
 have h4:=rM (w:=w) (x:=x) (e:=ks.isEmpty) (j:=aM 44 (V.outs ks)) ht
 have h5:=dx ks
 unfold iN
 rw [V.out,V.tot]
 omega
theorem pk {α : Type} [Inhabited α] {l : List α} {x : α} (h : x ∈ l) : ∃ i,i < l.length ∧ ae l i = x:=by
 obtain ⟨i,hi,rfl⟩:=List.mem_iff_getElem.1 h
 exact ⟨i,hi,aP hi⟩
theorem gi {ts : List Ty} (hw : SchW ts) {k : ac1} {t : Ty} (h : aT ts k = some t) {d : Fld} (hd : d ∈ t.fields) : d.tag ≤ 999999 ∧ 0 ≤ d.tag:=by
 have:=((hw.ty t (bJ h)).fld d hd).tag
 omega
theorem ec {ts : List Ty} {k : ac1} {t : Ty} (h : aT ts k = some t) : ∃ r,k = 64 :: r:=by
 unfold aT at h
 cases k with
 | nil=>cases h
 | cons c r =>
  unfold bz at h
  dsimp only at h
  by_cases h64 : c.toNat = 64
  ·exact ⟨r,by rw [show c = 64 from UInt8.toNat_inj.1 h64]⟩
  ·rw [if_neg h64] at h;cases h
theorem n9 {ts : List Ty} (hw : SchW ts) {v : V} {k : ac1} {b : Nat} (h : RepR G ts v k b) : iN v:=by
 induction h with
 | leaf w x k tx b h1 h2=>exact fW (by simp) dC
 | lst k b ks bs a c h1 h2 h3 _ ih =>
  exact fW (fun v hv=>by obtain ⟨i,hi,rfl⟩:=pk hv;exact ih i hi) dC
 | non k b h1=>exact fW (by simp) dC
 | opt k b kb b' cc v h0 h1 h2 _ ih=>exact fW (fun u hu=>by simp only [List.mem_singleton] at hu;subst hu;exact ih) dC
 | recd k b t fs bs a a2 c c2 h0 h1 h2 h3 h4 h5 _ ih =>
  refine fW (fun v hv=>?_) dC
  obtain ⟨p,hp,rfl⟩:=List.mem_map.1 hv
  obtain ⟨i,hi,rfl⟩:=pk hp
  exact fW (fun u hu=>by simp only [List.mem_singleton] at hu;subst hu;exact ih i hi) (gi hw h0.1 (h5 i hi)).1
 | enm k b tgb t d h0 h1 h2 h3=>exact fW (by simp) (gi hw h0.1 h1).1
 | uni k b tgb kb b' cc t d v hcc h0 h1 h2 h3 h4 _ ih=>exact fW (fun u hu=>by simp only [List.mem_singleton] at hu;subst hu;exact ih) (gi hw h0.1 h1).1
theorem pn {c : UInt8} {xs : List ac1} {i : Nat} (h : i < xs.length) : aM c (xs.take (i + 1)) = if 0 < i then aM c (xs.take i) ++ c :: ae xs i else ae xs i:=by
 rw [d4 h]
 by_cases hi : 0 < i
 ·rw [if_pos hi,lA]
  rw [ne_eq,List.take_eq_nil_iff]
  rintro (h0 | h0)
  ·omega
  ·subst h0;simp at h
 ·have : i = 0:=oM
  subst this;rfl
theorem mV {ts : List Ty} (hw : SchW ts) {v : V} {k : ac1} {b : Nat} (h : RepR G ts v k b) : v.tot ≤ 1000000000000 → aC ac0 54 [Pt b 0] G (· = S v.out):=by
 induction h with
 | leaf w x k tx b h1 h2 =>
  intro _
  rcases h2 with ⟨rfl,rfl,rfl,_⟩ | ⟨rfl,rfl,rfl⟩ | ⟨rfl,rfl,rfl,_⟩
  all_goals
   refine jE [(0,_)] Tryz.func54 Tryz.ntmps54 fun B hB=>?_
   repeat' (first | refine jX ?_ | (refine jo ?_;refine jV (ao F F aS F F) ?_) | refine ad F F ?_)
   refine jY (vs:=[_]) ?_
   rw [aB,V.out];rfl
 | lst k b ks bs a c h1 h2 h3 hk ih =>
  intro ht
  rw [cC] at ht
  have hb:=j9 (ks:=ks) fun v hv=>by obtain ⟨i,hi,rfl⟩:=pk hv;exact n9 hw (hk i hi)
  have hol:=jr ks
  refine jE [(0,_)] Tryz.func54 Tryz.ntmps54 fun B hB=>?_
  repeat' (first | refine jX ?_ | (refine jo ?_;refine jV (ao F F aS F F) ?_) | refine ac F F ?_)
  refine aR (ι:=Nat) (fun i=>i ≤ ks.length) (fun i=>[(0,Pt b 0),(3,S (91 :: aM 44 ((V.outs ks).take i))),(4,I i)]) (fun _=>G) (fun i=>[]) (fun i=>ks.length - i) 0 ?_ tU F aW (fun i Hi=>?_)
  ·exact Nat.zero_le _
  have hj1:=fM 44 ((V.outs ks).take i)
  have hj2:=eC (V.outs ks) i
  have hj3 : ((V.outs ks).take i).length ≤ ks.length:=by rw [List.length_take];omega
  by_cases hi : i < ks.length
  ·have hti:=fT hi
   have cx_out:=ih i hi oM
   have hou:=lu hi
   have hxi : ae bs i = ae bs i:=rfl
   have hob:=n9 hw (hk i hi)
   unfold iN at hob
   have hst:=pn (c:=44) (xs:=V.outs ks) (i:=i) oM
   rw [hou] at hst
   obtain ⟨kb,ko,kc,e,hs⟩:=h2.expl oM
   simp only [Value.slice.injEq] at e
   obtain ⟨rfl,-,rfl⟩:=e
   by_cases h0 : 0 < i
   ·rw [if_pos h0] at hst
    repeat' (first | refine jX ?_ | (refine jo ?_;first | refine jV (ao F F aS F F) ?_ | (refine jV (dp F F aS ?_ aS F) ?_;focus omega) | refine jV (al F) ?_ | refine jV (ay F F oM) ?_ | refine ab F F F cx_out F ?_) | refine ac F (ar oM) ?_)
    refine Nx.re (d:=3) (v':=S (91 :: aM 44 ((V.outs ks).take (i + 1)))) F (congrArg (fun l=>S l) (by rw [hst];simp)) ?_
    exact aX (i + 1) oM oM tU F aW
   ·rw [if_neg h0] at hst
    have hi0 : i = 0:=oM
    subst hi0
    repeat' (first | refine jX ?_ | (refine jo ?_;first | (refine jV (je F F aS ?_ aS F F) ?_;focus omega) | refine jV (ao F F aS F F) ?_ | refine jV (al F) ?_ | refine jV (ay F F oM) ?_ | refine ab F F F cx_out F ?_) | refine ac F (ar oM) ?_ | refine ad F F ?_)
    refine Nx.re (d:=3) (v':=S (91 :: aM 44 ((V.outs ks).take (0 + 1)))) F (congrArg (fun l=>S l) (by rw [hst];rfl)) ?_
    exact aX (0 + 1) oM oM tU F aW
  ·have hin : i = ks.length:=oM
   subst hin
   repeat' (first | refine jX ?_ | (refine jo ?_;first | refine jV (ao F F aS F F) ?_ | refine jV (al F) ?_) | refine ad F (aA oM) ?_)
   refine jY (vs:=[_]) ?_
   rw [aB,V.out,← hol,List.take_length];rfl
 | non k b h1 =>
  intro _
  refine jE [(0,_)] Tryz.func54 Tryz.ntmps54 fun B hB=>?_
  repeat' (first | refine jX ?_ | (refine jo ?_;first | refine jV (ao F F aS F F) ?_ | refine jV (al F) ?_) | refine ac F F ?_ | refine ad F F ?_)
  refine jY (vs:=[_]) ?_
  rfl
 | opt k b kb b' cc v h0 h1 h2 h3 ih =>
  intro ht
  simp only [cC,V.tots] at ht
  have cx_out:=ih oM
  have hob:=n9 hw h3
  unfold iN at hob
  refine jE [(0,_)] Tryz.func54 Tryz.ntmps54 fun B hB=>?_
  repeat' (first | refine jX ?_ | (refine jo ?_;first | refine jV (ao F F aS F F) ?_ | refine jV (al F) ?_ | refine jV (be F F oM) ?_ | refine ab F F F cx_out F ?_) | refine ac F F ?_ | refine ad F F ?_)
  refine jY (vs:=[_]) ?_
  rw [aB,V.out];rfl
 | recd k b t fs bs a a2 c c2 h0 h1 h2 h3 h4 h5 hk ih =>
  intro ht
  obtain ⟨r,rfl⟩:=ec h0.1
  rw [cC] at ht
  have hB1 : ∀ v ∈ fs.map (fun p : Fld × V=>V.nd 61 [] p.1.tag [p.2]),iN v:=fun v hv=>by
   obtain ⟨p,hp,rfl⟩:=List.mem_map.1 hv
   obtain ⟨i,hi,rfl⟩:=pk hp
   exact fW (fun u hu=>by simp only [List.mem_singleton] at hu;subst hu;exact n9 hw (hk i hi)) (gi hw h0.1 (h5 i hi)).1
  have hb:=j9 hB1
  have hml : (fs.map (fun p : Fld × V=>V.nd 61 [] p.1.tag [p.2])).length = fs.length:=by simp
  have hol:=jr (fs.map (fun p : Fld × V=>V.nd 61 [] p.1.tag [p.2]))
  have hnt : ∀ i,i < fs.length → ae (fs.map (fun p : Fld × V=>V.nd 61 [] p.1.tag [p.2])) i = V.nd 61 [] (ae fs i).1.tag [(ae fs i).2]:=fun i hi=>by rw [aP (by simpa using hi),aP hi];simp
  generalize hKS : fs.map (fun p : Fld × V=>V.nd 61 [] p.1.tag [p.2]) = KS at *
  have cx_nmd : aC ac0 85 [Pt b 0] G (· = S (V.out (.nd 82 [] 0 KS))):=by
   refine jE [(0,_)] Tryz.func85 Tryz.ntmps85 fun B hB=>?_
   repeat' (first | refine jR ?_ | (refine jo ?_;refine jV (ao F F aS F F) ?_) | refine ad F F ?_)
   refine aR (ι:=Nat) (fun i=>i ≤ fs.length) (fun i=>[(0,Pt b 0),(3,S (123 :: aM 44 ((V.outs KS).take i))),(4,I i)]) (fun _=>G) (fun i=>[]) (fun i=>fs.length - i) 0 ?_ tU F aW (fun i Hi=>?_)
   ·exact Nat.zero_le _
   have hj1:=fM 44 ((V.outs KS).take i)
   have hj2:=eC (V.outs KS) i
   have hj3 : ((V.outs KS).take i).length ≤ fs.length:=by rw [List.length_take];omega
   by_cases hi : i < fs.length
   ·have hti:=fT (ks:=KS) (i:=i) oM
    rw [hnt i hi] at hti
    simp only [cC,V.tots] at hti
    have cx_out:=ih i hi oM
    have hou:=lu (ks:=KS) (i:=i) oM
    rw [hnt i hi,fx] at hou
    have hxi : ae bs i = ae bs i:=rfl
    have htg:=gi hw h0.1 (h5 i hi)
    have hdl:=f8 htg.1
    have hob:=n9 hw (hk i hi)
    unfold iN at hob
    have hst:=pn (c:=44) (xs:=V.outs KS) (i:=i) oM
    rw [hou] at hst
    have htn : ae (fs.map fun p : Fld × V=>p.1.tag) i = (ae fs i).1.tag:=by rw [aP (by simpa using hi),aP hi];simp
    have htl : (fs.map fun p : Fld × V=>p.1.tag).length = fs.length:=by simp
    obtain ⟨tgb,to,tc,e,hs1⟩:=h2.expl oM
    simp only [Value.slice.injEq] at e
    obtain ⟨rfl,-,rfl⟩:=e
    obtain ⟨kb,ko,kc,e,hs2⟩:=h3.expl oM
    simp only [Value.slice.injEq] at e
    obtain ⟨rfl,-,rfl⟩:=e
    by_cases hp0 : 0 < i
    ·rw [if_pos hp0] at hst
     repeat' (first | refine jX ?_ | (refine jo ?_;first | refine jV (ao F F aS F F) ?_ | refine jV (al F) ?_) | refine ac F (ar oM) ?_ | (refine ai (am (id:=12) _ (fun _ h=>h) ah ?_);refine jT 12 [0,1,2,3,5,11,12,13,15] (aa 21 47151) ?_;(refine jG (aa 21 47167) 4 F (ao F F aS F F) ?_);(refine jG (aa 21 47231) 6 F (ay F F oM) ?_);((refine jG (aa 21 47359) 7 F (dp F F aS ?_ aS F) ?_;focus omega));(refine jG (aa 21 63743) 14 F (ao F F aS F F) ?_);(refine jG (aa 21 129279) 16 F (ay F F oM) ?_);((refine jG (aa 21 260351) 17 F (dp F F aS ?_ aS F) ?_;focus omega));refine jA 8 F ?_;(refine ab F F F (ga oM) F ?_);refine jS (aa 21 260607) ?_;refine jW 3 [9,10] (aa 21 262143) ?_;refine jA 18 F ?_;(refine ab F F F cx_out F ?_);refine jS (aa 21 524287) ?_;refine jW 0 [19,20] (aa 21 2097151) ?_;refine jQ ?_))
     all_goals
      refine Nx.re (d:=3) (v':=S (123 :: aM 44 ((V.outs KS).take (i + 1)))) F (congrArg (fun l=>S l) (by rw [hst];simp)) ?_
      exact aX (i + 1) oM oM tU F aW
    ·rw [if_neg hp0] at hst
     have hi0 : i = 0:=oM
     subst hi0
     repeat' (first | refine jM ?_ | (refine jo ?_;first | refine jV (ao F F aS F F) ?_ | refine jV (al F) ?_) | refine ac F (ar oM) ?_ | refine ad F F ?_ | (refine ai (am (id:=12) _ (fun _ h=>h) ah ?_);refine jT 12 [0,1,2,3,5,11,12,13,15] (aa 21 47151) ?_;(refine jG (aa 21 47167) 4 F (ao F F aS F F) ?_);(refine jG (aa 21 47231) 6 F (ay F F oM) ?_);((refine jG (aa 21 47359) 7 F (dp F F aS ?_ aS F) ?_;focus omega));(refine jG (aa 21 63743) 14 F (ao F F aS F F) ?_);(refine jG (aa 21 129279) 16 F (ay F F oM) ?_);((refine jG (aa 21 260351) 17 F (je F F aS ?_ aS F F) ?_;focus omega));refine jA 8 F ?_;(refine ab F F F (ga oM) F ?_);refine jS (aa 21 260607) ?_;refine jW 3 [9,10] (aa 21 262143) ?_;refine jA 18 F ?_;(refine ab F F F cx_out F ?_);refine jS (aa 21 524287) ?_;refine jW 0 [19,20] (aa 21 2097151) ?_;refine jQ ?_))
     all_goals
      refine Nx.re (d:=3) (v':=S (123 :: aM 44 ((V.outs KS).take (0 + 1)))) F (congrArg (fun l=>S l) (by rw [hst];simp [aM])) ?_
      exact aX (0 + 1) oM oM tU F aW
   ·have hin : i = fs.length:=oM
    repeat' (first | refine jX ?_ | (refine jo ?_;first | refine jV (ao F F aS F F) ?_ | refine jV (al F) ?_) | refine ad F (aA oM) ?_)
    refine jY (vs:=[_]) ?_
    rw [aB,V.out,hin,← hml,← hol,List.take_length];rfl
  refine jE [(0,_)] Tryz.func54 Tryz.ntmps54 fun B hB=>?_
  repeat' (first | refine jX ?_ | (refine jo ?_;first | refine jV (ao F F aS F F) ?_ | refine ab F F F cx_nmd F ?_) | refine ac F F ?_ | refine ad F F ?_)
  refine jY (vs:=[_]) ?_
  rfl
 | enm k b tgb t d h0 h1 h2 h3 =>
  intro _
  obtain ⟨r,rfl⟩:=ec h0.1
  have htg:=gi hw h0.1 h1
  have hdl:=f8 htg.1
  have cx_nmd : aC ac0 85 [Pt b 0] G (· = S (V.out (.nd 69 [] d.tag []))):=by
   refine jE [(0,_)] Tryz.func85 Tryz.ntmps85 fun B hB=>?_
   repeat' (first | refine jX ?_ | (refine jo ?_;first | refine jV (ao F F aS F F) ?_ | refine jV (be F F oM) ?_ | refine ab F F F (ga oM) F ?_) | refine ac F F ?_ | refine ad F F ?_)
   refine jY (vs:=[_]) ?_
   rw [aB,V.out];rfl
  refine jE [(0,_)] Tryz.func54 Tryz.ntmps54 fun B hB=>?_
  repeat' (first | refine jX ?_ | (refine jo ?_;first | refine jV (ao F F aS F F) ?_ | refine ab F F F cx_nmd F ?_) | refine ac F F ?_ | refine ad F F ?_)
  refine jY (vs:=[_]) ?_
  rfl
 | uni k b tgb kb b' cc t d v hcc h0 h1 h2 h3 h4 hk ih =>
  intro ht
  obtain ⟨r,rfl⟩:=ec h0.1
  have htg:=gi hw h0.1 h1
  have hdl:=f8 htg.1
  simp only [cC,V.tots] at ht
  have cx_out:=ih oM
  have hob:=n9 hw hk
  unfold iN at hob
  have cx_nmd : aC ac0 85 [Pt b 0] G (· = S (V.out (.nd 85 [] d.tag [v]))):=by
   refine jE [(0,_)] Tryz.func85 Tryz.ntmps85 fun B hB=>?_
   repeat' (first | refine jR ?_ | (refine jo ?_;refine jV (ao F F aS F F) ?_) | refine ac F F ?_ | (refine ai (am (id:=3) _ (fun _ h=>h) ah ?_);refine jT 13 [0,1,2,9,10,11] (aa 19 3591) ?_;(refine jG (aa 19 3599) 3 F (ao F F aS F F) ?_);(refine jG (aa 19 3615) 4 F (be F F oM) ?_);(refine jG (aa 19 3647) 5 F (ao F F aS F F) ?_);(refine jG (aa 19 7743) 12 F (ao F F aS F F) ?_);(refine jG (aa 19 15935) 13 F (be F F oM) ?_);(refine jG (aa 19 32319) 14 F (ao F F aS F F) ?_);refine jA 6 F ?_;(refine ab F F F (ga oM) F ?_);refine jS (aa 19 32383) ?_;refine jW 4 [7,8] (aa 19 32767) ?_;refine jA 15 F ?_;(refine ab F F F cx_out F ?_);refine jS (aa 19 65535) ?_;refine jW 0 [16,17,18] (aa 19 524287) ?_;refine jQ ?_))
   all_goals refine jY (vs:=[_]) ?_
   all_goals (rw [aB,V.out];simp [V.outs,dv,aM])
  clear cx_out
  refine jE [(0,_)] Tryz.func54 Tryz.ntmps54 fun B hB=>?_
  repeat' (first | refine jX ?_ | (refine jo ?_;first | refine jV (ao F F aS F F) ?_ | refine ab F F F cx_nmd F ?_) | refine ac F F ?_ | refine ad F F ?_)
  refine jY (vs:=[_]) ?_
  rfl
abbrev zR : TypeId:=42
abbrev zQ : TypeId:=86
def kA (n : Nat) (u : Value) (vs : List bZ) : Prop:=∀ (G : Gh) (k s : ac1),SchR G u vs → aE (af vs) k = true → s.length ≤ 2000000 →
 bi ac0 84 [Ag [u],S s,S k,I (n : Nat)] G (cq (af vs) (rd (af vs) n k s) k)
theorem zq {n : Nat} {u : Value} {vs : List bZ} {k s : ac1} (hR : kA n u vs) (h : SchR G u vs) (hk : aE (af vs) k = true) (hs : s.length ≤ 2000000) (hn : n ≤ 1000) :
  bi ac0 110 [Ag [u],S s,S (91 :: k),I (n + 1 : Nat)] G (cq (af vs) (eR (rd (af vs) n k) (91 :: s)) (91 :: k)):=by
 have edn : ((n + 1 : Nat) : Int) - 1 = (n : Nat):=oM
 by_cases h93 : ∃ s2,s = 93 :: s2
 ·obtain ⟨s2,rfl⟩:=h93
  refine jB [(0,_),(1,_),(2,_),(3,_)] Tryz.func110 Tryz.ntmps110 fun B hok hB hW=>?_
  repeat' (first | refine jX ?_ | (refine jo ?_;first | refine jO fun _=>?_ | refine jV (an F F) ?_ | refine aH F ?_) | refine ax F F F ?_ | refine ac F F ?_ | (refine ai (am (id:=3) _ (fun _ h=>h) ah ?_);refine jW 0 [0,1,2,3,4,5] (aa 6 63) ?_;refine jQ ?_))
  rename_i x4 x11
  refine Nx.sealC (b:=x11) fun G2 hG2 hsy=>?_
  refine jZ (vs:=[_,_,_]) F ⟨F,F,F,trivial⟩ F ⟨hG2,F,?_⟩
  rw [aF]
  exact ⟨_,_,_,F,fun _=>⟨.nd 91 [] 0 [],x11,F,F,.lst k x11 [] [] none 0 hsy ⟨F,.inl ⟨F,F⟩⟩ F (fun i hi=>absurd hi (by simp))⟩,fun h=>(by cases h)⟩
 have hRl : eR (rd (af vs) n k) (91 :: s) = (a9 (rd (af vs) n k) 20 s []).map fun x=>(.nd 91 [] 0 x.1,x.2):=by
  unfold eR
  dsimp only
  rw [if_pos (show (91 : UInt8).toNat = 91 from rfl)]
  cases s with
  | nil =>
   have : rd (af vs) n k [] = none:=by
    cases h : rd (af vs) n k [] with
    | none=>rfl
    | some x=>have:=ic h;simp at this
   simp [a9,this]
  | cons e r' =>
   dsimp only
   rw [if_neg]
   intro h;exact h93 ⟨r',by rw [show e = 93 from UInt8.toNat_inj.1 h]⟩
 have hs0 : s = [] ∨ s ≠ [] ∧ ¬ ((bt s (Int.toNat 0) : Nat) : Int) = 93:=by
  cases s with
  | nil=>exact .inl F
  | cons e r' =>
   refine .inr ⟨by simp,fun h=>h93 ⟨r',?_⟩⟩
   have : bt (e :: r') (Int.toNat 0) = e.toNat:=a6 e r'
   rw [show e = 93 from UInt8.toNat_inj.1 (show e.toNat = 93 by omega)]
 have hkl : k.length ≤ 1000:=by
  have:=(cH (cR hk)).2
  omega
 have hslen : s = [] ∨ 0 < s.length:=by cases s <;> simp
 rcases hs0 with hs0 | ⟨hs0,hs1⟩
 all_goals
  have hslen2 : s ≠ [] → 0 < s.length:=fun h=>by rcases hslen with h' | h';exact absurd h' h;exact h'
  try have hslen3:=hslen2 hs0
  refine jB [(0,_),(1,_),(2,_),(3,_)] Tryz.func110 Tryz.ntmps110 fun B hok hB hW=>?_
  repeat' (first | refine jM ?_ | (refine jo ?_;first | refine jO fun _=>?_ | refine jV (an F F) ?_ | refine aH F ?_ | refine aw F ?_) | refine ax F F (ar ‹_›) ?_ | (refine aj F F ?_ ?_;(focus ((simp [*];done);done))) | (refine ad F (by first | rfl | (refine decide_eq_false ?_;(assumption))) ?_))
  rename_i x4 x11
  refine Nx.addNil zR 1 ?_
  refine aR (ι:=List V × List Nat × Option Addr × Nat × ac1 × Gh) (fun q=>((q.2.1.length = q.1.length ∧ ∀ i,i < q.1.length → RepR q.2.2.2.2.2 (af vs) (ae q.1 i) k (ae q.2.1 i)) ∧ Gh.le G q.2.2.2.2.2) ∧ a9 (rd (af vs) n k) 20 s [] = a9 (rd (af vs) n k) (20 - q.1.length) q.2.2.2.2.1 q.1 ∧ q.1.length ≤ 20 ∧ q.2.2.2.2.1.length ≤ s.length) (fun q=>[(1,S q.2.2.2.2.1),(2,S (91 :: k)),(3,I (n + 1 : Nat)),(4,Pt x4 0),(11,Pt x11 0)]) (fun q=>q.2.2.2.2.2) (fun q=>[.acc (.slice q.2.2.1 q.1.length q.2.2.2.1) zR 1 q.1.length (aI gj q.2.1),.blk x11 (.cells (List.toArray [S (91 :: k),S [],aJ,.slice q.2.2.1 q.1.length q.2.2.2.1]) vh (0,0)),.blk x4 (.cells (List.toArray [u]) zQ (0,0))]) (fun q=>20 - q.1.length) ([],[],none,0,s,G) ?_ tU F aW (fun q Hq=>?_)
  ·exact ⟨⟨⟨F,fun i hi=>absurd hi (by simp)⟩,Gh.le.refl _⟩,F,Nat.zero_le _,Nat.le_refl _⟩
  obtain ⟨ws,bs,a,cap,t,Gq⟩:=q
  dsimp only at Hq ⊢
  obtain ⟨⟨⟨hbl,hreps⟩,hgq⟩,hit,hwl,htl⟩:=Hq
  by_cases h20 : ws.length < 20
  case neg =>
   have e20 : 20 - ws.length = 0:=oM
   repeat' (first | refine jR ?_ | (refine jo ?_;first | refine ak F ?_ | refine jV (al F) ?_) | refine ad F (aA oM) ?_)
   refine jZ (vs:=[_,_,_]) F ⟨F,F,F,trivial⟩ F ⟨hgq,F,?_⟩
   rw [aF]
   exact ⟨_,_,_,F,fun h=>(by cases h),fun _=>by rw [hRl,hit,e20];rfl⟩
  have cx_rd:=hR Gq k t (h.mono hgq) hk oM
  rw [← edn] at cx_rd
  repeat' (first | refine jR ?_ | (refine jo ?_;first | refine ak F ?_ | refine jV (al F) ?_) | refine ac F (ar oM) ?_)
  (refine ai (am (id:=5) _ (fun _ h=>h) ah ?_);refine jW 9 [1,2,3,4,5] (aa 14 62) ?_;(refine jG (aa 14 63) 0 F (bo F F F F) ?_);refine jA 6 F ?_;(refine aK F F F cx_rd F ?_;rintro _ G hle ⟨q1,r1,ok1,rfl,hyes,hno⟩;skip);refine jS (aa 14 127) ?_;refine jT 0 [7,8,9,10,11,12,13] (aa 14 16383) ?_;refine jQ ?_)
  have hgl:=hgq.trans hle
  cases ok1 with
  | false =>
   have hnone : a9 (rd (af vs) n k) (20 - ws.length) t ws = none:=iY (.inl (hno rfl))
   repeat' (first | refine jR ?_ | (refine jo ?_;refine aH F ?_) | refine ax F F F ?_ | refine ac F F ?_)
   refine jZ (vs:=[_,_,_]) F ⟨F,F,F,trivial⟩ F ⟨hgl,F,?_⟩
   rw [aF]
   exact ⟨_,_,_,F,fun h=>(by cases h),fun _=>by rw [hRl,hit,hnone];rfl⟩
  | true =>
   obtain ⟨w,wb,rfl,hf,hrep⟩:=hyes rfl
   have hsh:=ic hf
   cases r1 with
   | nil =>
    have hnone : a9 (rd (af vs) n k) (20 - ws.length) t ws = none:=iY (.inr ⟨w,hf⟩)
    repeat' (first | refine jR ?_ | (refine jo ?_;first | refine aH F ?_ | refine aw F ?_) | refine ax F F F ?_ | refine aj F F F ?_ | refine ac F F ?_)
    refine jZ (vs:=[_,_,_]) F ⟨F,F,F,trivial⟩ F ⟨hgl,F,?_⟩
    rw [aF]
    exact ⟨_,_,_,F,fun h=>(by cases h),fun _=>by rw [hRl,hit,hnone];rfl⟩
   | cons e r2 =>
    have hstep:=iX (vs:=ws) hf (show 0 < 20 - ws.length by omega)
    have he0 : bt (e :: r2) (Int.toNat 0) = e.toNat:=a6 e r2
    simp only [List.length_cons] at hsh
    have hel : (e :: r2).length = r2.length + 1:=rfl
    have hrow : aI gj bs ++ [Pt wb 0] = aI gj (bs ++ [wb]):=(cB gj bs wb).symm
    have hwl1 : (ws ++ [w]).length = ws.length + 1:=by simp
    have hbl1 : (bs ++ [wb]).length = (ws ++ [w]).length:=by simp [hbl]
    have hrp : ∀ i,i < (ws ++ [w]).length → RepR G (af vs) (ae (ws ++ [w]) i) k (ae (bs ++ [wb]) i):=fun i hi=>by
     by_cases h1 : i < ws.length
     ·have e1 : ae (ws ++ [w]) i = ae ws i:=by rw [aP hi,aP h1,List.getElem_append_left h1]
      have e2 : ae (bs ++ [wb]) i = ae bs i:=by rw [aP oM,aP oM,List.getElem_append_left oM]
      rw [e1,e2];exact (hreps i h1).mono hle
     ·have h2 : i = ws.length:=oM
      have e1 : ae (ws ++ [w]) i = w:=by rw [aP hi];simp [h2]
      have e2 : ae (bs ++ [wb]) i = wb:=by rw [aP oM];simp [h2,hbl]
      rw [e1,e2];exact hrep
    by_cases h44 : e.toNat = 44
    ·rw [if_pos h44] at hstep
     have hn93 : ¬ e.toNat = 93:=oM
     repeat' (first | refine jM ?_ | (refine jo ?_;first | refine aw F ?_ | refine ak F ?_ | refine jF fun _=>?_ | refine cQ F F F F F F F F F oM fun _ _=>?_ | refine jD F F F ?_) | (refine aj F F (by first | rfl | (refine decide_eq_false ?_;(omega))) ?_) | (refine ad F (by first | rfl | (refine decide_eq_false ?_;(omega))) ?_))
     rename_i y0 y1 yc
     rw [hrow]
     exact aX (ws ++ [w],bs ++ [wb],some ⟨y1,0,none⟩,yc,r2,G) ⟨⟨⟨hbl1,hrp⟩,hgl⟩,(by dsimp only;rw [hit,hstep,hwl1,Nat.sub_sub]),(by dsimp only;omega),(by dsimp only;omega)⟩ (by dsimp only;omega) tU rfl (by rw [hwl1];repeat (first | exact List.Sublist.refl _ | apply List.Sublist.cons_cons | apply List.Sublist.cons))
    ·rw [if_neg h44] at hstep
     by_cases h93' : e.toNat = 93
     ·rw [if_pos h93'] at hstep
      repeat' (first | refine jM ?_ | (refine jo ?_;first | refine aH F ?_ | refine aw F ?_ | refine ak F ?_ | refine jF fun _=>?_ | refine cQ F F F F F F F F F oM fun _ _=>?_ | refine jD F F F ?_) | refine ax F F (ar oM) ?_ | refine aj F F F ?_ | refine ac F (ar oM) ?_ | refine ad F (aA oM) ?_)
      rename_i y0 y1 yc
      rw [hrow]
      refine Nx.sealS (v:=.slice (some ⟨y1,0,none⟩) (ws.length + 1) yc) fun G2 hG2 hsl=>?_
      refine Nx.sealC (b:=x11) fun G3 hG3 hsg=>?_
      refine jZ (vs:=[_,_,_]) F ⟨F,F,F,trivial⟩ F ⟨((hgl.trans hG2).trans hG3),F,?_⟩
      rw [aF]
      exact ⟨_,_,_,F,fun _=>⟨.nd 91 [] 0 (ws ++ [w]),x11,F,by rw [hRl,hit,hstep];rfl,.lst k x11 _ (bs ++ [wb]) (some ⟨y1,0,none⟩) yc (by rw [hwl1];exact hsg) (by rw [hwl1];exact hsl.mono hG3) hbl1 (fun i hi=>(hrp i hi).mono (hG2.trans hG3))⟩,fun h=>(by cases h)⟩
     ·rw [if_neg h93'] at hstep
      repeat' (first | refine jM ?_ | (refine jo ?_;first | refine aH F ?_ | refine aw F ?_) | refine ax F F (ar oM) ?_ | refine aj F F F ?_ | refine ac F (ar oM) ?_)
      refine jZ (vs:=[_,_,_]) F ⟨F,F,F,trivial⟩ F ⟨hgl,F,?_⟩
      rw [aF]
      exact ⟨_,_,_,F,fun h=>(by cases h),fun _=>by rw [hRl,hit,hstep];rfl⟩
section
variable {P : Program} {n : Nat} {D : List Deferred} {E : bw} {M : World → Prop} {d : Option Nat} {ty : TypeId} {pos : String} {aft : Array Edge} {gd : Option (Nat × Bool)}
theorem vJ {T T0 : TypeId} {x : Operand} {desc : TypeDesc} {size bytes b m cap i : Nat} {zero : Value} {G0 : Gh} {L0 : List Own} {cs : List Int} {xs : List Value} {y : Int} [TI P T desc size bytes zero] [Kn M G0 L0] [h : AccB L0 b m cap T0 1 xs] (hx : ev E x = some (Pt b (0 + i * 1))) (ha : dD desc = false) (hxs : xs = aI eh cs) (hi : i < cs.length) (hy : ae cs i = y) :
  Gives P n D E M ⟨d,.load T x,ty,pos,aft,gd⟩ (I y):=g7 hx ha (by
 have:=(eY (S:=M) h.mem).go (i * 1 + 0) (I y) (by rw [hxs,fa hi oM,hy];rfl)
 simpa using this)
end
def iv (fs : List (Fld × V)) : Int:=match fs.getLast? with
 | some p=>p.1.tag
 | none=>0
def mC (fs : List (Fld × V)) : List V:=fs.map fun p=>.nd 61 [] p.1.tag [p.2]
theorem uA (fs : List (Fld × V)) (p : Fld × V) : iv (fs ++ [p]) = p.1.tag:=by simp [iv]
abbrev xD : TypeId:=42
abbrev xG : TypeId:=3
abbrev tFd : TypeId:=128
abbrev zN : TypeId:=122
theorem v4 {n : Nat} {u : Value} {vs : List bZ} {x : bZ} {k s : ac1} (hR : kA n u vs) (h : SchR G u vs) (hw : SchW (af vs)) (hx : x ∈ vs) (hrf : aT (af vs) k = some x.2) (hso : x.2.sort = 82) (hs : s.length ≤ 2000000) (hn : n ≤ 1000) (hkl : k.length ≤ 1000) :
  bi ac0 150 [Ag [u],S s,S k,Ag (jk x),I (n + 1 : Nat)] G (cq (af vs) (aZ (af vs) (rd (af vs) n) x.2 (123 :: s)) k):=by
 have edn : ((n + 1 : Nat) : Int) - 1 = (n : Nat):=oM
 have hxt : x.2 ∈ af vs:=List.mem_map_of_mem hx
 have hTW:=hw.ty _ hxt
 have hfl:=hTW.len
 by_cases h125 : ∃ s2,s = 125 :: s2
 ·obtain ⟨s2,rfl⟩:=h125
  have hgood : aZ (af vs) (rd (af vs) n) x.2 (123 :: 125 :: s2) = some (.nd 82 [] 0 [],s2):=by
   unfold aZ
   dsimp only
   rw [if_pos hso,if_pos (show (123 : UInt8).toNat = 123 from rfl),if_pos (show (125 : UInt8).toNat = 125 from rfl)]
  refine jB [(0,_),(1,_),(2,_),(3,_),(4,_)] Tryz.func150 Tryz.ntmps150 fun B hok hB hW=>?_
  repeat' (first | refine jX ?_ | (refine jo ?_;first | refine jO fun _=>?_ | refine jV (an F F) ?_ | refine aH F ?_) | refine ax F F F ?_ | refine ac F F ?_ | (refine ai (am (id:=3) _ (fun _ h=>h) ah ?_);refine jW 0 [0,1,2,3,4,5] (aa 6 63) ?_;refine jQ ?_))
  rename_i x5 x8 x13
  refine Nx.sealC (b:=x13) fun G2 hG2 hsy=>?_
  refine jZ (vs:=[_,_,_]) F ⟨F,F,F,trivial⟩ F ⟨hG2,F,?_⟩
  rw [aF]
  exact ⟨_,_,_,F,fun _=>⟨.nd 82 [] 0 [],x13,F,hgood,.recd k x13 x.2 [] [] none none 0 0 ⟨hrf,hso⟩ hsy ⟨F,.inl ⟨F,F⟩⟩ ⟨F,.inl ⟨F,F⟩⟩ F (fun i hi=>absurd hi (by simp)) (fun i hi=>absurd hi (by simp))⟩,fun h=>(by cases h)⟩
 have hRl : aZ (af vs) (rd (af vs) n) x.2 (123 :: s) = (bK (af vs) (rd (af vs) n) x.2 (s.length + 1) 0 s []).map fun x=>(.nd 82 [] 0 x.1,x.2):=by
  unfold aZ
  dsimp only
  rw [if_pos hso,if_pos (show (123 : UInt8).toNat = 123 from rfl)]
  cases s with
  | nil=>rw [dU kF];rfl
  | cons e r' =>
   dsimp only
   rw [if_neg]
   intro h;exact h125 ⟨r',by rw [show e = 125 from UInt8.toNat_inj.1 h]⟩
 have hs0 : s = [] ∨ s ≠ [] ∧ ¬ ((bt s (Int.toNat 0) : Nat) : Int) = 125:=by
  cases s with
  | nil=>exact .inl F
  | cons e r' =>
   refine .inr ⟨by simp,fun h=>h125 ⟨r',?_⟩⟩
   have : bt (e :: r') (Int.toNat 0) = e.toNat:=a6 e r'
   rw [show e = 125 from UInt8.toNat_inj.1 (show e.toNat = 125 by omega)]
 have hslen : s = [] ∨ 0 < s.length:=by cases s <;> simp
 rcases hs0 with hs0 | ⟨hs0,hs1⟩
 ·subst hs0
  have cx_tg:=rm (G:=G) (u:=u) (x:=x) (s:=[]) (by simp) h.sl.one (h.fl x hx) oM
  have e0 : aL (([] : ac1).takeWhile aY) 200 = none:=by
   cases h : aL (([] : ac1).takeWhile aY) 200 with
   | none=>rfl
   | some m =>
    have:=(dm h).2.1
    have h2:=gE m
    rw [← this] at h2;simp at h2
  rw [e0] at cx_tg
  refine jB [(0,_),(1,_),(2,_),(3,_),(4,_)] Tryz.func150 Tryz.ntmps150 fun B hok hB hW=>?_
  repeat' (first | refine jR ?_ | (refine jo ?_;first | refine jO fun _=>?_ | refine jV (an F F) ?_ | refine aw F ?_) | refine aj F F F ?_ | refine ad F F ?_)
  rename_i x5 x8 x13
  refine aR (ι:=Unit) (fun i=>True) (fun i=>[(1,S []),(2,S k),(4,I (n + 1 : Nat)),(5,Pt x5 0),(8,Pt x8 0),(13,Pt x13 0)]) (fun _=>G) (fun i=>[.blk x13 (.cells (List.toArray [S k,S [82],aJ,aJ]) vh (0,0)),.blk x8 (.cells (List.toArray [U8 x.2.sort,S x.2.name,gJ x]) zN (0,0)),.blk x5 (.cells (List.toArray [u]) zQ (0,0))]) (fun i=>0) () ?_ tU F aW (fun i Hi=>?_)
  ·trivial
  repeat' (first | refine jR ?_ | (refine jo ?_;first | refine aN F ?_ | refine jL fun _=>?_ | refine jC F F F ?_ | (refine cZ F F F cx_tg F ?_;rintro _ ⟨nt,rfl,hnt⟩)) | refine ac F F ?_ | (refine ai (am (id:=5) _ (fun _ h=>h) ah ?_);refine jT 33 [0,1,2] (aa 36 7) ?_;(try (refine Nx.re (d:=43) (v':=Bo true) F (congrArg Value.bool F) ?_));refine jT 31 [3,4] (aa 36 31) ?_;(refine jG (aa 36 63) 5 F (bD F F F) ?_);refine jT 29 [6] (aa 36 127) ?_;(try (refine Nx.re (d:=47) (v':=Bo true) F (congrArg Value.bool F) ?_));refine jT 26 [7,8,9] (aa 36 1023) ?_;(refine jG (aa 36 2047) 10 F (bD F F F) ?_);refine jT 24 [11] (aa 36 4095) ?_;(try (refine Nx.re (d:=52) (v':=Bo true) F (congrArg Value.bool F) ?_));refine jT 21 [12,13,14] (aa 36 32767) ?_;(refine jN (aa 36 65535) 15 F ?_);(refine jN (aa 36 131071) 16 F ?_);refine jT 17 [17,18] (aa 36 524287) ?_;(try (fail));refine jT 10 [19,20,21,23,24,25,31] (aa 36 2210398207) ?_;(refine jN (aa 36 2214592511) 22 F ?_);(refine jN (aa 36 2281701375) 26 F ?_);(refine jN (aa 36 2415919103) 27 F ?_);refine jT 6 [28] (aa 36 2684354559) ?_;(refine jN (aa 36 3221225471) 29 F ?_);(refine jN (aa 36 4294967295) 30 F ?_);(refine jN (aa 36 8589934591) 32 F ?_);refine jT 2 [33] (aa 36 17179869183) ?_;(refine jN (aa 36 34359738367) 34 F ?_);(refine jG (aa 36 68719476735) 35 F (bD F F F) ?_);refine jQ ?_))
  all_goals refine jZ (vs:=[_,_,_]) F ⟨F,F,F,trivial⟩ F ⟨Gh.le.refl _,F,?_⟩
  all_goals (rw [aF];exact ⟨_,_,_,F,fun h=>(by cases h),fun _=>by rw [hRl,dU kF];rfl⟩)
 ·have hslen3 : 0 < s.length:=List.length_pos_iff.2 hs0
  refine jB [(0,_),(1,_),(2,_),(3,_),(4,_)] Tryz.func150 Tryz.ntmps150 fun B hok hB hW=>?_
  repeat' (first | refine jM ?_ | (refine jo ?_;first | refine jO fun _=>?_ | refine jV (an F F) ?_ | refine aH F ?_) | refine ax F F (ar ‹_›) ?_ | refine ad F (aA ‹_›) ?_)
  rename_i x5 x8 x13
  refine Nx.addNil xG 1 (Nx.addNil xD 1 ?_)
  refine aR (ι:=List (Fld × V) × List Nat × Option Addr × Nat × Option Addr × Nat × ac1 × Nat × Gh) (fun q=>((q.2.1.length = q.1.length ∧ (∀ i,i < q.1.length → (ae q.1 i).1 ∈ x.2.fields) ∧ ∀ i,i < q.1.length → RepR q.2.2.2.2.2.2.2.2 (af vs) (ae q.1 i).2 (ae q.1 i).1.kind (ae q.2.1 i)) ∧ Gh.le G q.2.2.2.2.2.2.2.2) ∧ (bK (af vs) (rd (af vs) n) x.2 (s.length + 1) 0 s [] = bK (af vs) (rd (af vs) n) x.2 q.2.2.2.2.2.2.2.1 (iv q.1) q.2.2.2.2.2.2.1 (mC q.1) ∧ q.2.2.2.2.2.2.1.length < q.2.2.2.2.2.2.2.1) ∧ q.2.2.2.2.2.2.1.length ≤ s.length ∧ q.1.length + q.2.2.2.2.2.2.1.length ≤ s.length) (fun q=>[(1,S q.2.2.2.2.2.2.1),(2,S k),(4,I (n + 1 : Nat)),(5,Pt x5 0),(8,Pt x8 0),(13,Pt x13 0)]) (fun q=>q.2.2.2.2.2.2.2.2) (fun q=>[.acc (.slice q.2.2.2.2.1 q.1.length q.2.2.2.2.2.1) xD 1 q.1.length (aI gj q.2.1),.acc (.slice q.2.2.1 q.1.length q.2.2.2.1) xG 1 q.1.length (aI eh (q.1.map fun p=>p.1.tag)),.blk x13 (.cells (List.toArray [S k,S [82],.slice q.2.2.1 q.1.length q.2.2.2.1,.slice q.2.2.2.2.1 q.1.length q.2.2.2.2.2.1]) vh (0,0)),.blk x8 (.cells (List.toArray [U8 x.2.sort,S x.2.name,gJ x]) zN (0,0)),.blk x5 (.cells (List.toArray [u]) zQ (0,0))]) (fun q=>q.2.2.2.2.2.2.1.length) ([],[],none,0,none,0,s,s.length + 1,G) ?_ tU F aW (fun q Hq=>?_)
  ·exact ⟨⟨⟨F,fun i hi=>absurd hi (by simp),fun i hi=>absurd hi (by simp)⟩,Gh.le.refl _⟩,⟨F,Nat.lt_succ_self _⟩,Nat.le_refl _,by simp⟩
  obtain ⟨fs,bs,a1,c1,a2,c2,t,m,Gq⟩:=q
  dsimp only at Hq ⊢
  obtain ⟨⟨⟨hbl,hfm,hreps⟩,hgq⟩,⟨hit,htm⟩,htl,hft⟩:=Hq
  have cx_tg:=rm (G:=Gq) (u:=u) (x:=x) (s:=t) oM h.sl.one ((h.mono hgq).fl x hx) oM
  repeat' (first | refine jR ?_ | (refine jo ?_;first | refine aN F ?_ | refine jL fun _=>?_ | refine jC F F F ?_ | (refine cZ F F F cx_tg F ?_;rintro _ ⟨nt,rfl,hnt⟩)))
  have hnone : ∀ {v : Value} {G' : Gh} {r : ac1},bK (af vs) (rd (af vs) n) x.2 m (iv fs) t (mC fs) = none → v = Tu [.pointer none,S r,Bo false] → cq (af vs) (aZ (af vs) (rd (af vs) n) x.2 (123 :: s)) k v G':=fun h1 h2=>⟨_,_,_,h2,fun h=>(by cases h),fun _=>by rw [hRl,hit,h1];rfl⟩
  cases hb16 : (aL (t.takeWhile aY) 200).isSome && (br x.2.fields nt).isSome with
  | false =>
   have hno : aQ (rd (af vs) n) x.2 t = none:=by
    cases hm : aL (t.takeWhile aY) 200 with
    | none=>exact fh (.inl hm)
    | some m0 =>
     refine fh (.inr ⟨m0,hm,?_⟩)
     rw [hm] at hb16
     rw [← hnt m0 hm]
     cases hf : br x.2.fields nt with
     | none=>rfl
     | some d=>rw [hf] at hb16;cases hb16
   (refine ai (am (id:=5) _ (fun _ h=>h) ah ?_);refine jT 33 [0,1,2] (aa 36 7) ?_;(try (refine Nx.re (d:=43) (v':=Bo true) F (congrArg Value.bool F) ?_));refine jT 31 [3,4] (aa 36 31) ?_;(refine jG (aa 36 63) 5 F (bD F F F) ?_);refine jT 29 [6] (aa 36 127) ?_;(try (refine Nx.re (d:=47) (v':=Bo true) F (congrArg Value.bool F) ?_));refine jT 26 [7,8,9] (aa 36 1023) ?_;(refine jG (aa 36 2047) 10 F (bD F F F) ?_);refine jT 24 [11] (aa 36 4095) ?_;(try (refine Nx.re (d:=52) (v':=Bo true) F (congrArg Value.bool F) ?_));refine jT 21 [12,13,14] (aa 36 32767) ?_;(refine jN (aa 36 65535) 15 F ?_);(refine jN (aa 36 131071) 16 F ?_);refine jT 17 [17,18] (aa 36 524287) ?_;(try (fail));refine jT 10 [19,20,21,23,24,25,31] (aa 36 2210398207) ?_;(refine jN (aa 36 2214592511) 22 F ?_);(refine jN (aa 36 2281701375) 26 F ?_);(refine jN (aa 36 2415919103) 27 F ?_);refine jT 6 [28] (aa 36 2684354559) ?_;(refine jN (aa 36 3221225471) 29 F ?_);(refine jN (aa 36 4294967295) 30 F ?_);(refine jN (aa 36 8589934591) 32 F ?_);refine jT 2 [33] (aa 36 17179869183) ?_;(refine jN (aa 36 34359738367) 34 F ?_);(refine jG (aa 36 68719476735) 35 F (bD F F F) ?_);refine jQ ?_)
   repeat' (first | refine jR ?_ | refine ac F F ?_)
   all_goals refine jZ (vs:=[_,_,_]) F ⟨F,F,F,trivial⟩ F ⟨hgq,F,?_⟩
   all_goals exact hnone (dU hno) F
  | true =>
   simp only [Bool.and_eq_true] at hb16
   obtain ⟨hb1,hb2⟩:=hb16
   obtain ⟨m0,hm⟩:=Option.isSome_iff_exists.1 hb1
   obtain ⟨d,hd⟩:=Option.isSome_iff_exists.1 hb2
   have hnm:=hnt m0 hm
   subst hnm
   rw [hd]
   simp only [Option.getD_some]
   have hdm : d ∈ x.2.fields:=List.mem_of_find?_eq_some hd
   have hdt : d.tag = nt:=by have:=List.find?_some hd;simpa using this
   have hwl:=dQ aY t
   cases hdw : t.dropWhile aY with
   | nil =>
    have hno : aQ (rd (af vs) n) x.2 t = none:=g8 hm (fun s2 h=>by rw [hdw] at h;cases h)
    (refine ai (am (id:=5) _ (fun _ h=>h) ah ?_);refine jT 33 [0,1,2] (aa 36 7) ?_;(try (refine Nx.re (d:=43) (v':=Bo false) F (congrArg Value.bool F) ?_));refine jT 31 [3,4] (aa 36 31) ?_;(refine jG (aa 36 63) 5 F (bc F F F) ?_);refine jT 29 [6] (aa 36 127) ?_;(try (refine Nx.re (d:=47) (v':=Bo true) F (congrArg Value.bool F) ?_));refine jT 26 [7,8,9] (aa 36 1023) ?_;(refine jG (aa 36 2047) 10 F (bD F F F) ?_);refine jT 24 [11] (aa 36 4095) ?_;(try (refine Nx.re (d:=52) (v':=Bo true) F (congrArg Value.bool F) ?_));refine jT 21 [12,13,14] (aa 36 32767) ?_;(refine jN (aa 36 65535) 15 F ?_);(refine jN (aa 36 131071) 16 F ?_);refine jT 17 [17,18] (aa 36 524287) ?_;(try (fail));refine jT 10 [19,20,21,23,24,25,31] (aa 36 2210398207) ?_;(refine jN (aa 36 2214592511) 22 F ?_);(refine jN (aa 36 2281701375) 26 F ?_);(refine jN (aa 36 2415919103) 27 F ?_);refine jT 6 [28] (aa 36 2684354559) ?_;(refine jN (aa 36 3221225471) 29 F ?_);(refine jN (aa 36 4294967295) 30 F ?_);(refine jN (aa 36 8589934591) 32 F ?_);refine jT 2 [33] (aa 36 17179869183) ?_;(refine jN (aa 36 34359738367) 34 F ?_);(refine jG (aa 36 68719476735) 35 F (bD F F F) ?_);refine jQ ?_)
    repeat' (first | refine jR ?_ | refine ac F F ?_)
    all_goals refine jZ (vs:=[_,_,_]) F ⟨F,F,F,trivial⟩ F ⟨hgq,F,?_⟩
    all_goals exact hnone (dU hno) F
   | cons e r2 =>
    have he0 : bt (e :: r2) (Int.toNat 0) = e.toNat:=a6 e r2
    have hel : (e :: r2).length = r2.length + 1:=rfl
    by_cases h61 : e.toNat = 61
    case neg =>
     have hno : aQ (rd (af vs) n) x.2 t = none:=g8 hm (fun s2 h=>by rw [hdw] at h;simp only [List.cons.injEq] at h;exact h61 (by rw [h.1];rfl))
     (refine ai (am (id:=5) _ (fun _ h=>h) ah ?_);refine jT 33 [0,1,2] (aa 36 7) ?_;(try (refine Nx.re (d:=43) (v':=Bo false) F (congrArg Value.bool F) ?_));refine jT 31 [3,4] (aa 36 31) ?_;(refine jG (aa 36 63) 5 F (bc F F F) ?_);refine jT 29 [6] (aa 36 127) ?_;(try (refine Nx.re (d:=47) (v':=Bo false) F (congrArg Value.bool F) ?_));refine jW 26 [7,8,9] (aa 36 1023) ?_;(refine jG (aa 36 2047) 10 F (bc F F F) ?_);refine jT 24 [11] (aa 36 4095) ?_;(try ((refine Nx.re (d:=52) (v':=Bo true) F (congrArg Value.bool (ar oM)) ?_)));refine jT 21 [12,13,14] (aa 36 32767) ?_;(refine jN (aa 36 65535) 15 F ?_);(refine jN (aa 36 131071) 16 F ?_);refine jT 17 [17,18] (aa 36 524287) ?_;(try (fail));refine jT 10 [19,20,21,23,24,25,31] (aa 36 2210398207) ?_;(refine jN (aa 36 2214592511) 22 F ?_);(refine jN (aa 36 2281701375) 26 F ?_);(refine jN (aa 36 2415919103) 27 F ?_);refine jT 6 [28] (aa 36 2684354559) ?_;(refine jN (aa 36 3221225471) 29 F ?_);(refine jN (aa 36 4294967295) 30 F ?_);(refine jN (aa 36 8589934591) 32 F ?_);refine jT 2 [33] (aa 36 17179869183) ?_;(refine jN (aa 36 34359738367) 34 F ?_);(refine jG (aa 36 68719476735) 35 F (bD F F F) ?_);refine jQ ?_)
     repeat' (first | refine jR ?_ | refine ac F F ?_)
     all_goals refine jZ (vs:=[_,_,_]) F ⟨F,F,F,trivial⟩ F ⟨hgq,F,?_⟩
     all_goals exact hnone (dU hno) F
    have he61 : e = 61:=UInt8.toNat_inj.1 h61
    have hfs:=lH (f:=rd (af vs) n) (t:=x.2) (s:=t) hm hd (by rw [hdw,he61])
    have hm0 : 0 < m:=oM
    have hflt : (fs.map fun p : Fld × V=>p.1.tag).length = fs.length:=by simp
    have hdt1:=((hTW.fld d hdm).tag).1
    have hlast0 : fs.length = 0 → iv fs = 0:=fun h0=>by rw [List.length_eq_zero_iff.1 h0];rfl
    have hlast1 : 0 < fs.length → ae (fs.map fun p : Fld × V=>p.1.tag) (((fs.length : Nat) : Int) - 1).toNat = iv fs:=fun h0=>by
     have e1 : (((fs.length : Nat) : Int) - 1).toNat = fs.length - 1:=oM
     rw [e1,aP (by rw [hflt];omega)]
     unfold iv
     rw [List.getLast?_eq_getElem?,List.getElem?_eq_getElem oM]
     simp
    rename_i x14
    have hf0 : fs.length = 0 ∨ 0 < fs.length:=oM
    by_cases hlt : d.tag ≤ iv fs
    ·have hpos : 0 < fs.length:=by
      rcases hf0 with h0 | h0
      ·have:=hlast0 h0;omega
      ·exact h0
     have hyl:=hlast1 hpos
     have hno : bK (af vs) (rd (af vs) n) x.2 m (iv fs) t (mC fs) = none:=by
      cases hy : rd (af vs) n d.kind r2 with
      | none=>exact dU (by rw [hfs,hy];rfl)
      | some y =>
       obtain ⟨w,r3⟩:=y
       rw [kj (d:=d) (v:=w) (r:=r3) (by rw [hfs,hy];rfl) hm0,if_pos (.inl hlt)]
     refine Nx.shp (v:=.slice a1 fs.length c1) (.tail _ (.tail _ (.head _))) fun hsh=>?_
     obtain ⟨tb1,tc1,e1⟩:=hsh.pos oM
     simp only [Value.slice.injEq] at e1
     obtain ⟨rfl,-,rfl⟩:=e1
     (refine ai (am (id:=5) _ (fun _ h=>h) ah ?_);refine jT 33 [0,1,2] (aa 36 7) ?_;(try (refine Nx.re (d:=43) (v':=Bo false) F (congrArg Value.bool F) ?_));refine jT 31 [3,4] (aa 36 31) ?_;(refine jG (aa 36 63) 5 F (bc F F F) ?_);refine jT 29 [6] (aa 36 127) ?_;(try (refine Nx.re (d:=47) (v':=Bo false) F (congrArg Value.bool F) ?_));refine jW 26 [7,8,9] (aa 36 1023) ?_;(refine jG (aa 36 2047) 10 F (bc F F F) ?_);refine jT 24 [11] (aa 36 4095) ?_;(try ((refine Nx.re (d:=52) (v':=Bo false) F (congrArg Value.bool (aA oM)) ?_)));refine jT 21 [12,13,14] (aa 36 32767) ?_;(refine jG (aa 36 65535) 15 F (aD F F F) ?_);(refine jG (aa 36 131071) 16 F (al F) ?_);refine jT 17 [17,18] (aa 36 524287) ?_;(try ((refine Nx.re (d:=59) (v':=Bo true) F (congrArg Value.bool (ar oM)) ?_)));refine jT 10 [19,20,21,23,24,25,31] (aa 36 2210398207) ?_;(refine jG (aa 36 2214592511) 22 F (aD F F F) ?_);(refine jG (aa 36 2281701375) 26 F (aD F F F) ?_);(refine jG (aa 36 2415919103) 27 F (al F) ?_);refine jW 6 [28] (aa 36 2684354559) ?_;(refine jG (aa 36 3221225471) 29 F (be F F oM) ?_);((refine jG (aa 36 4294967295) 30 F (vJ F F F ?_ aS) ?_;focus omega));(refine jG (aa 36 8589934591) 32 F (aD F F F) ?_);refine jT 2 [33] (aa 36 17179869183) ?_;(refine jG (aa 36 34359738367) 34 F (bD F F F) ?_);(refine jG (aa 36 68719476735) 35 F (bc F F F) ?_);refine jQ ?_)
     repeat' (first | refine jR ?_ | refine ac F (ar ‹_›) ?_)
     all_goals refine jZ (vs:=[_,_,_]) F ⟨F,F,F,trivial⟩ F ⟨hgq,F,?_⟩
     all_goals exact hnone hno F
    have hSq:=h.mono hgq
    have hdk : aE (af vs) d.kind = true:=dK hw hxt oM hdm
    rw [hdw,List.length_cons] at hwl
    have cx_rd:=hR Gq d.kind r2 hSq hdk oM
    rw [← edn] at cx_rd
    rcases hf0 with hf0 | hf0
    rotate_left
    have hyl:=hlast1 hf0
    refine Nx.shp (v:=.slice a1 fs.length c1) (.tail _ (.tail _ (.head _))) fun hsh=>?_
    obtain ⟨tb1,tc1,e1⟩:=hsh.pos oM
    simp only [Value.slice.injEq] at e1
    obtain ⟨rfl,-,rfl⟩:=e1
    all_goals
     (refine ai (am (id:=5) _ (fun _ h=>h) ah ?_);refine jT 33 [0,1,2] (aa 36 7) ?_;(try (refine Nx.re (d:=43) (v':=Bo false) F (congrArg Value.bool F) ?_));refine jT 31 [3,4] (aa 36 31) ?_;(refine jG (aa 36 63) 5 F (bc F F F) ?_);refine jT 29 [6] (aa 36 127) ?_;(try (refine Nx.re (d:=47) (v':=Bo false) F (congrArg Value.bool F) ?_));refine jW 26 [7,8,9] (aa 36 1023) ?_;(refine jG (aa 36 2047) 10 F (bc F F F) ?_);refine jT 24 [11] (aa 36 4095) ?_;(try ((refine Nx.re (d:=52) (v':=Bo false) F (congrArg Value.bool (aA oM)) ?_)));refine jT 21 [12,13,14] (aa 36 32767) ?_;(refine jG (aa 36 65535) 15 F (aD F F F) ?_);(refine jG (aa 36 131071) 16 F (al F) ?_);refine jT 17 [17,18] (aa 36 524287) ?_;(try (first | (refine Nx.re (d:=59) (v':=Bo true) F (congrArg Value.bool (ar oM)) ?_) | (refine Nx.re (d:=59) (v':=Bo false) F (congrArg Value.bool (aA oM)) ?_)));refine jT 10 [19,20,21,23,24,25,31] (aa 36 2210398207) ?_;(first | refine jG (aa 36 2214592511) 22 F (aD F F F) ?_ | refine jN (aa 36 2214592511) 22 F ?_);(first | refine jG (aa 36 2281701375) 26 F (aD F F F) ?_ | refine jN (aa 36 2281701375) 26 F ?_);(first | refine jG (aa 36 2415919103) 27 F (al F) ?_ | refine jN (aa 36 2415919103) 27 F ?_);refine jW 6 [28] (aa 36 2684354559) ?_;(first | refine jG (aa 36 3221225471) 29 F (be F F oM) ?_ | refine jN (aa 36 3221225471) 29 F ?_);(first | (refine jG (aa 36 4294967295) 30 F (vJ F F F ?_ aS) ?_;focus omega) | refine jN (aa 36 4294967295) 30 F ?_);(first | refine jG (aa 36 8589934591) 32 F (aD F F F) ?_ | refine jN (aa 36 8589934591) 32 F ?_);refine jT 2 [33] (aa 36 17179869183) ?_;(first | refine jG (aa 36 34359738367) 34 F (bD F F F) ?_ | refine jG (aa 36 34359738367) 34 F (bc F F F) ?_);(refine jG (aa 36 68719476735) 35 F (bc F F F) ?_);refine jQ ?_)
     repeat' (first | refine jR ?_ | (refine ad F (by first | rfl | (refine decide_eq_false ?_;(assumption))) ?_))
     (refine ai (am (id:=7) _ (fun _ h=>h) ah ?_);refine jW 10 [1,2,3,5,6] (aa 15 110) ?_;(refine jG (aa 15 111) 0 F (bo F F F F) ?_);(refine jG (aa 15 127) 4 F (aD F F F) ?_);refine jA 7 F ?_;(refine aK F F F cx_rd F ?_;rintro _ G hle ⟨q1,r1,ok1,rfl,hyes,hno⟩;skip);refine jS (aa 15 255) ?_;refine jT 0 [8,9,10,11,12,13,14] (aa 15 32767) ?_;refine jQ ?_)
     repeat' (refine jR ?_)
     have hgl:=hgq.trans hle
     cases ok1 with
     | false =>
      have hno2 : aQ (rd (af vs) n) x.2 t = none:=by rw [hfs,hno rfl];rfl
      (refine ai (am (id:=8) _ (fun _ h=>h) ah ?_);refine jT 22 [0,1,2] (aa 25 7) ?_;(try (refine Nx.re (d:=92) (v':=Bo true) F (congrArg Value.bool F) ?_));refine jT 20 [3,5] (aa 25 47) ?_;(refine jN (aa 25 111) 6 F ?_);(refine jN (aa 25 239) 7 F ?_);(refine jN (aa 25 255) 4 F ?_);(refine jN (aa 25 511) 8 F ?_);refine jT 15 [9] (aa 25 1023) ?_;(refine jG (aa 25 2047) 10 F (bD F F F) ?_);refine jT 13 [11] (aa 25 4095) ?_;(try (refine Nx.re (d:=101) (v':=Bo true) F (congrArg Value.bool F) ?_));refine jT 11 [12,13] (aa 25 16383) ?_;(refine jG (aa 25 32767) 14 F (bD F F F) ?_);refine jT 9 [15] (aa 25 65535) ?_;(try (refine Nx.re (d:=105) (v':=Bo true) F (congrArg Value.bool F) ?_));refine jT 5 [16,17,18,19] (aa 25 1048575) ?_;(try (fail));refine jT 2 [20,21,22] (aa 25 8388607) ?_;(refine jN (aa 25 16777215) 23 F ?_);(refine jG (aa 25 33554431) 24 F (bD F F F) ?_);refine jQ ?_)
      repeat' (first | refine jR ?_ | refine ac F F ?_)
      all_goals refine jZ (vs:=[_,_,_]) F ⟨F,F,F,trivial⟩ F ⟨hgl,F,?_⟩
      all_goals exact hnone (dU hno2) F
     | true =>
      obtain ⟨w,wb,rfl,hf,hrep⟩:=hyes rfl
      have hsh:=ic hf
      have htt:=iB _ _ _ _ hf
      dsimp only at htt hsh
      have hob:=n9 hw hrep
      unfold iN at hob
      have cx_out:=mV hw hrep oM
      have cx_sta:=oD (f:=d) (h.mono hgl) hw hdk
      have hfd : aQ (rd (af vs) n) x.2 t = some ((d,w),r1):=by rw [hfs,hf];rfl
      have hst:=kj (ts:=af vs) (vs:=mC fs) (last:=iv fs) hfd hm0
      by_cases heq : w.out = bI (af vs) d
      ·rw [if_pos (.inr heq)] at hst
       (refine ai (am (id:=8) _ (fun _ h=>h) ah ?_);refine jT 22 [0,1,2] (aa 25 7) ?_;(try (refine Nx.re (d:=92) (v':=Bo false) F (congrArg Value.bool F) ?_));refine jT 20 [3,5] (aa 25 47) ?_;(refine jG (aa 25 111) 6 F (aD F F F) ?_);(refine jG (aa 25 239) 7 F (bo F F F F) ?_);(refine jA 4 F ?_;(refine ab F F F cx_out F ?_);refine jS (aa 25 255) ?_);(refine jA 8 F ?_;(refine ab F F F cx_sta F ?_);refine jS (aa 25 511) ?_);refine jT 15 [9] (aa 25 1023) ?_;(refine jG (aa 25 2047) 10 F (bc F F F) ?_);refine jT 13 [11] (aa 25 4095) ?_;(try (refine Nx.re (d:=101) (v':=Bo true) F (congrArg Value.bool (ar ‹_›)) ?_));refine jT 11 [12,13] (aa 25 16383) ?_;(refine jG (aa 25 32767) 14 F (bD F F F) ?_);refine jT 9 [15] (aa 25 65535) ?_;(try (refine Nx.re (d:=105) (v':=Bo true) F (congrArg Value.bool F) ?_));refine jT 5 [16,17,18,19] (aa 25 1048575) ?_;(try (fail));refine jT 2 [20,21,22] (aa 25 8388607) ?_;(refine jN (aa 25 16777215) 23 F ?_);(refine jG (aa 25 33554431) 24 F (bD F F F) ?_);refine jQ ?_)
       repeat' (first | refine jR ?_ | refine ac F F ?_)
       all_goals refine jZ (vs:=[_,_,_]) F ⟨F,F,F,trivial⟩ F ⟨hgl,F,?_⟩
       all_goals exact hnone hst F
      rw [if_neg (fun h=>by rcases h with h | h;exact hlt h;exact heq h)] at hst
      cases r1 with
      | nil =>
       (refine ai (am (id:=8) _ (fun _ h=>h) ah ?_);refine jT 22 [0,1,2] (aa 25 7) ?_;(try (refine Nx.re (d:=92) (v':=Bo false) F (congrArg Value.bool F) ?_));refine jT 20 [3,5] (aa 25 47) ?_;(refine jG (aa 25 111) 6 F (aD F F F) ?_);(refine jG (aa 25 239) 7 F (bo F F F F) ?_);(refine jA 4 F ?_;(refine ab F F F cx_out F ?_);refine jS (aa 25 255) ?_);(refine jA 8 F ?_;(refine ab F F F cx_sta F ?_);refine jS (aa 25 511) ?_);refine jT 15 [9] (aa 25 1023) ?_;(refine jG (aa 25 2047) 10 F (bc F F F) ?_);refine jT 13 [11] (aa 25 4095) ?_;(try (refine Nx.re (d:=101) (v':=Bo false) F (congrArg Value.bool (aA ‹_›)) ?_));refine jT 11 [12,13] (aa 25 16383) ?_;(refine jG (aa 25 32767) 14 F (bc F F F) ?_);refine jT 9 [15] (aa 25 65535) ?_;(try (refine Nx.re (d:=105) (v':=Bo true) F (congrArg Value.bool F) ?_));refine jT 5 [16,17,18,19] (aa 25 1048575) ?_;(try (fail));refine jT 2 [20,21,22] (aa 25 8388607) ?_;(refine jN (aa 25 16777215) 23 F ?_);(refine jG (aa 25 33554431) 24 F (bD F F F) ?_);refine jQ ?_)
       repeat' (first | refine jR ?_ | refine ac F F ?_)
       all_goals refine jZ (vs:=[_,_,_]) F ⟨F,F,F,trivial⟩ F ⟨hgl,F,?_⟩
       all_goals exact hnone hst F
      | cons e2 r3 =>
       have he20 : bt (e2 :: r3) (Int.toNat 0) = e2.toNat:=a6 e2 r3
       have hel2 : (e2 :: r3).length = r3.length + 1:=rfl
       have hl' : (fs ++ [(d,w)]).length = fs.length + 1:=by simp
       have hbl' : (bs ++ [wb]).length = (fs ++ [(d,w)]).length:=by simp [hbl]
       have hnth : ∀ i,i < (fs ++ [(d,w)]).length → (i < fs.length ∧ ae (fs ++ [(d,w)]) i = ae fs i ∧ ae (bs ++ [wb]) i = ae bs i) ∨ (ae (fs ++ [(d,w)]) i = (d,w) ∧ ae (bs ++ [wb]) i = wb):=fun i hi=>by
        by_cases h1 : i < fs.length
        ·exact .inl ⟨h1,by rw [aP hi,aP h1,List.getElem_append_left h1],by rw [aP oM,aP oM,List.getElem_append_left oM]⟩
        ·have h2 : i = fs.length:=oM
         exact .inr ⟨by rw [aP hi];simp [h2],by rw [aP oM];simp [h2,hbl]⟩
       have hfm' : ∀ i,i < (fs ++ [(d,w)]).length → (ae (fs ++ [(d,w)]) i).1 ∈ x.2.fields:=fun i hi=>by
        rcases hnth i hi with ⟨h1,h2,_⟩ | ⟨h2,_⟩
        ·rw [h2];exact hfm i h1
        ·rw [h2];exact hdm
       have hreps' : ∀ i,i < (fs ++ [(d,w)]).length → RepR G (af vs) (ae (fs ++ [(d,w)]) i).2 (ae (fs ++ [(d,w)]) i).1.kind (ae (bs ++ [wb]) i):=fun i hi=>by
        rcases hnth i hi with ⟨h1,h2,h3⟩ | ⟨h2,h3⟩
        ·rw [h2,h3];exact (hreps i h1).mono hle
        ·rw [h2,h3];exact hrep
       have hrow1 : aI eh (fs.map fun p=>p.1.tag) ++ [I d.tag] = aI eh ((fs ++ [(d,w)]).map fun p=>p.1.tag):=by rw [List.map_append];exact (cB eh _ d.tag).symm
       have hrow2 : aI gj bs ++ [Pt wb 0] = aI gj (bs ++ [wb]):=(cB gj bs wb).symm
       have hnd : mC (fs ++ [(d,w)]) = mC fs ++ [.nd 61 [] d.tag [w]]:=by simp [mC]
       dsimp only at hst
       by_cases h44 : e2.toNat = 44
       ·rw [if_pos h44] at hst
        have hn93 : ¬ e2.toNat = 125:=oM
        (refine ai (am (id:=8) _ (fun _ h=>h) ah ?_);refine jT 22 [0,1,2] (aa 25 7) ?_;(try (refine Nx.re (d:=92) (v':=Bo false) F (congrArg Value.bool F) ?_));refine jT 20 [3,5] (aa 25 47) ?_;(refine jG (aa 25 111) 6 F (aD F F F) ?_);(refine jG (aa 25 239) 7 F (bo F F F F) ?_);(refine jA 4 F ?_;(refine ab F F F cx_out F ?_);refine jS (aa 25 255) ?_);(refine jA 8 F ?_;(refine ab F F F cx_sta F ?_);refine jS (aa 25 511) ?_);refine jT 15 [9] (aa 25 1023) ?_;(refine jG (aa 25 2047) 10 F (bc F F F) ?_);refine jT 13 [11] (aa 25 4095) ?_;(try (refine Nx.re (d:=101) (v':=Bo false) F (congrArg Value.bool (aA ‹_›)) ?_));refine jT 11 [12,13] (aa 25 16383) ?_;(refine jG (aa 25 32767) 14 F (bc F F F) ?_);refine jT 9 [15] (aa 25 65535) ?_;(try (refine Nx.re (d:=105) (v':=Bo false) F (congrArg Value.bool F) ?_));refine jW 5 [16,17,18,19] (aa 25 1048575) ?_;(try ((refine Nx.re (d:=109) (v':=Bo false) F (congrArg Value.bool (aA oM)) ?_)));refine jT 2 [20,21,22] (aa 25 8388607) ?_;(refine jG (aa 25 16777215) 23 F (bc F F F) ?_);(refine jG (aa 25 33554431) 24 F (bc F F F) ?_);refine jQ ?_)
        repeat' (first | refine jR ?_ | refine ad F F ?_)
        (refine ai (am (id:=10) [.blk x14 (.cells (List.toArray [I d.tag,S d.name,S d.kind,S d.stand]) tFd (0,0))] (by intro y hy;simp only [List.mem_cons,List.not_mem_nil,or_false] at hy ⊢;simp [hy]) ah ?_);refine jW 7 [0,1,2,3,5] (aa 12 47) ?_;(refine jG (aa 12 111) 6 F (aD F F F) ?_);refine dN [4,7] kR dC ⟨?_,?_,trivial⟩;(focus (refine b6 F F ?_;(refine ak F ?_);refine jK (aa 12 127) ?_;refine jA 7 F ?_;(refine jF fun _=>?_);refine jK (aa 12 255) ?_;refine jA 8 F ?_;((refine cQ F F F F F F F F F ?_ fun _ _=>?_;focus omega));refine jK (aa 12 511) ?_;refine jW 1 [9,10] (aa 12 2047) ?_;refine jA 11 F ?_;(refine jD F F F ?_);refine jK (aa 12 4095) ?_;refine jQ ?_));rotate_left 1;(focus (refine b6 F F ?_;(refine jF fun _=>?_);refine jK (aa 12 239) ?_;refine jA 4 F ?_;(refine ak F ?_);refine jK (aa 12 255) ?_;refine jA 8 F ?_;((refine cQ F F F F F F F F F ?_ fun _ _=>?_;focus omega));refine jK (aa 12 511) ?_;refine jW 1 [9,10] (aa 12 2047) ?_;refine jA 11 F ?_;(refine jD F F F ?_);refine jK (aa 12 4095) ?_;refine jQ ?_));rotate_left 1)
        all_goals repeat' (first | refine jM ?_ | (refine jo ?_;first | refine ak F ?_ | refine jD F F F ?_ | refine jF fun _=>?_ | refine cQ F F F F F F F F F oM fun _ _=>?_) | refine ad F (aA oM) ?_)
        all_goals
         rename_i _ y1 yc1 _ y2 yc2
         rw [hrow1,hrow2]
         exact aX (fs ++ [(d,w)],bs ++ [wb],some ⟨y1,0,none⟩,yc1,some ⟨y2,0,none⟩,yc2,r3,m - 1,G) ⟨⟨⟨hbl',hfm',hreps'⟩,hgl⟩,⟨(by dsimp only;rw [hit,hst,uA,hnd]),(by dsimp only;omega)⟩,(by dsimp only;omega),(by dsimp only;omega)⟩ (by dsimp only;omega) tU rfl (by rw [hl'];repeat (first | exact List.Sublist.refl _ | apply List.Sublist.cons_cons | apply List.Sublist.cons))
       ·rw [if_neg h44] at hst
        by_cases h125' : e2.toNat = 125
        ·rw [if_pos h125'] at hst
         (refine ai (am (id:=8) _ (fun _ h=>h) ah ?_);refine jT 22 [0,1,2] (aa 25 7) ?_;(try (refine Nx.re (d:=92) (v':=Bo false) F (congrArg Value.bool F) ?_));refine jT 20 [3,5] (aa 25 47) ?_;(refine jG (aa 25 111) 6 F (aD F F F) ?_);(refine jG (aa 25 239) 7 F (bo F F F F) ?_);(refine jA 4 F ?_;(refine ab F F F cx_out F ?_);refine jS (aa 25 255) ?_);(refine jA 8 F ?_;(refine ab F F F cx_sta F ?_);refine jS (aa 25 511) ?_);refine jT 15 [9] (aa 25 1023) ?_;(refine jG (aa 25 2047) 10 F (bc F F F) ?_);refine jT 13 [11] (aa 25 4095) ?_;(try (refine Nx.re (d:=101) (v':=Bo false) F (congrArg Value.bool (aA ‹_›)) ?_));refine jT 11 [12,13] (aa 25 16383) ?_;(refine jG (aa 25 32767) 14 F (bc F F F) ?_);refine jT 9 [15] (aa 25 65535) ?_;(try (refine Nx.re (d:=105) (v':=Bo false) F (congrArg Value.bool F) ?_));refine jW 5 [16,17,18,19] (aa 25 1048575) ?_;(try ((refine Nx.re (d:=109) (v':=Bo true) F (congrArg Value.bool (ar oM)) ?_)));refine jW 2 [20,21,22] (aa 25 8388607) ?_;(refine jG (aa 25 16777215) 23 F (bD F F F) ?_);(refine jG (aa 25 33554431) 24 F (bc F F F) ?_);refine jQ ?_)
         repeat' (first | refine jR ?_ | refine ad F (aA oM) ?_)
         (refine ai (am (id:=10) [.blk x14 (.cells (List.toArray [I d.tag,S d.name,S d.kind,S d.stand]) tFd (0,0))] (by intro y hy;simp only [List.mem_cons,List.not_mem_nil,or_false] at hy ⊢;simp [hy]) ah ?_);refine jW 7 [0,1,2,3,5] (aa 12 47) ?_;(refine jG (aa 12 111) 6 F (aD F F F) ?_);refine dN [4,7] kR dC ⟨?_,?_,trivial⟩;(focus (refine b6 F F ?_;(refine ak F ?_);refine jK (aa 12 127) ?_;refine jA 7 F ?_;(refine jF fun _=>?_);refine jK (aa 12 255) ?_;refine jA 8 F ?_;((refine cQ F F F F F F F F F ?_ fun _ _=>?_;focus omega));refine jK (aa 12 511) ?_;refine jW 1 [9,10] (aa 12 2047) ?_;refine jA 11 F ?_;(refine jD F F F ?_);refine jK (aa 12 4095) ?_;refine jQ ?_));rotate_left 1;(focus (refine b6 F F ?_;(refine jF fun _=>?_);refine jK (aa 12 239) ?_;refine jA 4 F ?_;(refine ak F ?_);refine jK (aa 12 255) ?_;refine jA 8 F ?_;((refine cQ F F F F F F F F F ?_ fun _ _=>?_;focus omega));refine jK (aa 12 511) ?_;refine jW 1 [9,10] (aa 12 2047) ?_;refine jA 11 F ?_;(refine jD F F F ?_);refine jK (aa 12 4095) ?_;refine jQ ?_));rotate_left 1)
         all_goals repeat' (first | refine jM ?_ | (refine jo ?_;first | refine ak F ?_ | refine jD F F F ?_ | refine jF fun _=>?_ | refine cQ F F F F F F F F F oM fun _ _=>?_) | refine ac F (ar oM) ?_)
         all_goals
          rename_i _ y1 yc1 _ y2 yc2
          rw [hrow1,hrow2]
          refine Nx.sealS (v:=.slice (some ⟨y1,0,none⟩) (fs.length + 1) yc1) fun G2 hG2 hs1=>?_
          refine Nx.sealS (v:=.slice (some ⟨y2,0,none⟩) (fs.length + 1) yc2) fun G3 hG3 hs2=>?_
          refine Nx.sealC (b:=x13) fun G4 hG4 hsg=>?_
          refine jZ (vs:=[_,_,_]) F ⟨F,F,F,trivial⟩ F ⟨(((hgl.trans hG2).trans hG3).trans hG4),F,?_⟩
          rw [aF]
          exact ⟨_,_,_,F,fun _=>⟨.nd 82 [] 0 (mC (fs ++ [(d,w)])),x13,F,(by rw [hRl,hit,hst,hnd];rfl),.recd k x13 x.2 (fs ++ [(d,w)]) (bs ++ [wb]) (some ⟨y1,0,none⟩) (some ⟨y2,0,none⟩) yc1 yc2 ⟨hrf,hso⟩ (by rw [hl'];exact hsg) (by rw [hl'];exact (hs1.mono hG3).mono hG4) (by rw [hl'];exact hs2.mono hG4) hbl' hfm' (fun i hi=>(hreps' i hi).mono ((hG2.trans hG3).trans hG4))⟩,fun h=>(by cases h)⟩
        ·rw [if_neg h125'] at hst
         (refine ai (am (id:=8) _ (fun _ h=>h) ah ?_);refine jT 22 [0,1,2] (aa 25 7) ?_;(try (refine Nx.re (d:=92) (v':=Bo false) F (congrArg Value.bool F) ?_));refine jT 20 [3,5] (aa 25 47) ?_;(refine jG (aa 25 111) 6 F (aD F F F) ?_);(refine jG (aa 25 239) 7 F (bo F F F F) ?_);(refine jA 4 F ?_;(refine ab F F F cx_out F ?_);refine jS (aa 25 255) ?_);(refine jA 8 F ?_;(refine ab F F F cx_sta F ?_);refine jS (aa 25 511) ?_);refine jT 15 [9] (aa 25 1023) ?_;(refine jG (aa 25 2047) 10 F (bc F F F) ?_);refine jT 13 [11] (aa 25 4095) ?_;(try (refine Nx.re (d:=101) (v':=Bo false) F (congrArg Value.bool (aA ‹_›)) ?_));refine jT 11 [12,13] (aa 25 16383) ?_;(refine jG (aa 25 32767) 14 F (bc F F F) ?_);refine jT 9 [15] (aa 25 65535) ?_;(try (refine Nx.re (d:=105) (v':=Bo false) F (congrArg Value.bool F) ?_));refine jW 5 [16,17,18,19] (aa 25 1048575) ?_;(try ((refine Nx.re (d:=109) (v':=Bo true) F (congrArg Value.bool (ar oM)) ?_)));refine jW 2 [20,21,22] (aa 25 8388607) ?_;(refine jG (aa 25 16777215) 23 F (bD F F F) ?_);(refine jG (aa 25 33554431) 24 F (bc F F F) ?_);refine jQ ?_)
         repeat' (first | refine jR ?_ | refine ac F (ar oM) ?_)
         all_goals refine jZ (vs:=[_,_,_]) F ⟨F,F,F,trivial⟩ F ⟨hgl,F,?_⟩
         all_goals exact hnone hst F
theorem ug {ts : List Ty} {f : ac1 → ac1 → Option (V × ac1)} {t : Ty} {e : UInt8} {s : ac1} (h : t.sort = 82 ∧ ¬ e.toNat = 123 ∨ t.sort = 69 ∧ ¬ e.toNat = 35 ∨ t.sort = 85 ∧ ¬ e.toNat = 60) : aZ ts f t (e :: s) = none:=by
 unfold aZ
 dsimp only
 rcases h with ⟨h1,h2⟩ | ⟨h1,h2⟩ | ⟨h1,h2⟩
 ·rw [if_pos h1,if_neg h2]
 ·rw [if_neg oM,if_pos h1,if_neg h2]
 ·rw [if_neg oM,if_neg oM,if_neg h2]
theorem aaW {n : Nat} {u : Value} {vs : List bZ} {x : bZ} {k s : ac1} {e : UInt8} (hu : u.oneCell' = true) (cx_rf : aC ac0 113 [u,S k] G (· = Tu [Ag [U8 x.2.sort,S x.2.name,gJ x],Bo true])) (hso : x.2.sort = 82 ∧ ¬ e.toNat = 123 ∨ x.2.sort = 69 ∧ ¬ e.toNat = 35 ∨ x.2.sort = 85 ∧ ¬ e.toNat = 60) (hs : s.length ≤ 2000000) (hn : n ≤ 1000) :
  bi ac0 111 [Ag [u],S (e :: s),S k,I (n + 1 : Nat)] G (cq (af vs) (aZ (af vs) (rd (af vs) n) x.2 (e :: s)) k):=by
 have hno:=ug (ts:=af vs) (f:=rd (af vs) n) (s:=s) hso
 have he0 : bt (e :: s) (Int.toNat 0) = e.toNat:=a6 e s
 have hel : (e :: s).length = s.length + 1:=rfl
 rcases hso with ⟨h1,h2⟩ | ⟨h1,h2⟩ | ⟨h1,h2⟩
 all_goals
  have h1' : (x.2.sort : Int) = 82 ∨ (x.2.sort : Int) = 69 ∨ (x.2.sort : Int) = 85:=oM
  refine jB [(0,_),(1,_),(2,_),(3,_)] Tryz.func111 Tryz.ntmps111 fun B hok hB hW=>?_
  repeat' (first | refine jM ?_ | (refine jo ?_;first | refine jO fun _=>?_ | refine ak F ?_ | refine jL fun _=>?_ | refine jC F F F ?_ | refine aH F ?_ | refine aw F ?_ | refine ab F F F cx_rf F ?_) | refine ax F F (ar oM) ?_ | refine aj F F (aA oM) ?_ | (refine ad F (by first | rfl | (refine decide_eq_false ?_;(omega))) ?_))
  all_goals refine jZ (vs:=[_,_,_]) F ⟨F,F,F,trivial⟩ F ⟨Gh.le.refl _,F,?_⟩
  all_goals (rw [aF];exact ⟨_,_,_,F,fun h=>(by cases h),fun _=>hno⟩)
theorem aaY {n : Nat} {u : Value} {vs : List bZ} {x : bZ} {k s : ac1} (hR : kA n u vs) (h : SchR G u vs) (hw : SchW (af vs)) (hx : x ∈ vs) (hrf : aT (af vs) k = some x.2) (cx_rf : aC ac0 113 [u,S k] G (· = Tu [Ag [U8 x.2.sort,S x.2.name,gJ x],Bo true])) (hso : x.2.sort = 82) (hs : s.length ≤ 1999999) (hn : n ≤ 1000) (hkl : k.length ≤ 1000) :
  bi ac0 111 [Ag [u],S (123 :: s),S k,I (n + 1 : Nat)] G (cq (af vs) (aZ (af vs) (rd (af vs) n) x.2 (123 :: s)) k):=by
 have cx_rc:=v4 (s:=s) hR h hw hx hrf hso oM hn hkl
 have he0 : bt (123 :: s) (Int.toNat 0) = 123:=a6 123 s
 have hel : (123 :: s).length = s.length + 1:=rfl
 have h1' : (x.2.sort : Int) = 82:=oM
 refine jB [(0,_),(1,_),(2,_),(3,_)] Tryz.func111 Tryz.ntmps111 fun B hok hB hW=>?_
 repeat' (first | refine jM ?_ | (refine jo ?_;first | refine jO fun _=>?_ | refine ak F ?_ | refine jL fun _=>?_ | refine jC F F F ?_ | refine aH F ?_ | refine ab F F F cx_rf F ?_) | refine ax F F (ar ‹_›) ?_ | refine ac F F ?_ | (refine ai (am (id:=3) _ (fun _ h=>h) ah ?_);refine jW 9 [1,2,3,5] (aa 13 46) ?_;(refine jG (aa 13 47) 0 F (bo F F F F) ?_);(refine jG (aa 13 63) 4 F (bo F F F F) ?_);refine jA 6 F ?_;(refine aK F F F cx_rc F ?_;rintro _ G hle ⟨q1,r1,ok1,rfl,hyes,hno⟩;skip);refine jS (aa 13 127) ?_;refine jT 0 [7,8,9,10,11,12] (aa 13 8191) ?_;refine jQ ?_))
 refine jZ (vs:=[_,_,_]) F ⟨F,F,F,trivial⟩ F ⟨hle,F,?_⟩
 rw [aF]
 exact ⟨_,_,_,F,hyes,hno⟩
theorem aaZ {n : Nat} {u : Value} {vs : List bZ} {x : bZ} {k s : ac1} (h : SchR G u vs) (hw : SchW (af vs)) (hx : x ∈ vs) (hrf : aT (af vs) k = some x.2) (cx_rf : aC ac0 113 [u,S k] G (· = Tu [Ag [U8 x.2.sort,S x.2.name,gJ x],Bo true])) (hso : x.2.sort = 69) (hs : s.length ≤ 1999999) (hn : n ≤ 1000) :
  bi ac0 111 [Ag [u],S (35 :: s),S k,I (n + 1 : Nat)] G (cq (af vs) (aZ (af vs) (rd (af vs) n) x.2 (35 :: s)) k):=by
 have hxt : x.2 ∈ af vs:=List.mem_map_of_mem hx
 have hTW:=hw.ty _ hxt
 have hfl:=hTW.len
 have cx_tg:=rm (G:=G) (u:=u) (x:=x) (s:=s) oM h.sl.one (h.fl x hx) oM
 have he0 : bt (35 :: s) (Int.toNat 0) = 35:=a6 35 s
 have hel : (35 :: s).length = s.length + 1:=rfl
 have h1' : (x.2.sort : Int) = 69:=oM
 have hRT : aZ (af vs) (rd (af vs) n) x.2 (35 :: s) = match ce 200 s with
   | none=>none
   | some (n,r)=>if (br x.2.fields n).isSome = true then some (.nd 69 [] n [],r) else none:=by
  unfold aZ
  dsimp only
  rw [if_neg oM,if_pos hso,if_pos (show (35 : UInt8).toNat = 35 from rfl)]
  cases ce 200 s <;> rfl
 unfold ce at hRT
 simp only [jk] at cx_tg
 refine jB [(0,_),(1,_),(2,_),(3,_)] Tryz.func111 Tryz.ntmps111 fun B hok hB hW=>?_
 repeat' (first | refine jM ?_ | (refine jo ?_;first | refine jO fun _=>?_ | refine ak F ?_ | refine jL fun _=>?_ | refine jC F F F ?_ | refine aH F ?_ | refine aw F ?_ | refine jF fun _=>?_ | refine jV (an F F) ?_ | refine ab F F F cx_rf F ?_) | refine ax F F (ar ‹_›) ?_ | refine aj F F (aA oM) ?_ | refine ac F F ?_ | refine ad F F ?_ | (refine ai (am (id:=5) _ (fun _ h=>h) ah ?_);refine jW 11 [1,2] (aa 13 6) ?_;(refine jG (aa 13 7) 0 F (bo F F F F) ?_);(refine jG (aa 13 15) 3 F (bo F F F F) ?_);refine dN [4,9] kR dC ⟨?_,?_,trivial⟩;(focus (refine b6 F F ?_;(refine cZ F F F cx_tg F ?_;rintro _ ⟨nt,rfl,hnt⟩);refine jK (aa 13 31) ?_;refine jW 4 [5,6,7,8] (aa 13 511) ?_;refine jA 9 F ?_;(refine jL fun _=>?_);refine jK (aa 13 1023) ?_;refine jA 10 F ?_;(refine jC F F F ?_);refine jK (aa 13 2047) ?_;refine jW 0 [11,12] (aa 13 8191) ?_;refine jQ ?_));rotate_left 1;(focus (refine b6 F F ?_;(refine jL fun _=>?_);refine jK (aa 13 527) ?_;refine jA 4 F ?_;(refine cZ F F F cx_tg F ?_;rintro _ ⟨nt,rfl,hnt⟩);refine jK (aa 13 543) ?_;refine jW 3 [5,6,7,8] (aa 13 1023) ?_;refine jA 10 F ?_;(refine jC F F F ?_);refine jK (aa 13 2047) ?_;refine jW 0 [11,12] (aa 13 8191) ?_;refine jQ ?_));rotate_left 1))
 all_goals
  rename_i y y8
  refine Nx.sealC (b:=y) fun G2 hG2 hsy=>?_
  refine Nx.sealC (b:=y8) fun G3 hG3 hsg=>?_
  refine jZ (vs:=[_,_,_]) F ⟨F,F,F,trivial⟩ F ⟨(hG2.trans hG3),F,?_⟩
  rw [aF]
  refine ⟨_,_,_,F,fun hb=>?_,fun hb=>?_⟩
  ·simp only [Bool.and_eq_true] at hb
   obtain ⟨hb1,hb2⟩:=hb
   obtain ⟨m0,hm⟩:=Option.isSome_iff_exists.1 hb1
   obtain ⟨d,hd⟩:=Option.isSome_iff_exists.1 hb2
   have hnm:=hnt m0 hm
   subst hnm
   rw [hd] at hsy
   simp only [Option.getD_some] at hsy
   have hdm : d ∈ x.2.fields:=List.mem_of_find?_eq_some hd
   have hdt : d.tag = nt:=by have:=List.find?_some hd;simpa using this
   exact ⟨.nd 69 [] d.tag [],y8,F,by rw [hRT,hm];dsimp only [Option.map_some];rw [hd,hdt];rfl,.enm k y8 y x.2 d ⟨hrf,hso⟩ hdm hsg (hsy.mono hG3)⟩
  ·rw [hRT]
   cases hm : aL (s.takeWhile aY) 200 with
   | none=>rfl
   | some m0 =>
    have hnm:=hnt m0 hm
    subst hnm
    rw [hm] at hb
    dsimp only [Option.map_some]
    rw [if_neg]
    intro h2
    rw [h2] at hb;cases hb
theorem aaX {n : Nat} {u : Value} {vs : List bZ} {x : bZ} {k s : ac1} (hR : kA n u vs) (h : SchR G u vs) (hw : SchW (af vs)) (hx : x ∈ vs) (hrf : aT (af vs) k = some x.2) (cx_rf : aC ac0 113 [u,S k] G (· = Tu [Ag [U8 x.2.sort,S x.2.name,gJ x],Bo true])) (hso : x.2.sort = 85) (hs : s.length ≤ 1999999) (hn : n ≤ 1000) :
  bi ac0 111 [Ag [u],S (60 :: s),S k,I (n + 1 : Nat)] G (cq (af vs) (aZ (af vs) (rd (af vs) n) x.2 (60 :: s)) k):=by
 have edn : ((n + 1 : Nat) : Int) - 1 = (n : Nat):=oM
 have hxt : x.2 ∈ af vs:=List.mem_map_of_mem hx
 have hTW:=hw.ty _ hxt
 have hfl:=hTW.len
 have cx_tg:=rm (G:=G) (u:=u) (x:=x) (s:=s) oM h.sl.one (h.fl x hx) oM
 have he0 : bt (60 :: s) (Int.toNat 0) = 60:=a6 60 s
 have hel : (60 :: s).length = s.length + 1:=rfl
 have h1' : (x.2.sort : Int) = 85:=oM
 have hRT : aZ (af vs) (rd (af vs) n) x.2 (60 :: s) = match aQ (rd (af vs) n) x.2 s with
   | none=>none
   | some ((d,v),r)=>match r with
    | []=>none
    | c' :: r'=>if c'.toNat = 62 then some (.nd 85 [] d.tag [v],r') else none:=by
  unfold aZ
  dsimp only
  rw [if_neg oM,if_neg oM,if_pos (show (60 : UInt8).toNat = 60 from rfl)]
  cases aQ (rd (af vs) n) x.2 s <;> rfl
 simp only [jk] at cx_tg
 refine jB [(0,_),(1,_),(2,_),(3,_)] Tryz.func111 Tryz.ntmps111 fun B hok hB hW=>?_
 repeat' (first | refine jM ?_ | (refine jo ?_;first | refine jO fun _=>?_ | refine ak F ?_ | refine jL fun _=>?_ | refine jC F F F ?_ | refine aH F ?_ | refine aw F ?_ | refine ab F F F cx_rf F ?_) | refine ax F F (ar ‹_›) ?_ | refine aj F F (aA oM) ?_ | refine ac F F ?_ | refine ad F F ?_)
 (refine ai (am (id:=8) _ (fun _ h=>h) ah ?_);refine jW 11 [1,2] (aa 13 6) ?_;(refine jG (aa 13 7) 0 F (bo F F F F) ?_);(refine jG (aa 13 15) 3 F (bo F F F F) ?_);refine dN [4,9] kR dC ⟨?_,?_,trivial⟩;(focus (refine b6 F F ?_;(refine cZ F F F cx_tg F ?_;rintro _ ⟨nt,rfl,hnt⟩);refine jK (aa 13 31) ?_;refine jW 4 [5,6,7,8] (aa 13 511) ?_;refine jA 9 F ?_;(refine jL fun _=>?_);refine jK (aa 13 1023) ?_;refine jA 10 F ?_;(refine jC F F F ?_);refine jK (aa 13 2047) ?_;refine jW 0 [11,12] (aa 13 8191) ?_;refine jQ ?_));rotate_left 1;(focus (refine b6 F F ?_;(refine jL fun _=>?_);refine jK (aa 13 527) ?_;refine jA 4 F ?_;(refine cZ F F F cx_tg F ?_;rintro _ ⟨nt,rfl,hnt⟩);refine jK (aa 13 543) ?_;refine jW 3 [5,6,7,8] (aa 13 1023) ?_;refine jA 10 F ?_;(refine jC F F F ?_);refine jK (aa 13 2047) ?_;refine jW 0 [11,12] (aa 13 8191) ?_;refine jQ ?_));rotate_left 1)
 all_goals
  have hnone : ∀ {v : Value} {G' : Gh} {r : ac1},aQ (rd (af vs) n) x.2 s = none → v = Tu [.pointer none,S r,Bo false] → cq (af vs) (aZ (af vs) (rd (af vs) n) x.2 (60 :: s)) k v G':=fun h1 h2=>⟨_,_,_,h2,fun h=>(by cases h),fun _=>by rw [hRT,h1]⟩
  cases hb16 : (aL (s.takeWhile aY) 200).isSome && (br x.2.fields nt).isSome with
  | false =>
   have hno : aQ (rd (af vs) n) x.2 s = none:=by
    cases hm : aL (s.takeWhile aY) 200 with
    | none=>exact fh (.inl hm)
    | some m0 =>
     refine fh (.inr ⟨m0,hm,?_⟩)
     rw [hm] at hb16
     rw [← hnt m0 hm]
     cases hf : br x.2.fields nt with
     | none=>rfl
     | some d=>rw [hf] at hb16;cases hb16
   repeat' (first | refine jR ?_ | (refine jo ?_;refine aH F ?_) | refine ax F F F ?_ | refine ac F F ?_)
   all_goals refine jZ (vs:=[_,_,_]) F ⟨F,F,F,trivial⟩ F ⟨Gh.le.refl _,F,?_⟩
   all_goals exact hnone hno F
  | true =>
   simp only [Bool.and_eq_true] at hb16
   obtain ⟨hb1,hb2⟩:=hb16
   obtain ⟨m0,hm⟩:=Option.isSome_iff_exists.1 hb1
   obtain ⟨d,hd⟩:=Option.isSome_iff_exists.1 hb2
   have hnm:=hnt m0 hm
   subst hnm
   rw [hd]
   simp only [Option.getD_some]
   have hdm : d ∈ x.2.fields:=List.mem_of_find?_eq_some hd
   have hwl:=dQ aY s
   cases hdw : s.dropWhile aY with
   | nil =>
    have hno : aQ (rd (af vs) n) x.2 s = none:=g8 hm (fun s2 h=>by rw [hdw] at h;cases h)
    repeat' (first | refine jR ?_ | (refine jo ?_;first | refine aH F ?_ | refine aw F ?_) | refine ax F F F ?_ | refine aj F F F ?_ | refine ac F F ?_)
    all_goals refine jZ (vs:=[_,_,_]) F ⟨F,F,F,trivial⟩ F ⟨Gh.le.refl _,F,?_⟩
    all_goals exact hnone hno F
   | cons e r2 =>
    have he20 : bt (e :: r2) (Int.toNat 0) = e.toNat:=a6 e r2
    have hel2 : (e :: r2).length = r2.length + 1:=rfl
    by_cases h61 : e.toNat = 61
    case neg =>
     have hno : aQ (rd (af vs) n) x.2 s = none:=g8 hm (fun s2 h=>by rw [hdw] at h;simp only [List.cons.injEq] at h;exact h61 (by rw [h.1];rfl))
     repeat' (first | refine jM ?_ | (refine jo ?_;refine aw F ?_) | refine aj F F F ?_ | refine ac F (ar oM) ?_)
     all_goals refine jZ (vs:=[_,_,_]) F ⟨F,F,F,trivial⟩ F ⟨Gh.le.refl _,F,?_⟩
     all_goals exact hnone hno F
    have he61 : e = 61:=UInt8.toNat_inj.1 h61
    have hfs:=lH (f:=rd (af vs) n) (t:=x.2) (s:=s) hm hd (by rw [hdw,he61])
    have hdk : aE (af vs) d.kind = true:=dK hw hxt oM hdm
    rw [hdw,List.length_cons] at hwl
    have cx_rd:=hR G d.kind r2 h hdk oM
    rw [← edn] at cx_rd
    repeat' (first | refine jM ?_ | (refine jo ?_;refine aw F ?_) | refine aj F F F ?_ | refine ad F (aA oM) ?_)
    (refine ai (am (id:=11) _ (fun _ h=>h) ah ?_);refine jW 10 [1,2,3,5,6] (aa 15 110) ?_;(refine jG (aa 15 111) 0 F (bo F F F F) ?_);(refine jG (aa 15 127) 4 F (aD F F F) ?_);refine jA 7 F ?_;(refine aK F F F cx_rd F ?_;rintro _ G hle ⟨q1,r1,ok1,rfl,hyes,hno⟩;skip);refine jS (aa 15 255) ?_;refine jT 0 [8,9,10,11,12,13,14] (aa 15 32767) ?_;refine jQ ?_)
    cases ok1 with
    | false =>
     have hno2 : aQ (rd (af vs) n) x.2 s = none:=by rw [hfs,hno rfl];rfl
     repeat' (first | refine jR ?_ | (refine jo ?_;refine aH F ?_) | refine ax F F F ?_ | refine ac F F ?_)
     all_goals refine jZ (vs:=[_,_,_]) F ⟨F,F,F,trivial⟩ F ⟨hle,F,?_⟩
     all_goals exact hnone hno2 F
    | true =>
     obtain ⟨w,wb,rfl,hf,hrep⟩:=hyes rfl
     have hfd : aQ (rd (af vs) n) x.2 s = some ((d,w),r1):=by rw [hfs,hf];rfl
     rw [hfd] at hRT
     dsimp only at hRT
     cases r1 with
     | nil =>
      repeat' (first | refine jR ?_ | (refine jo ?_;first | refine aH F ?_ | refine aw F ?_) | refine ax F F F ?_ | refine aj F F F ?_ | refine ac F F ?_)
      all_goals refine jZ (vs:=[_,_,_]) F ⟨F,F,F,trivial⟩ F ⟨hle,F,?_⟩
      all_goals (rw [aF];exact ⟨_,_,_,F,fun h=>(by cases h),fun _=>hRT⟩)
     | cons e3 r3 =>
      have he30 : bt (e3 :: r3) (Int.toNat 0) = e3.toNat:=a6 e3 r3
      have hel3 : (e3 :: r3).length = r3.length + 1:=rfl
      dsimp only at hRT
      by_cases h62 : e3.toNat = 62
      case neg =>
       rw [if_neg h62] at hRT
       repeat' (first | refine jM ?_ | (refine jo ?_;refine aw F ?_) | refine aj F F F ?_ | refine ac F (ar oM) ?_)
       all_goals refine jZ (vs:=[_,_,_]) F ⟨F,F,F,trivial⟩ F ⟨hle,F,?_⟩
       all_goals (rw [aF];exact ⟨_,_,_,F,fun h=>(by cases h),fun _=>hRT⟩)
      rw [if_pos h62] at hRT
      repeat' (first | refine jM ?_ | (refine jo ?_;refine aw F ?_) | refine aj F F F ?_ | refine ad F (aA oM) ?_)
      (refine ai (am (id:=14) _ (fun _ h=>h) ah ?_);refine jW 8 [0,1,4,8,9] (aa 13 787) ?_;(refine jG (aa 13 791) 2 F (aD F F F) ?_);refine dN [3,5] kR dC ⟨?_,?_,trivial⟩;(focus (refine b6 F F ?_;(refine jF fun _=>?_);refine jS (aa 13 799) ?_;refine jA 5 F ?_;(refine jF fun _=>?_);refine jS (aa 13 831) ?_;(refine jG (aa 13 895) 6 F (an F F) ?_);refine jA 7 F ?_;(refine jO fun _=>?_);refine jS (aa 13 1023) ?_;refine jW 0 [10,11,12] (aa 13 8191) ?_;refine jQ ?_));rotate_left 1;(focus (refine b6 F F ?_;(refine jF fun _=>?_);refine jS (aa 13 823) ?_;refine jA 3 F ?_;(refine jF fun _=>?_);refine jS (aa 13 831) ?_;(refine jG (aa 13 895) 6 F (an F F) ?_);refine jA 7 F ?_;(refine jO fun _=>?_);refine jS (aa 13 1023) ?_;refine jW 0 [10,11,12] (aa 13 8191) ?_;refine jQ ?_));rotate_left 1)
      all_goals repeat' (refine jR ?_)
      all_goals
       rename_i y1 y2 y8
       refine Nx.sealC (b:=y1) fun G2 hG2 hs1=>?_
       refine Nx.sealC (b:=y2) fun G3 hG3 hs2=>?_
       refine Nx.sealC (b:=y8) fun G4 hG4 hsg=>?_
       refine jZ (vs:=[_,_,_]) F ⟨F,F,F,trivial⟩ F ⟨(((hle.trans hG2).trans hG3).trans hG4),F,?_⟩
       rw [aF]
       first | exact ⟨_,_,_,F,fun _=>⟨.nd 85 [] d.tag [w],y8,F,hRT,.uni k y8 y1 y2 wb 1 x.2 d w (Nat.le_refl _) ⟨hrf,hso⟩ hdm hsg (hs1.mono (hG3.trans hG4)) (hs2.mono hG4) (hrep.mono ((hG2.trans hG3).trans hG4))⟩,fun h=>(by cases h)⟩ | exact ⟨_,_,_,F,fun _=>⟨.nd 85 [] d.tag [w],y8,F,hRT,.uni k y8 y2 y1 wb 1 x.2 d w (Nat.le_refl _) ⟨hrf,hso⟩ hdm hsg (hs2.mono hG4) (hs1.mono (hG3.trans hG4)) (hrep.mono ((hG2.trans hG3).trans hG4))⟩,fun h=>(by cases h)⟩
theorem z4 {ts : List Ty} {n : Nat} {k : ac1} : rd ts n k [] = none:=by
 cases h : rd ts n k [] with
 | none=>rfl
 | some x=>have:=ic h;simp at this
theorem tS {n : Nat} {u : Value} {vs : List bZ} {k s : ac1} (hc : s = [] ∨ n = 0) (hn : n ≤ 1000) : bi ac0 84 [Ag [u],S s,S k,I (n : Nat)] G (cq (af vs) (rd (af vs) n k s) k):=by
 have hno : rd (af vs) n k s = none:=by
  rcases hc with rfl | rfl
  ·exact z4
  ·rfl
 by_cases hs : s = []
 ·refine jB [(0,_),(1,_),(2,_),(3,_)] Tryz.func84 Tryz.ntmps84 fun B hok hB hW=>?_
  repeat' (first | refine jR ?_ | (refine jo ?_;first | refine jO fun _=>?_ | refine aH F ?_) | refine ax F F (ar ‹_›) ?_ | refine ac F F ?_)
  refine jZ (vs:=[_,_,_]) F ⟨F,F,F,trivial⟩ F ⟨Gh.le.refl _,F,?_⟩
  rw [aF]
  exact ⟨_,_,_,F,fun h=>(by cases h),fun _=>hno⟩
 ·have hn0 : n = 0:=by
   rcases hc with h | h
   ·exact absurd h hs
   ·exact h
  refine jB [(0,_),(1,_),(2,_),(3,_)] Tryz.func84 Tryz.ntmps84 fun B hok hB hW=>?_
  repeat' (first | refine jR ?_ | (refine jo ?_;first | refine jO fun _=>?_ | refine aw F ?_) | refine aj F F (aA ‹_›) ?_ | refine ac F (ar oM) ?_)
  refine jZ (vs:=[_,_,_]) F ⟨F,F,F,trivial⟩ F ⟨Gh.le.refl _,F,?_⟩
  rw [aF]
  exact ⟨_,_,_,F,fun h=>(by cases h),fun _=>hno⟩
theorem zl {n : Nat} {u : Value} {vs : List bZ} {k s : ac1} {e : UInt8} (hR : kA n u vs) (h : SchR G u vs) (hk : aE (af vs) (91 :: k) = true) (hs : s.length ≤ 1999999) (hn : n ≤ 999) :
  bi ac0 84 [Ag [u],S (e :: s),S (91 :: k),I (n + 1 : Nat)] G (cq (af vs) (rd (af vs) (n + 1) (91 :: k) (e :: s)) (91 :: k)):=by
 have hrd : rd (af vs) (n + 1) (91 :: k) (e :: s) = eR (rd (af vs) n k) (e :: s):=by rw [rd];exact rD F
 have he0 : bt (e :: s) (Int.toNat 0) = e.toNat:=a6 e s
 have hel : (e :: s).length = s.length + 1:=rfl
 have hk0 : bt (91 :: k) (Int.toNat 0) = 91:=a6 91 k
 have hkl2 : (91 :: k).length = k.length + 1:=rfl
 by_cases h91 : e.toNat = 91
 ·obtain rfl:=bn h91 dC
  have cx_ls:=zq (s:=s) hR h (dP (.inl rfl) hk) oM oM
  refine jB [(0,_),(1,_),(2,_),(3,_)] Tryz.func84 Tryz.ntmps84 fun B hok hB hW=>?_
  repeat' (first | refine jM ?_ | (refine jo ?_;first | refine jO fun _=>?_ | refine aw F ?_) | refine aj F F F ?_ | refine ac F F ?_ | refine ad F F ?_ | (refine ai (am (id:=7) _ (fun _ h=>h) ah ?_);refine jW 8 [1,2,3,4] (aa 12 30) ?_;(refine jG (aa 12 31) 0 F (bo F F F F) ?_);refine jA 5 F ?_;(refine aK F F F cx_ls F ?_;rintro _ G hle ⟨q1,r1,ok1,rfl,hyes,hno⟩;skip);refine jS (aa 12 63) ?_;refine jT 0 [6,7,8,9,10,11] (aa 12 4095) ?_;refine jQ ?_))
  refine jZ (vs:=[_,_,_]) F ⟨F,F,F,trivial⟩ F ⟨hle,F,?_⟩
  rw [aF,hrd]
  exact ⟨_,_,_,F,hyes,hno⟩
 ·have hno : eR (rd (af vs) n k) (e :: s) = none:=by unfold eR;dsimp only;rw [if_neg h91]
  refine jB [(0,_),(1,_),(2,_),(3,_)] Tryz.func84 Tryz.ntmps84 fun B hok hB hW=>?_
  repeat' (first | refine jM ?_ | (refine jo ?_;first | refine jO fun _=>?_ | refine aw F ?_) | refine aj F F F ?_ | (refine ac F (by first | rfl | (refine decide_eq_true ?_;(omega))) ?_) | refine ad F F ?_)
  refine jZ (vs:=[_,_,_]) F ⟨F,F,F,trivial⟩ F ⟨Gh.le.refl _,F,?_⟩
  rw [aF,hrd]
  exact ⟨_,_,_,F,fun h=>(by cases h),fun _=>hno⟩
theorem zj {n : Nat} {u : Value} {vs : List bZ} {k s : ac1} {e : UInt8} (hR : kA n u vs) (h : SchR G u vs) (hk : aE (af vs) (63 :: k) = true) (hs : s.length ≤ 1999999) (hn : n ≤ 999) :
  bi ac0 84 [Ag [u],S (e :: s),S (63 :: k),I (n + 1 : Nat)] G (cq (af vs) (rd (af vs) (n + 1) (63 :: k) (e :: s)) (63 :: k)):=by
 have edn : ((n + 1 : Nat) : Int) - 1 = (n : Nat):=oM
 have hrd : rd (af vs) (n + 1) (63 :: k) (e :: s) = if e.toNat = 45 then some (.nd 63 [] 0 [],s) else if e.toNat = 43 then (rd (af vs) n k s).map fun x=>(.nd 63 [] 0 [x.1],x.2) else none:=by
  rw [rd];unfold eM
  dsimp only
  rw [if_neg (show ¬ (63 : UInt8).toNat = 91 by decide),if_pos (show (63 : UInt8).toNat = 63 from rfl)]
 have he0 : bt (e :: s) (Int.toNat 0) = e.toNat:=a6 e s
 have hel : (e :: s).length = s.length + 1:=rfl
 have hk0 : bt (63 :: k) (Int.toNat 0) = 63:=a6 63 k
 have hkl2 : (63 :: k).length = k.length + 1:=rfl
 rw [hrd]
 by_cases h45 : e.toNat = 45
 ·rw [if_pos h45]
  refine jB [(0,_),(1,_),(2,_),(3,_)] Tryz.func84 Tryz.ntmps84 fun B hok hB hW=>?_
  repeat' (first | refine jM ?_ | (refine jo ?_;first | refine jO fun _=>?_ | refine aw F ?_) | refine aj F F F ?_ | (refine ac F (by first | rfl | (refine decide_eq_true ?_;(omega))) ?_) | refine ad F F ?_ | (refine ai (am (id:=10) _ (fun _ h=>h) ah ?_);refine jW 5 [0,3,4] (aa 8 25) ?_;(refine jG (aa 8 27) 1 F (an F F) ?_);refine jA 2 F ?_;(refine jO fun _=>?_);refine jS (aa 8 31) ?_;refine jT 0 [5,6,7] (aa 8 255) ?_;refine jQ ?_))
  rename_i y
  refine Nx.sealC (b:=y) fun G2 hG2 hsy=>?_
  refine jZ (vs:=[_,_,_]) F ⟨F,F,F,trivial⟩ F ⟨hG2,F,?_⟩
  rw [aF]
  exact ⟨_,_,_,F,fun _=>⟨_,y,F,F,.non k y hsy⟩,fun h=>(by cases h)⟩
 rw [if_neg h45]
 by_cases h43 : e.toNat = 43
 ·rw [if_pos h43]
  have cx_rd:=hR G k s h (dP (.inr rfl) hk) oM
  rw [← edn] at cx_rd
  refine jB [(0,_),(1,_),(2,_),(3,_)] Tryz.func84 Tryz.ntmps84 fun B hok hB hW=>?_
  repeat' (first | refine jM ?_ | (refine jo ?_;first | refine jO fun _=>?_ | refine aw F ?_ | refine jV (an F F) ?_ | refine jF fun _=>?_) | refine aj F F F ?_ | refine ac F F ?_ | (refine ad F (by first | rfl | (refine decide_eq_false ?_;(omega))) ?_) | (refine ai (am (id:=13) _ (fun _ h=>h) ah ?_);refine jW 9 [1,2,3,4,5,6] (aa 15 126) ?_;(refine jG (aa 15 127) 0 F (bo F F F F) ?_);refine jA 7 F ?_;(refine aK F F F cx_rd F ?_;rintro _ G hle ⟨q1,r1,ok1,rfl,hyes,hno⟩;skip);refine jS (aa 15 255) ?_;refine jT 0 [8,9,10,11,12,13,14] (aa 15 32767) ?_;refine jQ ?_))
  rename_i y1 y8
  refine Nx.sealC (b:=y1) fun G2 hG2 hs1=>?_
  refine Nx.sealC (b:=y8) fun G3 hG3 hsg=>?_
  refine jZ (vs:=[_,_,_]) F ⟨F,F,F,trivial⟩ F ⟨((hle.trans hG2).trans hG3),F,?_⟩
  rw [aF]
  refine ⟨_,_,_,F,fun hb=>?_,fun hb=>by rw [hno hb];rfl⟩
  obtain ⟨w,wb,rfl,hf,hrep⟩:=hyes hb
  exact ⟨.nd 63 [] 0 [w],y8,F,by rw [hf];rfl,.opt k y8 y1 wb 1 w (Nat.le_refl _) hsg (hs1.mono hG3) (hrep.mono (hG2.trans hG3))⟩
 ·rw [if_neg h43]
  refine jB [(0,_),(1,_),(2,_),(3,_)] Tryz.func84 Tryz.ntmps84 fun B hok hB hW=>?_
  repeat' (first | refine jM ?_ | (refine jo ?_;first | refine jO fun _=>?_ | refine aw F ?_) | refine aj F F F ?_ | (refine ac F (by first | rfl | (refine decide_eq_true ?_;(omega))) ?_) | (refine ad F (by first | rfl | (refine decide_eq_false ?_;(omega))) ?_))
  refine jZ (vs:=[_,_,_]) F ⟨F,F,F,trivial⟩ F ⟨Gh.le.refl _,F,?_⟩
  rw [aF]
  exact ⟨_,_,_,F,fun h=>(by cases h),fun _=>rfl⟩
theorem zm {n : Nat} {u : Value} {vs : List bZ} {k s : ac1} {e : UInt8} {t : Ty} (hR : kA n u vs) (h : SchR G u vs) (hw : SchW (af vs)) (hk : aE (af vs) k = true) (hrf : aT (af vs) k = some t) (hs : s.length ≤ 1999999) (hn : n ≤ 999) :
  bi ac0 84 [Ag [u],S (e :: s),S k,I (n + 1 : Nat)] G (cq (af vs) (rd (af vs) (n + 1) k (e :: s)) k):=by
 obtain ⟨r,rfl⟩:=ec hrf
 have hkk:=cH (cR hk)
 have hrd : rd (af vs) (n + 1) (64 :: r) (e :: s) = aZ (af vs) (rd (af vs) n) t (e :: s):=by
  rw [rd];unfold eM
  dsimp only
  rw [if_neg (show ¬ (64 : UInt8).toNat = 91 by decide),if_neg (show ¬ (64 : UInt8).toNat = 63 by decide),hrf]
 have hvl : vs.length ≤ 8:=by have:=hw.len;unfold af at this;simpa using this
 have href:=fU vs (64 :: r)
 have cx_rf:=kx (k:=64 :: r) h oM hkk.1 oM
 rcases hr : eQ vs (64 :: r) with _ | x
 ·rw [hr,hrf] at href;cases href
 rw [hr] at href cx_rf
 have htx : x.2 = t:=by rw [hrf] at href;exact Option.some.inj href
 subst htx
 have hx:=fK hr
 have cx_na : bi ac0 111 [Ag [u],S (e :: s),S (64 :: r),I (n + 1 : Nat)] G (cq (af vs) (aZ (af vs) (rd (af vs) n) x.2 (e :: s)) (64 :: r)):=by
  have hso:=(hw.ty _ (List.mem_map_of_mem hx)).sort
  by_cases h1 : x.2.sort = 82 ∧ e.toNat = 123
  ·obtain rfl:=bn h1.2 dC
   exact aaY hR h hw hx hrf cx_rf h1.1 hs oM oM
  by_cases h2 : x.2.sort = 69 ∧ e.toNat = 35
  ·obtain rfl:=bn h2.2 dC
   exact aaZ h hw hx hrf cx_rf h2.1 hs oM
  by_cases h3 : x.2.sort = 85 ∧ e.toNat = 60
  ·obtain rfl:=bn h3.2 dC
   exact aaX hR h hw hx hrf cx_rf h3.1 hs oM
  refine aaW h.sl.one cx_rf ?_ oM oM
  rcases hso with h4 | h4 | h4 <;> omega
 have hel : (e :: s).length = s.length + 1:=rfl
 have hk0 : bt (64 :: r) (Int.toNat 0) = 64:=a6 64 r
 have hkl2 : (64 :: r).length = r.length + 1:=rfl
 refine jB [(0,_),(1,_),(2,_),(3,_)] Tryz.func84 Tryz.ntmps84 fun B hok hB hW=>?_
 repeat' (first | refine jM ?_ | (refine jo ?_;first | refine jO fun _=>?_ | refine aw F ?_ | refine aN F ?_ | (refine aK F F F cx_na F ?_;rintro _ G hle ⟨q1,r1,ok1,rfl,hyes,hno⟩;skip)) | refine aj F F F ?_ | refine ac F F ?_ | refine ad F F ?_)
 refine jZ (vs:=[_,_,_]) F ⟨F,F,F,trivial⟩ F ⟨hle,F,?_⟩
 rw [aF,hrd]
 exact ⟨_,_,_,F,hyes,hno⟩
theorem zi {n : Nat} {u : Value} {vs : List bZ} {s : ac1} {c e : UInt8} (hu : u.oneCell' = true) (hc : c = 110 ∨ c = 116 ∨ c = 102) (hr : aT (af vs) [c] = none) (hs : s.length ≤ 1999999) (hn : n ≤ 999) :
  bi ac0 84 [Ag [u],S (e :: s),S [c],I (n + 1 : Nat)] G (cq (af vs) (rd (af vs) (n + 1) [c] (e :: s)) [c]):=by
 have hrd:=lh (ts:=af vs) (n:=n) (s:=e :: s) hc hr
 have hel : (e :: s).length = s.length + 1:=rfl
 have cx_pl : bi ac0 112 [Ag [u],S (e :: s),S [c]] G (cq (af vs) (rd (af vs) (n + 1) [c] (e :: s)) [c]):=by
  rw [hrd]
  rcases hc with rfl | rfl | rfl
  ·rw [if_pos rfl];exact xg hu oM
  ·rw [if_neg dC,if_pos rfl];exact xf hu oM (by simp)
  ·rw [if_neg dC,if_neg dC];exact xh hu oM
 clear hrd
 rcases hc with rfl | rfl | rfl
 all_goals
  refine jB [(0,_),(1,_),(2,_),(3,_)] Tryz.func84 Tryz.ntmps84 fun B hok hB hW=>?_
  repeat' (first | refine jX ?_ | (refine jo ?_;first | refine jO fun _=>?_ | refine aw F ?_ | refine aN F ?_ | (refine aK F F F cx_pl F ?_;rintro _ G hle ⟨q1,r1,ok1,rfl,hyes,hno⟩;skip)) | refine aj F F F ?_ | refine ad F F ?_)
  refine jZ (vs:=[_,_,_]) F ⟨F,F,F,trivial⟩ F ⟨hle,F,?_⟩
  rw [aF]
  exact ⟨_,_,_,F,hyes,hno⟩
theorem mq {u : Value} {vs : List bZ} (hw : SchW (af vs)) : ∀ n,n ≤ 1000 → kA n u vs
 | 0,_=>fun G k s _ _ _=>tS (.inr rfl) oM
 | n + 1,hn=>fun G k s h hk hs=>by
  have hR:=mq (u:=u) (vs:=vs) hw n oM
  match s,hs with
  | [],_=>exact tS (.inl F) hn
  | e :: s,hs =>
   simp only [List.length_cons] at hs
   match k,hk with
   | [],hk=>cases hk
   | c :: k,hk =>
    by_cases h1 : c.toNat = 91
    ·obtain rfl:=bn h1 dC
     exact zl hR h hk oM oM
    by_cases h2 : c.toNat = 63
    ·obtain rfl:=bn h2 dC
     exact zj hR h hk oM oM
    have h91 : ¬ (c.toNat = 91 ∨ c.toNat = 63):=fun h=>by rcases h with h | h <;> omega
    cases hr : aT (af vs) (c :: k) with
    | some t=>exact zm hR h hw hk hr oM oM
    | none =>
     rcases eK hk h91 hr with e1 | e1 | e1
     all_goals
      simp only [List.cons.injEq] at e1
      obtain ⟨rfl,rfl⟩:=e1
      exact zi h.sl.one (by simp) hr oM oM
def l3 (n : Nat) (u : Value) (vs : List bZ) : Prop:=∀ (G : Gh) (k s : ac1),SchR G u vs → aE (af vs) k = true → s.length ≤ 1000 →
 bi ac0 83 [Ag [u],S s,S k,I (n : Nat)] G (cq (af vs) (rb (af vs) n k s) k)
theorem wc {n : Nat} {u : Value} {ts : List Ty} {k s : ac1} (hc : s = [] ∨ n = 0) (hn : n ≤ 1000) : bi ac0 83 [Ag [u],S s,S k,I (n : Nat)] G (cq ts (rb ts n k s) k):=by
 have hno : rb ts n k s = none:=by
  rcases hc with rfl | rfl
  ·exact z7
  ·rfl
 by_cases hs : s = []
 ·refine jB [(0,_),(1,_),(2,_),(3,_)] Tryz.func83 Tryz.ntmps83 fun B hok hB hW=>?_
  repeat' (first | refine jR ?_ | (refine jo ?_;first | refine jO fun _=>?_ | refine aH F ?_) | refine ax F F (ar ‹_›) ?_ | refine ac F F ?_)
  refine jZ (vs:=[_,_,_]) F ⟨F,F,F,trivial⟩ F ⟨Gh.le.refl _,F,?_⟩
  rw [aF]
  exact ⟨_,_,_,F,fun h=>(by (cases h;done)),fun _=>hno⟩
 ·have hn0 : n = 0:=by
   rcases hc with h | h
   ·exact absurd h hs
   ·exact h
  refine jB [(0,_),(1,_),(2,_),(3,_)] Tryz.func83 Tryz.ntmps83 fun B hok hB hW=>?_
  repeat' (first | refine jR ?_ | (refine jo ?_;first | refine jO fun _=>?_ | refine aw F ?_) | refine aj F F (aA ‹_›) ?_ | refine ac F (ar oM) ?_)
  refine jZ (vs:=[_,_,_]) F ⟨F,F,F,trivial⟩ F ⟨Gh.le.refl _,F,?_⟩
  rw [aF]
  exact ⟨_,_,_,F,fun h=>(by (cases h;done)),fun _=>hno⟩
theorem aa8 {n : Nat} {u : Value} {ts : List Ty} {s : ac1} (hu : u.oneCell' = true) (h0 : s ≠ []) (hs : s.length ≤ 1000) (hn : n ≤ 999) : bi ac0 83 [Ag [u],S s,S [110],I (n + 1 : Nat)] G (cq ts ((bm s).map fun x=>(.nd 110 (a8 x.1) 0 [],x.2)) [110]):=by
 have cx_ng0:=eZ (G:=G) (s:=s) oM
 cases hg : bm s with
 | none =>
  rw [hg] at cx_ng0
  have cx_ng : aC ac0 71 [S s] G (· = Tu [I 0,S [],Bo false]):=cx_ng0
  clear cx_ng0
  refine jB [(0,_),(1,_),(2,_),(3,_)] Tryz.func83 Tryz.ntmps83 fun B hok hB hW=>?_
  repeat' (first | refine jX ?_ | (refine jo ?_;first | refine jO fun _=>?_ | refine aw F ?_ | refine jV (an F F) ?_ | refine ab F F F cx_ng F ?_ | refine ab F F F (ga oM) F ?_) | refine aj F F (aA ‹_›) ?_ | refine ac F F ?_ | refine ad F F ?_)
  all_goals refine jZ (vs:=[_,_,_]) F ⟨F,F,F,trivial⟩ F ⟨Gh.le.refl _,F,?_⟩
  all_goals (rw [aF];exact ⟨_,_,_,F,fun h=>(by cases h),fun _=>rfl⟩)
 | some z =>
  obtain ⟨m,r⟩:=z
  obtain ⟨h1,h2,_⟩:=cF hg
  have hl:=bU hg
  rw [hg] at cx_ng0
  have cx_ng : aC ac0 71 [S s] G (· = Tu [I m,S r,Bo true]):=cx_ng0
  clear cx_ng0
  have hdg:=(kq m.toNat (Nat.le_refl _) h1).2
  refine jB [(0,_),(1,_),(2,_),(3,_)] Tryz.func83 Tryz.ntmps83 fun B hok hB hW=>?_
  repeat' (first | refine jX ?_ | (refine jo ?_;first | refine jO fun _=>?_ | refine aw F ?_ | refine jV (an F F) ?_ | refine ab F F F cx_ng F ?_ | refine ab F F F (ga oM) F ?_) | refine aj F F (aA ‹_›) ?_ | refine ac F F ?_ | refine ad F F ?_)
  all_goals
   rename_i xr y
   refine Nx.sealC (b:=y) fun G2 hG2 hsy=>?_
   refine jZ (vs:=[_,_,_]) F ⟨F,F,F,trivial⟩ F ⟨hG2,F,?_⟩
   rw [aF]
   exact ⟨_,_,_,F,fun _=>⟨_,y,F,F,.leaf 110 _ _ _ _ hsy (.inl ⟨F,F,F,hdg⟩)⟩,fun h=>(by cases h)⟩
theorem abb {n : Nat} {u : Value} {ts : List Ty} {s : ac1} {e : UInt8} (hu : u.oneCell' = true) (hs : s.length ≤ 1000) (hn : n ≤ 999) : bi ac0 83 [Ag [u],S (e :: s),S [102],I (n + 1 : Nat)] G (cq ts ((cx (e :: s)).map fun x=>(.nd 102 (if x.1 = true then [121,101,115] else [110,111]) 0 [],x.2)) [102]):=by
 have he0 : bt (e :: s) (Int.toNat 0) = e.toNat:=a6 e s
 have hel : (e :: s).length = s.length + 1:=rfl
 by_cases h1 : e.toNat = 1
 ·obtain rfl : e = 1:=bn h1 dC
  have he0 : bt (1 :: s) (Int.toNat 0) = 1:=a6 1 s
  rw [wK]
  refine jB [(0,_),(1,_),(2,_),(3,_)] Tryz.func83 Tryz.ntmps83 fun B hok hB hW=>?_
  repeat' (first | refine jX ?_ | (refine jo ?_;first | refine jO fun _=>?_ | refine aw F ?_) | refine aj F F F ?_ | refine ac F F ?_ | refine ad F F ?_ | (refine ai (am (id:=14) _ (fun _ h=>h) ah ?_);refine jW 8 [0,2,3,8,9] (aa 13 781) ?_;refine jA 1 F ?_;(refine jF fun _=>?_);refine jS (aa 13 783) ?_;(refine jG (aa 13 799) 4 F (ay F F oM) ?_);(refine jG (aa 13 831) 5 F (aD F F F) ?_);(refine jG (aa 13 895) 6 F (an F F) ?_);refine jA 7 F ?_;(refine jO fun _=>?_);refine jS (aa 13 1023) ?_;refine jT 0 [10,11,12] (aa 13 8191) ?_;refine jQ ?_))
  all_goals
   rename_i y
   refine Nx.sealC (b:=y) fun G2 hG2 hsy=>?_
   refine jZ (vs:=[_,_,_]) F ⟨F,F,F,trivial⟩ F ⟨hG2,F,?_⟩
   rw [aF]
   exact ⟨_,_,_,F,fun _=>⟨.nd 102 [121,101,115] 0 [],y,F,F,.leaf 102 _ _ _ _ hsy (.inr (.inr ⟨F,F,F,.inl F⟩))⟩,fun h=>(by cases h)⟩
 ·by_cases h0 : e.toNat = 0
  ·obtain rfl : e = 0:=bn h0 dC
   have he0 : bt (0 :: s) (Int.toNat 0) = 0:=a6 0 s
   rw [wL]
   refine jB [(0,_),(1,_),(2,_),(3,_)] Tryz.func83 Tryz.ntmps83 fun B hok hB hW=>?_
   repeat' (first | refine jX ?_ | (refine jo ?_;first | refine jO fun _=>?_ | refine aw F ?_) | refine aj F F F ?_ | refine ac F F ?_ | refine ad F F ?_ | (refine ai (am (id:=14) _ (fun _ h=>h) ah ?_);refine jW 8 [0,2,3,8,9] (aa 13 781) ?_;refine jA 1 F ?_;(refine jF fun _=>?_);refine jS (aa 13 783) ?_;(refine jG (aa 13 799) 4 F (ay F F oM) ?_);(refine jG (aa 13 831) 5 F (aD F F F) ?_);(refine jG (aa 13 895) 6 F (an F F) ?_);refine jA 7 F ?_;(refine jO fun _=>?_);refine jS (aa 13 1023) ?_;refine jT 0 [10,11,12] (aa 13 8191) ?_;refine jQ ?_))
   all_goals
    rename_i y
    refine Nx.sealC (b:=y) fun G2 hG2 hsy=>?_
    refine jZ (vs:=[_,_,_]) F ⟨F,F,F,trivial⟩ F ⟨hG2,F,?_⟩
    rw [aF]
    exact ⟨_,_,_,F,fun _=>⟨.nd 102 [110,111] 0 [],y,F,F,.leaf 102 _ _ _ _ hsy (.inr (.inr ⟨F,F,F,.inr F⟩))⟩,fun h=>(by cases h)⟩
  ·have e1 : cx (e :: s) = none:=qD h0 h1
   rw [e1]
   have h2 : ¬ ((e.toNat : Nat) : Int) < 2:=oM
   refine jB [(0,_),(1,_),(2,_),(3,_)] Tryz.func83 Tryz.ntmps83 fun B hok hB hW=>?_
   repeat' (first | refine jX ?_ | (refine jo ?_;first | refine jO fun _=>?_ | refine aw F ?_) | refine aj F F F ?_ | (refine ac F (by first | rfl | (refine decide_eq_true ?_;(omega))) ?_) | refine ad F F ?_)
   all_goals refine jZ (vs:=[_,_,_]) F ⟨F,F,F,trivial⟩ F ⟨Gh.le.refl _,F,?_⟩
   all_goals (rw [aF];exact ⟨_,_,_,F,fun h=>(by cases h),fun _=>rfl⟩)
theorem aa5 {n : Nat} {u : Value} {ts : List Ty} {s : ac1} (hu : u.oneCell' = true) (h0 : s ≠ []) (hs : s.length ≤ 1000) (hn : n ≤ 999) : bi ac0 83 [Ag [u], S s, S [116], I (n + 1 : Nat)] G (cq ts (match cg s with
      | none=>none
      | some (p,r)=>if cX (39 :: (p ++ [39])) = true then some (.nd 116 p 0 [],r) else none) [116]):=by
  have cx_tk0:=oE (G:=G) (s:=s) oM
  cases hg : cg s with
  | none =>
    rw [hg] at cx_tk0
    have cx_tk : aC ac0 38 [S s] G (· = Tu [S [],S [],Bo false]):=cx_tk0
    clear cx_tk0
    refine jB [(0,_),(1,_),(2,_),(3,_)] Tryz.func83 Tryz.ntmps83 fun B hok hB hW=>?_
    repeat' (first | refine jX ?_ | (refine jo ?_;first | refine jO fun _=>?_ | refine aw F ?_ | refine jV (an F F) ?_ | refine ab F F F cx_tk F ?_) | (refine aj F F (by first | rfl | (refine decide_eq_false ?_;(assumption))) ?_) | refine ac F F ?_ | refine ad F F ?_)
    all_goals refine jZ (vs:=[_,_,_]) F ⟨F,F,F,trivial⟩ F ⟨Gh.le.refl _,F,?_⟩
    all_goals (rw [aF];exact ⟨_,_,_,F,fun h=>(by cases h),fun _=>rfl⟩)
  | some z =>
    obtain ⟨p,r⟩:=z
    have hl:=d8 hg
    rw [hg] at cx_tk0
    have cx_tk : aC ac0 38 [S s] G (· = Tu [S p,S r,Bo true]):=cx_tk0
    clear cx_tk0
    have htx : [39] ++ p ++ [39] = 39 :: (p ++ [39]):=by simp
    have cx_tx:=fj (G:=G) (s:=[39] ++ p ++ [39]) (by simp only [List.length_append,List.length_cons,List.length_nil];omega)
    dsimp only
    refine jB [(0,_),(1,_),(2,_),(3,_)] Tryz.func83 Tryz.ntmps83 fun B hok hB hW=>?_
    repeat' (first | refine jX ?_ | (refine jo ?_;first | refine jO fun _=>?_ | refine aH F ?_ | refine aw F ?_ | refine jV (an F F) ?_ | refine ab F F F cx_tk F ?_ | (refine ab F F F (fj ?_) F ?_;(focus ((simp;omega);done)))) | refine ax F F F ?_ | refine aj F F (aA ‹_›) ?_ | refine ac F F ?_ | refine ad F F ?_)
    all_goals
      rename_i y
      refine Nx.sealC (b:=y) fun G2 hG2 hsy=>?_
      refine jZ (vs:=[_,_,_]) F ⟨F,F,F,trivial⟩ F ⟨hG2,F,?_⟩
      rw [aF,htx]
      rw [htx] at hsy
      refine ⟨_,_,_,F,fun h=>?_,fun h=>?_⟩
      · exact ⟨_,y,F,by rw [if_pos h],.leaf 116 _ _ _ _ hsy (.inr (.inl ⟨F,F,F⟩))⟩
      · rw [if_neg (by rw [h];decide)]
theorem aa7 {n : Nat} {u : Value} {vs : List bZ} {k s : ac1} {e : UInt8} (hR : l3 n u vs) (h : SchR G u vs) (hk : aE (af vs) (63 :: k) = true) (hs : s.length ≤ 999) (hn : n ≤ 999) :
  bi ac0 83 [Ag [u],S (e :: s),S (63 :: k),I (n + 1 : Nat)] G (cq (af vs) (rb (af vs) (n + 1) (63 :: k) (e :: s)) (63 :: k)):=by
 have edn : ((n + 1 : Nat) : Int) - 1 = (n : Nat):=oM
 have he0 : bt (e :: s) (Int.toNat 0) = e.toNat:=a6 e s
 have hel : (e :: s).length = s.length + 1:=rfl
 have hk0 : bt (63 :: k) (Int.toNat 0) = 63:=a6 63 k
 have hkl2 : (63 :: k).length = k.length + 1:=rfl
 rw [vq]
 by_cases h1 : e.toNat = 1
 ·have e1 : cx (e :: s) = some (true,s):=by rw [cx,if_neg oM,if_pos h1]
  rw [e1]
  dsimp only
  have cx_gt:=hR G k s h (dP (.inr rfl) hk) oM
  rw [← edn] at cx_gt
  refine jB [(0,_),(1,_),(2,_),(3,_)] Tryz.func83 Tryz.ntmps83 fun B hok hB hW=>?_
  repeat' (first | refine jM ?_ | (refine jo ?_;first | refine jO fun _=>?_ | refine aw F ?_ | refine jV (an F F) ?_ | refine jF fun _=>?_) | refine aj F F F ?_ | refine ac F F ?_ | (refine ad F (by first | rfl | (refine decide_eq_false ?_;(omega))) ?_) | (refine ai (am (id:=25) _ (fun _ h=>h) ah ?_);refine jW 9 [1,2,3,4,5,6] (aa 15 126) ?_;(refine jG (aa 15 127) 0 F (bo F F F F) ?_);refine jA 7 F ?_;(refine aK F F F cx_gt F ?_;rintro _ G hle ⟨q1,r1,ok1,rfl,hyes,hno⟩;skip);refine jS (aa 15 255) ?_;refine jT 0 [8,9,10,11,12,13,14] (aa 15 32767) ?_;refine jQ ?_))
  all_goals
   rename_i y1 y8
   refine Nx.sealC (b:=y1) fun G2 hG2 hs1=>?_
   refine Nx.sealC (b:=y8) fun G3 hG3 hsg=>?_
   refine jZ (vs:=[_,_,_]) F ⟨F,F,F,trivial⟩ F ⟨((hle.trans hG2).trans hG3),F,?_⟩
   rw [aF]
   refine ⟨_,_,_,F,fun hb=>?_,fun hb=>by rw [hno hb];rfl⟩
   obtain ⟨w,wb,rfl,hf,hrep⟩:=hyes hb
   exact ⟨.nd 63 [] 0 [w],y8,F,by rw [hf];rfl,.opt k y8 y1 wb 1 w (Nat.le_refl _) hsg (hs1.mono hG3) (hrep.mono (hG2.trans hG3))⟩
 ·by_cases h0 : e.toNat = 0
  ·have e1 : cx (e :: s) = some (false,s):=by rw [cx,if_pos h0]
   rw [e1]
   refine jB [(0,_),(1,_),(2,_),(3,_)] Tryz.func83 Tryz.ntmps83 fun B hok hB hW=>?_
   repeat' (first | refine jM ?_ | (refine jo ?_;first | refine jO fun _=>?_ | refine aw F ?_) | refine aj F F F ?_ | (refine ac F (by first | rfl | (refine decide_eq_true ?_;(omega))) ?_) | refine ad F F ?_ | (refine ai (am (id:=22) _ (fun _ h=>h) ah ?_);refine jW 5 [0,3,4] (aa 8 25) ?_;(refine jG (aa 8 27) 1 F (an F F) ?_);refine jA 2 F ?_;(refine jO fun _=>?_);refine jS (aa 8 31) ?_;refine jT 0 [5,6,7] (aa 8 255) ?_;refine jQ ?_))
   all_goals
    rename_i y
    refine Nx.sealC (b:=y) fun G2 hG2 hsy=>?_
    refine jZ (vs:=[_,_,_]) F ⟨F,F,F,trivial⟩ F ⟨hG2,F,?_⟩
    rw [aF]
    exact ⟨_,_,_,F,fun _=>⟨_,y,F,F,.non k y hsy⟩,fun h=>(by cases h)⟩
  ·rw [qD h0 h1]
   refine jB [(0,_),(1,_),(2,_),(3,_)] Tryz.func83 Tryz.ntmps83 fun B hok hB hW=>?_
   repeat' (first | refine jM ?_ | (refine jo ?_;first | refine jO fun _=>?_ | refine aw F ?_) | refine aj F F F ?_ | (refine ac F (by first | rfl | (refine decide_eq_true ?_;(omega))) ?_) | (refine ad F (by first | rfl | (refine decide_eq_false ?_;(omega))) ?_))
   all_goals refine jZ (vs:=[_,_,_]) F ⟨F,F,F,trivial⟩ F ⟨Gh.le.refl _,F,?_⟩
   all_goals (rw [aF];exact ⟨_,_,_,F,fun h=>(by cases h),fun _=>rfl⟩)
theorem kl {t : Ty} (hw : TyW t) : br t.fields 0 = none:=by
 cases h : br t.fields 0 with
 | none=>rfl
 | some d =>
  obtain ⟨j,hj,_,hjt,_⟩:=d9 h
  have:=(hw.fld _ (bB hj)).tag
  omega
theorem tH {ts : List Ty} {k : ac1} {v : Value} {G' : Gh} (h : cq ts none k v G') : ∃ q1 r1,v = Tu [.pointer q1,S r1,Bo false]:=by
 obtain ⟨q,r,ok,rfl,h1,h2⟩:=h
 cases ok with
 | false=>exact ⟨q,r,F⟩
 | true=>obtain ⟨w,b,_,h3,_⟩:=h1 rfl;cases h3
theorem p9 {ts : List Ty} {k r : ac1} {x : V} {v : Value} {G' : Gh} (h : cq ts (some (x,r)) k v G') : ∃ wb,v = Tu [Pt wb 0,S r,Bo true] ∧ RepR G' ts x k wb:=by
 obtain ⟨q,r,ok,rfl,h1,h2⟩:=h
 cases ok with
 | false=>cases h2 rfl
 | true =>
  obtain ⟨w,b,rfl,h3,h4⟩:=h1 rfl
  cases h3
  exact ⟨b,F,h4⟩
theorem f5 {ts : List Ty} {k : ac1} {q : Option Addr} {r : ac1} {G' : Gh} {f : Option (V × ac1)} (h : f = none) : cq ts f k (Tu [.pointer q,S r,Bo false]) G':=⟨_,_,_,rfl,fun h=>(by cases h),fun _=>h⟩
theorem pr {ts : List Ty} {k : ac1} {b : Nat} {r : ac1} {G' : Gh} {f : Option (V × ac1)} {w : V} (h : f = some (w,r)) (hr : RepR G' ts w k b) : cq ts f k (Tu [Pt b 0,S r,Bo true]) G':=⟨_,_,_,rfl,fun _=>⟨w,b,rfl,h,hr⟩,fun h=>(by cases h)⟩
theorem oA {n : Nat} {u : Value} {vs : List bZ} {k s : ac1} (hR : l3 n u vs) (h : SchR G u vs) (hk : aE (af vs) k = true) (hs : s.length ≤ 1000) (hn : n ≤ 1000) (hf : cN (rb (af vs) n) k s = none) :
  bi ac0 52 [Ag [u],S s,S k,I (n : Nat)] G (fun v _=>∃ q,v = Tu [.pointer q,Bo false]):=by
 have hkk:=cH (cR hk)
 have hop:=hR G k s h hk hs
 cases hg : rb (af vs) n k s with
 | none =>
  rw [hg] at hop
  have cx_gt0 : bi ac0 83 [Ag [u],S s,S k,I (n : Nat)] G (fun v _=>∃ q1 r1,v = Tu [.pointer q1,S r1,Bo false]):=hop.mono fun v G' L' h=>⟨h.1,h.2.1,tH h.2.2⟩
  clear hop
  refine jB [(0,_),(1,_),(2,_),(3,_)] Tryz.func52 Tryz.ntmps52 fun B hok hB hW=>?_
  repeat' (first | refine jR ?_ | (refine jo ?_;first | refine jO fun _=>?_ | refine aN F ?_ | refine aw F ?_ | (refine aK F F F cx_gt0 F ?_;rintro _ G hle ⟨q1,r1,rfl⟩;skip)) | refine aj F F F ?_)
  all_goals refine jZ (vs:=[_,_]) F ⟨F,F,trivial⟩ F ⟨hle,F,?_⟩
  all_goals exact ⟨_,F⟩
 | some x =>
  obtain ⟨w,r⟩:=x
  rw [hg] at hop
  have cx_gt1 : bi ac0 83 [Ag [u],S s,S k,I (n : Nat)] G (fun v G'=>∃ wb,v = Tu [Pt wb 0,S r,Bo true] ∧ RepR G' (af vs) w k wb):=hop.mono fun v G' L' h=>⟨h.1,h.2.1,p9 h.2.2⟩
  clear hop
  cases r with
  | nil=>rw [gw hg] at hf;cases hf
  | cons e r =>
   refine jB [(0,_),(1,_),(2,_),(3,_)] Tryz.func52 Tryz.ntmps52 fun B hok hB hW=>?_
   repeat' (first | refine jR ?_ | (refine jo ?_;first | refine jO fun _=>?_ | refine aN F ?_ | refine aH F ?_ | (refine aK F F F cx_gt1 F ?_;rintro _ G hle ⟨wb,rfl,hrep⟩;skip)) | refine ax F F F ?_)
   all_goals refine jZ (vs:=[_,_]) F ⟨F,F,trivial⟩ F ⟨hle,F,?_⟩
   all_goals exact ⟨_,F⟩
theorem lQ {n : Nat} {u : Value} {vs : List bZ} {k s : ac1} {w : V} (hR : l3 n u vs) (h : SchR G u vs) (hk : aE (af vs) k = true) (hs : s.length ≤ 1000) (hn : n ≤ 1000) (hf : cN (rb (af vs) n) k s = some w) :
  bi ac0 52 [Ag [u],S s,S k,I (n : Nat)] G (fun v G'=>∃ wb,v = Tu [Pt wb 0,Bo true] ∧ RepR G' (af vs) w k wb):=by
 have hop:=hR G k s h hk hs
 rw [cL hf] at hop
 have cx_gt1 : bi ac0 83 [Ag [u],S s,S k,I (n : Nat)] G (fun v G'=>∃ wb,v = Tu [Pt wb 0,S [],Bo true] ∧ RepR G' (af vs) w k wb):=hop.mono fun v G' L' h=>⟨h.1,h.2.1,p9 h.2.2⟩
 clear hop
 refine jB [(0,_),(1,_),(2,_),(3,_)] Tryz.func52 Tryz.ntmps52 fun B hok hB hW=>?_
 repeat' (first | refine jR ?_ | (refine jo ?_;first | refine jO fun _=>?_ | refine aN F ?_ | refine aH F ?_ | (refine aK F F F cx_gt1 F ?_;rintro _ G hle ⟨wb,rfl,hrep⟩;skip)) | refine ax F F F ?_)
 all_goals refine jZ (vs:=[_,_]) F ⟨F,F,trivial⟩ F ⟨hle,F,?_⟩
 all_goals exact ⟨_,F,hrep⟩
abbrev ve : TypeId:=42
abbrev acL : TypeId:=86
theorem zh {n : Nat} {u : Value} {vs : List bZ} {k s : ac1} {m : Nat} (hR : l3 n u vs) (h : SchR G u vs) (hk : aE (af vs) (91 :: k) = true) (hs : s.length ≤ 1000) (hn : n ≤ 999) (hm : m ≤ 999999) :
  bi ac0 108 [Ag [u],S s,S (91 :: k),I (m : Nat),I (n + 1 : Nat)] G (cq (af vs) (if m ≤ 20 then (bG (rb (af vs) n k) m s []).map fun x=>(.nd 91 [] 0 x.1,x.2) else none) (91 :: k)):=by
 have edn : ((n + 1 : Nat) : Int) - 1 = (n : Nat):=oM
 have hki:=dP (.inl rfl) hk
 have hkk:=cH (cR hk)
 have hkl:=hkk.2
 simp only [List.length_cons] at hkl
 have hkl2 : (91 :: k).length = k.length + 1:=rfl
 by_cases h20 : m ≤ 20
 case neg =>
  rw [if_neg h20]
  refine jB [(0,_),(1,_),(2,_),(3,_),(4,_)] Tryz.func108 Tryz.ntmps108 fun B hok hB hW=>?_
  repeat' (first | refine jR ?_ | (refine jo ?_;first | refine jO fun _=>?_ | refine jV (an F F) ?_) | refine ac F (ar oM) ?_)
  all_goals refine jZ (vs:=[_,_,_]) F ⟨F,F,F,trivial⟩ F ⟨Gh.le.refl _,F,?_⟩
  all_goals exact f5 F
 rw [if_pos h20]
 refine jB [(0,_),(1,_),(2,_),(3,_),(4,_)] Tryz.func108 Tryz.ntmps108 fun B hok hB hW=>?_
 repeat' (first | refine jR ?_ | (refine jo ?_;first | refine jO fun _=>?_ | refine jV (an F F) ?_) | refine ad F (aA oM) ?_)
 rename_i xr y
 refine Nx.addNil ve 1 ?_
 refine aR (ι:=List V × List Nat × Option Addr × Nat × ac1 × Gh) (fun q=>((q.2.1.length = q.1.length ∧ ∀ i,i < q.1.length → RepR q.2.2.2.2.2 (af vs) (ae q.1 i) k (ae q.2.1 i)) ∧ Gh.le G q.2.2.2.2.2) ∧ (bG (rb (af vs) n k) m s [] = bG (rb (af vs) n k) (m - q.1.length) q.2.2.2.2.1 q.1 ∧ q.1.length ≤ m) ∧ q.2.2.2.2.1.length ≤ s.length) (fun q=>[(1,S q.2.2.2.2.1),(2,S (91 :: k)),(3,I (m : Nat)),(4,I (n + 1 : Nat)),(5,Pt xr 0),(13,Pt y 0),(14,I (q.1.length : Nat))]) (fun q=>q.2.2.2.2.2) (fun q=>[.acc (.slice q.2.2.1 q.1.length q.2.2.2.1) ve 1 q.1.length (aI gj q.2.1),.blk y (.cells (List.toArray [S (91 :: k),S [],aJ,.slice q.2.2.1 q.1.length q.2.2.2.1]) vh (0,0)),.blk xr (.cells (List.toArray [u]) acL (0,0))]) (fun q=>m - q.1.length) ([],[],none,0,s,G) ?_ tU F aW (fun q Hq=>?_)
 ·exact ⟨⟨⟨F,fun i hi=>absurd hi (by simp)⟩,Gh.le.refl _⟩,⟨F,Nat.zero_le _⟩,Nat.le_refl _⟩
 obtain ⟨ws,bs,a,cap,t,Gq⟩:=q
 dsimp only at Hq ⊢
 obtain ⟨⟨⟨hbl,hreps⟩,hgq⟩,⟨hit,hwm⟩,htl⟩:=Hq
 by_cases hi : ws.length < m
 case neg =>
  have e0 : m - ws.length = 0:=oM
  rw [e0,bG] at hit
  repeat' (first | refine jR ?_ | refine ad F (aA oM) ?_)
  all_goals
   refine Nx.sealS (v:=.slice a ws.length cap) fun G2 hG2 hsl=>?_
   refine Nx.sealC (b:=y) fun G3 hG3 hsg=>?_
   refine jZ (vs:=[_,_,_]) F ⟨F,F,F,trivial⟩ F ⟨((hgq.trans hG2).trans hG3),F,?_⟩
   exact pr (by rw [hit];rfl) (.lst k y ws bs a cap hsg (hsl.mono hG3) hbl (fun i hi=>(hreps i hi).mono (hG2.trans hG3)))
 obtain ⟨m',hm'⟩ : ∃ m',m - ws.length = m' + 1:=⟨m - ws.length - 1,oM⟩
 rw [hm'] at hit
 have hop:=hR Gq k t (h.mono hgq) hki oM
 rw [← edn] at hop
 cases hf : rb (af vs) n k t with
 | none =>
  rw [hf] at hop
  have cx_gt0 : bi ac0 83 [Ag [u],S t,S k,I (((n + 1 : Nat) : Int) - 1)] Gq (fun v _=>∃ q1 r1,v = Tu [.pointer q1,S r1,Bo false]):=hop.mono fun v G' L' h=>⟨h.1,h.2.1,tH h.2.2⟩
  clear hop
  have hno2:=o9 (m:=m') (acc:=ws) hf
  repeat' (first | refine jR ?_ | (refine ac F (by first | rfl | (refine decide_eq_true ?_;(omega))) ?_) | (refine ai (am (id:=7) _ (fun _ h=>h) ah ?_);refine jW 9 [1,2,3,4,5] (aa 14 62) ?_;(refine jG (aa 14 63) 0 F (bo F F F F) ?_);refine jA 6 F ?_;(refine aK F F F cx_gt0 F ?_;rintro _ G hle ⟨q1,r1,rfl⟩;skip);refine jS (aa 14 127) ?_;refine jT 0 [7,8,9,10,11,12,13] (aa 14 16383) ?_;refine jQ ?_))
  all_goals refine jZ (vs:=[_,_,_]) F ⟨F,F,F,trivial⟩ F ⟨(hgq.trans hle),F,?_⟩
  all_goals exact f5 (by rw [hit,hno2];rfl)
 | some z =>
  obtain ⟨w,r'⟩:=z
  rw [hf] at hop
  have cx_gt1 : bi ac0 83 [Ag [u],S t,S k,I (((n + 1 : Nat) : Int) - 1)] Gq (fun v G'=>∃ wb,v = Tu [Pt wb 0,S r',Bo true] ∧ RepR G' (af vs) w k wb):=hop.mono fun v G' L' h=>⟨h.1,h.2.1,p9 h.2.2⟩
  clear hop
  have hsh:=o7 _ _ _ _ _ hf
  have hstep:=mz (m:=m') (acc:=ws) hf
  have hwl1 : (ws ++ [w]).length = ws.length + 1:=by simp
  have hm2 : m - (ws ++ [w]).length = m':=by rw [hwl1];omega
  repeat' (first | refine jM ?_ | (refine jo ?_;first | refine ak F ?_ | refine jF fun _=>?_ | refine cQ F F F F F F F F F oM fun _ _=>?_ | refine jD F F F ?_) | refine ac F (ar oM) ?_ | refine ad F F ?_ | (refine ai (am (id:=7) _ (fun _ h=>h) ah ?_);refine jW 9 [1,2,3,4,5] (aa 14 62) ?_;(refine jG (aa 14 63) 0 F (bo F F F F) ?_);refine jA 6 F ?_;(refine aK F F F cx_gt1 F ?_;rintro _ G hle ⟨wb,rfl,hrep⟩;skip);refine jS (aa 14 127) ?_;refine jT 0 [7,8,9,10,11,12,13] (aa 14 16383) ?_;refine jQ ?_))
  have hgl:=hgq.trans hle
  have hrow : aI gj bs ++ [Pt wb 0] = aI gj (bs ++ [wb]):=(cB gj bs wb).symm
  have hbl1 : (bs ++ [wb]).length = (ws ++ [w]).length:=by simp [hbl]
  have hrp : ∀ i,i < (ws ++ [w]).length → RepR G (af vs) (ae (ws ++ [w]) i) k (ae (bs ++ [wb]) i):=fun i hi=>by
   by_cases h1 : i < ws.length
   ·have e1 : ae (ws ++ [w]) i = ae ws i:=by rw [aP hi,aP h1,List.getElem_append_left h1]
    have e2 : ae (bs ++ [wb]) i = ae bs i:=by rw [aP oM,aP oM,List.getElem_append_left oM]
    rw [e1,e2];exact (hreps i h1).mono hle
   ·have h2 : i = ws.length:=oM
    have e1 : ae (ws ++ [w]) i = w:=by rw [aP hi];simp [h2]
    have e2 : ae (bs ++ [wb]) i = wb:=by rw [aP oM];simp [h2,hbl]
    rw [e1,e2];exact hrep
  rename_i y0 y1 yc
  rw [hrow]
  refine Nx.re (d:=14) (v':=I ((ws ++ [w]).length : Nat)) F (congrArg (Value.int .i64) (by rw [hwl1];omega)) ?_
  exact aX (ws ++ [w],bs ++ [wb],some ⟨y1,0,none⟩,yc,r',G) ⟨⟨⟨hbl1,hrp⟩,hgl⟩,⟨(by dsimp only;rw [hit,hstep,hm2]),(by dsimp only;omega)⟩,(by dsimp only;omega)⟩ (by dsimp only;omega) tU rfl (by rw [hwl1];repeat (first | exact List.Sublist.refl _ | apply List.Sublist.cons_cons | apply List.Sublist.cons))
theorem aa9 {n : Nat} {u : Value} {vs : List bZ} {k s : ac1} {e : UInt8} (hR : l3 n u vs) (h : SchR G u vs) (hk : aE (af vs) (91 :: k) = true) (hs : s.length ≤ 999) (hn : n ≤ 999) (hkl : k.length ≤ 1000) :
  bi ac0 83 [Ag [u],S (e :: s),S (91 :: k),I (n + 1 : Nat)] G (cq (af vs) (rb (af vs) (n + 1) (91 :: k) (e :: s)) (91 :: k)):=by
 have hel : (e :: s).length = s.length + 1:=rfl
 have hk0 : bt (91 :: k) (Int.toNat 0) = 91:=a6 91 k
 have hkl2 : (91 :: k).length = k.length + 1:=rfl
 rw [vr]
 have cx_ng0:=eZ (G:=G) (s:=e :: s) oM
 cases hg : bm (e :: s) with
 | none =>
  rw [hg] at cx_ng0
  have cx_ng : aC ac0 71 [S (e :: s)] G (· = Tu [I 0,S [],Bo false]):=cx_ng0
  refine jB [(0,_),(1,_),(2,_),(3,_)] Tryz.func83 Tryz.ntmps83 fun B hok hB hW=>?_
  repeat' (first | refine jM ?_ | (refine jo ?_;first | refine jO fun _=>?_ | refine aw F ?_ | refine ab F F F cx_ng F ?_) | refine aj F F F ?_ | refine ac F F ?_ | refine ad F F ?_)
  all_goals refine jZ (vs:=[_,_,_]) F ⟨F,F,F,trivial⟩ F ⟨Gh.le.refl _,F,?_⟩
  all_goals exact f5 F
 | some z =>
  obtain ⟨m0,r⟩:=z
  obtain ⟨h0,h1,_⟩:=cF hg
  have hl:=bU hg
  rw [hg] at cx_ng0
  obtain ⟨m,rfl⟩ : ∃ m : Nat,m0 = (m : Int):=⟨m0.toNat,oM⟩
  have cx_ng : aC ac0 71 [S (e :: s)] G (· = Tu [I (m : Nat),S r,Bo true]):=cx_ng0
  clear cx_ng0
  have cx_som:=zh (G:=G) (m:=m) (s:=r) hR h hk oM hn oM
  have hres : (if (m : Int) ≤ 20 then (bG (rb (af vs) n k) (m : Int).toNat r []).map (fun x=>(V.nd 91 [] 0 x.1,x.2)) else none) = if m ≤ 20 then (bG (rb (af vs) n k) m r []).map (fun x=>(V.nd 91 [] 0 x.1,x.2)) else none:=by
   rw [Int.toNat_natCast]
   by_cases h20 : m ≤ 20
   ·rw [if_pos h20,if_pos oM]
   ·rw [if_neg h20,if_neg oM]
  dsimp only
  rw [hres]
  generalize (if m ≤ 20 then (bG (rb (af vs) n k) m r []).map (fun x=>(V.nd 91 [] 0 x.1,x.2)) else none) = o at cx_som ⊢
  refine jB [(0,_),(1,_),(2,_),(3,_)] Tryz.func83 Tryz.ntmps83 fun B hok hB hW=>?_
  repeat' (first | refine jM ?_ | (refine jo ?_;first | refine jO fun _=>?_ | refine aw F ?_ | refine aN F ?_ | refine ab F F F cx_ng F ?_ | (refine aK F F F cx_som F ?_;rintro _ G hle ⟨q1,r1,ok1,rfl,hyes,hno⟩;skip)) | refine aj F F F ?_ | refine ac F F ?_ | refine ad F F ?_)
  all_goals refine jZ (vs:=[_,_,_]) F ⟨F,F,F,trivial⟩ F ⟨hle,F,?_⟩
  all_goals (rw [aF];exact ⟨_,_,_,F,hyes,hno⟩)
abbrev vi : TypeId:=3
abbrev vg : TypeId:=42
abbrev abv : TypeId:=86
abbrev abu : TypeId:=122
def pl (gs : List (Fld × V)) : List V:=gs.map aU
theorem wh {n : Nat} {u : Value} {vs : List bZ} {a : Option Addr} {ca : Nat} {nm : ac1} {fs : List Fld} {k s : ac1} (hR : l3 n u vs) (h : SchR G u vs) (hw : SchW (af vs)) (hr : eQ vs (64 :: k) = some ((a,ca),⟨82,nm,fs⟩)) (hk : ep (64 :: k) = true) (hkl : k.length ≤ 999) (hs : s.length ≤ 1000) (hn : n ≤ 999) :
  bi ac0 149 [Ag [u],S s,S (64 :: k),Ag [U8 (82 : Nat),S nm,.slice a fs.length ca],I (n + 1 : Nat)] G (cq (af vs) ((bM (af vs) (rb (af vs) n) ⟨82,nm,fs⟩ (s.length + 1) 0 s []).map fun x=>(.nd 82 [] 0 x.1,x.2)) (64 :: k)):=by
 have edn : ((n + 1 : Nat) : Int) - 1 = (n : Nat):=oM
 have hkl2 : (64 :: k).length = k.length + 1:=rfl
 have hvl : vs.length ≤ 8:=by have:=hw.len;unfold af at this;simpa using this
 have href:=fU vs (64 :: k)
 rw [hr] at href
 have hxm:=fK hr
 have hxt : (⟨82,nm,fs⟩ : Ty) ∈ af vs:=List.mem_map_of_mem hxm
 have hTW:=hw.ty _ hxt
 have hfl:=hTW.len
 dsimp only at hfl
 refine jB [(0,_),(1,_),(2,_),(3,_),(4,_)] Tryz.func149 Tryz.ntmps149 fun B hok hB hW=>?_
 repeat' (first | refine jR ?_ | (refine jo ?_;first | refine jO fun _=>?_ | refine jV (an F F) ?_))
 rename_i xr xt y
 refine Nx.addNil vi 1 (Nx.addNil vg 1 ?_)
 refine aR (ι:=List (Fld × V) × List Nat × Option Addr × Nat × Option Addr × Nat × ac1 × Nat × Int × Gh) (fun q=>((q.2.1.length = q.1.length ∧ (∀ i,i < q.1.length → (ae q.1 i).1 ∈ fs) ∧ ∀ i,i < q.1.length → RepR q.2.2.2.2.2.2.2.2.2 (af vs) (ae q.1 i).2 (ae q.1 i).1.kind (ae q.2.1 i)) ∧ Gh.le G q.2.2.2.2.2.2.2.2.2) ∧ (bM (af vs) (rb (af vs) n) ⟨82,nm,fs⟩ (s.length + 1) 0 s [] = bM (af vs) (rb (af vs) n) ⟨82,nm,fs⟩ q.2.2.2.2.2.2.2.1 q.2.2.2.2.2.2.2.2.1 q.2.2.2.2.2.2.1 (pl q.1) ∧ q.2.2.2.2.2.2.1.length < q.2.2.2.2.2.2.2.1) ∧ q.1.length + q.2.2.2.2.2.2.1.length ≤ s.length ∧ (0 ≤ q.2.2.2.2.2.2.2.2.1 ∧ q.2.2.2.2.2.2.2.2.1 ≤ 999999)) (fun q=>[(1,S q.2.2.2.2.2.2.1),(2,S (64 :: k)),(4,I (n + 1 : Nat)),(5,Pt xr 0),(8,Pt xt 0),(13,Pt y 0),(14,I q.2.2.2.2.2.2.2.2.1)]) (fun q=>q.2.2.2.2.2.2.2.2.2) (fun q=>[.acc (.slice q.2.2.2.2.1 q.1.length q.2.2.2.2.2.1) vg 1 q.1.length (aI gj q.2.1),.acc (.slice q.2.2.1 q.1.length q.2.2.2.1) vi 1 q.1.length (aI eh (q.1.map fun p=>p.1.tag)),.blk y (.cells (List.toArray [S (64 :: k),S [82],.slice q.2.2.1 q.1.length q.2.2.2.1,.slice q.2.2.2.2.1 q.1.length q.2.2.2.2.2.1]) vh (0,0)),.blk xt (.cells (List.toArray [U8 (82 : Nat),S nm,.slice a fs.length ca]) abu (0,0)),.blk xr (.cells (List.toArray [u]) abv (0,0))]) (fun q=>q.2.2.2.2.2.2.1.length) ([],[],none,0,none,0,s,s.length + 1,0,G) ?_ tU F aW (fun q Hq=>?_)
 ·exact ⟨⟨⟨F,fun i hi=>absurd hi (by simp),fun i hi=>absurd hi (by simp)⟩,Gh.le.refl _⟩,⟨F,Nat.lt_succ_self _⟩,by simp,Int.le_refl 0,by show (0 : Int) ≤ 999999;omega⟩
 obtain ⟨gs,bs,a1,c1,a2,c2,t,m,la,Gq⟩:=q
 dsimp only at Hq ⊢
 obtain ⟨⟨⟨hbl,hfm,hreps⟩,hgq⟩,⟨hit,htm⟩,hwt,hla0,hla1⟩:=Hq
 obtain ⟨m,rfl⟩ : ∃ m',m = m' + 1:=⟨m - 1,oM⟩
 have cx_ng0:=eZ (G:=Gq) (s:=t) oM
 cases hg : bm t with
 | none =>
  rw [hg] at cx_ng0
  have cx_ng : aC ac0 71 [S t] Gq (· = Tu [I 0,S [],Bo false]):=cx_ng0
  clear cx_ng0
  rw [pg hg] at hit
  repeat' (first | refine jR ?_ | (refine jo ?_;refine ab F F F cx_ng F ?_) | refine ac F F ?_)
  all_goals refine jZ (vs:=[_,_,_]) F ⟨F,F,F,trivial⟩ F ⟨hgq,F,?_⟩
  all_goals exact f5 (by rw [hit];rfl)
 | some z =>
  obtain ⟨tg,r⟩:=z
  obtain ⟨h0,h1,_⟩:=cF hg
  have hl:=bU hg
  rw [hg] at cx_ng0
  have cx_ng : aC ac0 71 [S t] Gq (· = Tu [I tg,S r,Bo true]):=cx_ng0
  clear cx_ng0
  by_cases htz : tg = 0
  ·subst htz
   rw [rE hg] at hit
   repeat' (first | refine jR ?_ | (refine jo ?_;refine ab F F F cx_ng F ?_) | refine ac F F ?_ | refine ad F F ?_)
   all_goals
    refine Nx.sealS (v:=.slice a1 gs.length c1) fun G2 hG2 hs1=>?_
    refine Nx.sealS (v:=.slice a2 gs.length c2) fun G3 hG3 hs2=>?_
    refine Nx.sealC (b:=y) fun G4 hG4 hsg=>?_
    refine jZ (vs:=[_,_,_]) F ⟨F,F,F,trivial⟩ F ⟨(((hgq.trans hG2).trans hG3).trans hG4),F,?_⟩
    exact pr (by rw [hit];rfl) (.recd (64 :: k) y ⟨82,nm,fs⟩ gs bs a1 a2 c1 c2 ⟨href.symm,rfl⟩ hsg ((hs1.mono hG3).mono hG4) (hs2.mono hG4) hbl hfm (fun i hi=>(hreps i hi).mono ((hG2.trans hG3).trans hG4)))
  have cx_tk0:=oE (G:=Gq) (s:=r) oM
  cases ht : cg r with
  | none =>
   rw [ht] at cx_tk0
   have cx_tk : aC ac0 38 [S r] Gq (· = Tu [S [],S [],Bo false]):=cx_tk0
   clear cx_tk0
   rw [lq hg htz ht] at hit
   repeat' (first | refine jR ?_ | (refine jo ?_;first | refine aH F ?_ | refine ab F F F cx_ng F ?_ | refine ab F F F cx_tk F ?_) | refine ax F F F ?_ | refine ac F F ?_ | (refine ad F (by first | rfl | (refine decide_eq_false ?_;(assumption))) ?_))
   all_goals refine jZ (vs:=[_,_,_]) F ⟨F,F,F,trivial⟩ F ⟨hgq,F,?_⟩
   all_goals exact f5 (by rw [hit];rfl)
  | some z =>
   obtain ⟨p,r'⟩:=z
   have hl2:=d8 ht
   rw [ht] at cx_tk0
   have cx_tk : aC ac0 38 [S r] Gq (· = Tu [S p,S r',Bo true]):=cx_tk0
   clear cx_tk0
   by_cases hlast : tg ≤ la
   ·rw [pf hg htz ht hlast] at hit
    repeat' (first | refine jR ?_ | (refine jo ?_;first | refine aw F ?_ | refine ab F F F cx_ng F ?_ | refine ab F F F cx_tk F ?_) | refine aj F F F ?_ | refine ac F (ar ‹_›) ?_ | (refine ad F (by first | rfl | (refine decide_eq_false ?_;(assumption))) ?_))
    all_goals refine jZ (vs:=[_,_,_]) F ⟨F,F,F,trivial⟩ F ⟨hgq,F,?_⟩
    all_goals exact f5 (by rw [hit];rfl)
   have cx_f0:=gF (G:=Gq) (x:=((a,ca),⟨82,nm,fs⟩)) (tag:=tg) ((h.mono hgq).fl _ hxm) (by dsimp only;omega)
   cases hd : br fs tg with
   | none =>
    rw [hd] at cx_f0
    have cx_fld : aC ac0 114 [Ag [U8 (82 : Nat),S nm,.slice a fs.length ca],I tg] Gq (· = Tu [Ag [I 0,S [],S [],S []],Bo false]):=cx_f0
    clear cx_f0
    rw [nI hg htz ht hlast hd] at hit
    repeat' (first | refine jR ?_ | (refine jo ?_;first | refine aw F ?_ | refine aN F ?_ | refine jL fun _=>?_ | refine jC F F F ?_ | refine ab F F F cx_ng F ?_ | refine ab F F F cx_tk F ?_ | refine ab F F F cx_fld F ?_) | refine aj F F F ?_ | refine ac F F ?_ | (refine ad F (by first | rfl | (refine decide_eq_false ?_;(assumption))) ?_))
    all_goals exact aX (gs,bs,a1,c1,a2,c2,r',m,tg,Gq) ⟨⟨⟨hbl,hfm,hreps⟩,hgq⟩,⟨hit,by dsimp only;omega⟩,by dsimp only;omega,h0,h1⟩ (by dsimp only;omega) tU rfl sB
   | some d =>
    rw [hd] at cx_f0
    have cx_fld : aC ac0 114 [Ag [U8 (82 : Nat),S nm,.slice a fs.length ca],I tg] Gq (· = Tu [Ag [I d.tag,S d.name,S d.kind,S d.stand],Bo true]):=cx_f0
    clear cx_f0
    have hdm : d ∈ fs:=List.mem_of_find?_eq_some hd
    have hdt : d.tag = tg:=(iE hd).1
    have hdk : aE (af vs) d.kind = true:=dK hw hxt (by dsimp only;omega) hdm
    cases hf : cN (rb (af vs) n) d.kind p with
    | none =>
     have cx_wh0:=oA (G:=Gq) hR (h.mono hgq) hdk oM oM hf
     rw [← edn] at cx_wh0
     rw [pe hg htz ht hlast hd hf] at hit
     repeat' (first | refine jM ?_ | (refine jo ?_;first | refine aw F ?_ | refine ak F ?_ | refine aN F ?_ | refine jL fun _=>?_ | refine jC F F F ?_ | refine ab F F F cx_ng F ?_ | refine ab F F F cx_tk F ?_ | refine ab F F F cx_fld F ?_ | (refine aK F F F cx_wh0 F ?_;rintro _ G hle ⟨q1,rfl⟩;skip)) | refine aj F F F ?_ | refine ac F F ?_ | (refine ad F (by first | rfl | (refine decide_eq_false ?_;(assumption))) ?_))
     all_goals refine jZ (vs:=[_,_,_]) F ⟨F,F,F,trivial⟩ F ⟨(hgq.trans hle),F,?_⟩
     all_goals exact f5 (by rw [hit];rfl)
    | some w =>
     have cx_wh1:=lQ (G:=Gq) hR (h.mono hgq) hdk oM oM hf
     rw [← edn] at cx_wh1
     have htot:=jq _ _ _ _ _ (cL hf)
     simp only [List.length_nil] at htot
     rw [pd hg htz ht hlast hd hf] at hit
     repeat' (first | refine jM ?_ | (refine jo ?_;first | refine aw F ?_ | refine ak F ?_ | refine aN F ?_ | refine jL fun _=>?_ | refine jC F F F ?_ | refine ab F F F cx_ng F ?_ | refine ab F F F cx_tk F ?_ | refine ab F F F cx_fld F ?_ | (refine aK F F F cx_wh1 F ?_;rintro _ G hle ⟨wb,rfl,hrep⟩;skip)) | refine aj F F F ?_ | (refine ad F (by first | rfl | (refine decide_eq_false ?_;(assumption))) ?_))
     have hgl:=hgq.trans hle
     have cx_out:=mV hw hrep oM
     have cx_sta:=oD (f:=d) (h.mono hgl) hw hdk
     have hl' : (gs ++ [(d,w)]).length = gs.length + 1:=by simp
     have hbl' : (bs ++ [wb]).length = (gs ++ [(d,w)]).length:=by simp [hbl]
     by_cases heq : w.out = bI (af vs) d
     ·rw [if_pos heq] at hit
      repeat' (first | refine jR ?_ | (refine ad F ?_ ?_;(focus ((simp [*];done);done))) | (refine ai (am (id:=18) _ (fun _ h=>h) ah ?_);refine jT 5 [0,2] (aa 7 5) ?_;(refine jG (aa 7 13) 3 F (aD F F F) ?_);(refine jG (aa 7 29) 4 F (bo F F F F) ?_);refine jA 1 F ?_;(refine ab F F F cx_out F ?_);refine jS (aa 7 31) ?_;refine jA 5 F ?_;(refine ab F F F cx_sta F ?_);refine jS (aa 7 63) ?_;refine jT 0 [6] (aa 7 127) ?_;refine jQ ?_))
      all_goals exact aX (gs,bs,a1,c1,a2,c2,r',m,tg,G) ⟨⟨⟨hbl,hfm,fun i hi=>(hreps i hi).mono hle⟩,hgl⟩,⟨hit,by dsimp only;omega⟩,by dsimp only;omega,h0,h1⟩ (by dsimp only;omega) tU rfl sB
     ·rw [if_neg heq] at hit
      have hnth : ∀ i,i < (gs ++ [(d,w)]).length → (i < gs.length ∧ ae (gs ++ [(d,w)]) i = ae gs i ∧ ae (bs ++ [wb]) i = ae bs i) ∨ (ae (gs ++ [(d,w)]) i = (d,w) ∧ ae (bs ++ [wb]) i = wb):=fun i hi=>by
       by_cases h1 : i < gs.length
       ·exact .inl ⟨h1,by rw [aP hi,aP h1,List.getElem_append_left h1],by rw [aP oM,aP oM,List.getElem_append_left oM]⟩
       ·have h2 : i = gs.length:=oM
        exact .inr ⟨by rw [aP hi];simp [h2],by rw [aP oM];simp [h2,hbl]⟩
      have hfm' : ∀ i,i < (gs ++ [(d,w)]).length → (ae (gs ++ [(d,w)]) i).1 ∈ fs:=fun i hi=>by
       rcases hnth i hi with ⟨h1,h2,_⟩ | ⟨h2,_⟩
       ·rw [h2];exact hfm i h1
       ·rw [h2];exact hdm
      have hreps' : ∀ i,i < (gs ++ [(d,w)]).length → RepR G (af vs) (ae (gs ++ [(d,w)]) i).2 (ae (gs ++ [(d,w)]) i).1.kind (ae (bs ++ [wb]) i):=fun i hi=>by
       rcases hnth i hi with ⟨h1,h2,h3⟩ | ⟨h2,h3⟩
       ·rw [h2,h3];exact (hreps i h1).mono hle
       ·rw [h2,h3];exact hrep
      have hnd : pl (gs ++ [(d,w)]) = pl gs ++ [.nd 61 [] d.tag [w]]:=by simp [pl]
      have hrow1 : aI eh (gs.map fun p=>p.1.tag) ++ [I tg] = aI eh ((gs ++ [(d,w)]).map fun p=>p.1.tag):=by rw [← hdt,List.map_append];exact (cB eh _ d.tag).symm
      have hrow2 : aI gj bs ++ [Pt wb 0] = aI gj (bs ++ [wb]):=(cB gj bs wb).symm
      repeat' (first | refine jR ?_ | (refine jo ?_;first | refine ak F ?_ | refine jD F F F ?_ | refine jF fun _=>?_ | refine cQ F F F F F F F F F oM fun _ _=>?_) | refine ac F (ar ‹_›) ?_ | (refine ai (am (id:=18) _ (fun _ h=>h) ah ?_);refine jT 5 [0,2] (aa 7 5) ?_;(refine jG (aa 7 13) 3 F (aD F F F) ?_);(refine jG (aa 7 29) 4 F (bo F F F F) ?_);refine jA 1 F ?_;(refine ab F F F cx_out F ?_);refine jS (aa 7 31) ?_;refine jA 5 F ?_;(refine ab F F F cx_sta F ?_);refine jS (aa 7 63) ?_;refine jT 0 [6] (aa 7 127) ?_;refine jQ ?_))
      all_goals
       rename_i _ y1 yc1 _ y2 yc2
       rw [hrow1,hrow2]
       exact aX (gs ++ [(d,w)],bs ++ [wb],some ⟨y1,0,none⟩,yc1,some ⟨y2,0,none⟩,yc2,r',m,tg,G) ⟨⟨⟨hbl',hfm',hreps'⟩,hgl⟩,⟨(by dsimp only;rw [hit,hnd]),(by dsimp only;omega)⟩,(by dsimp only;omega),h0,h1⟩ (by dsimp only;omega) tU rfl (by rw [hl'];repeat (first | exact List.Sublist.refl _ | apply List.Sublist.cons_cons | apply List.Sublist.cons))
end Go.E
