/- Contracts and plain laws that the statement rests on, part 5. Conditions: as each says. -/
import Derived.Test.YtaafndolbdancabGreatDoorT4
set_option linter.unusedVariables false
set_option linter.unusedSimpArgs false
namespace Go.E
set_option maxRecDepth 20000
set_option maxHeartbeats 2000000
open Go.Proofs
theorem kind_ne {ts : List Ty} {k : List UInt8} (h : kindIn ts k = true) : ∃ c r,k = c :: r:=by
 cases k with
 | nil=>unfold kindIn kindOk kOk at h;simp at h
 | cons c r=>exact ⟨c,r,rfl⟩
theorem head0 {t : Ty} (hw : TyW t) (hs : t.sort ≠ 82) : t.fields.headD default ∈ t.fields:=by
 have:=hw.ne hs
 cases h : t.fields with
 | nil=>exact absurd h this
 | cons d r=>simp
theorem decI0 : decI 0 = [48]:=by rw [decI_lo dC dC];decide
theorem out_num0 : V.out (.nd 110 (decI 0) 0 []) = [48]:=by rw [V.out];exact decI0
theorem standN_val {ts : List Ty} (hw : SchW ts) : ∀ (n : Nat) {k : List UInt8},kindIn ts k = true → (∀ t,refT ts k = some t → endsN ts n t = true) → ∃ u,OfK ts k u ∧ u.out = standN ts (n + 1) k ∧ u.deep ≤ n + 1 ∧ u.out.length ≤ 30 * (n + 1) ∧ u.size ≤ 1:=by
 intro n
 induction n with
 | zero =>
  intro k hk he
  obtain ⟨c,r,rfl⟩:=kind_ne hk
  unfold standN
  by_cases h91 : c.toNat = 91
  ·obtain rfl:=u8_eq h91 dC
   exact ⟨_,.lst _ [] (by simp) (by simp),by rw [if_pos h91,V.out];rfl,by simp [V.deep,V.deeps],by rw [V.out];decide,by simp [V.size,leafW,V.sizes]⟩
  by_cases h63 : c.toNat = 63
  ·obtain rfl:=u8_eq h63 dC
   exact ⟨_,.non _,by rw [if_neg h91,if_pos h63,V.out];rfl,by simp [V.deep,V.deeps],by rw [V.out];decide,by simp [V.size,leafW]⟩
  rw [if_neg h91,if_neg h63]
  cases hr : refT ts (c :: r) with
  | some t=>have:=he t hr;simp [endsN] at this
  | none =>
   dsimp only
   rcases plain_kinds hk (by rintro (h | h) <;> contradiction) hr with e | e | e
   all_goals rw [e]
   ·exact ⟨_,.num [] 0 dC dC,by rw [out_num0];decide,by simp [V.deep,V.deeps],by rw [out_num0];decide,by simp [V.size,leafW]⟩
   ·exact ⟨_,.txt [] [] dC,by rw [V.out];decide,by simp [V.deep,V.deeps],by rw [V.out];decide,by simp [V.size,leafW]⟩
   ·exact ⟨_,.flg [] _ (.inr rfl),by rw [V.out];decide,by simp [V.deep,V.deeps],by rw [V.out];decide,by simp [V.size,leafW]⟩
 | succ n ih =>
  intro k hk he
  obtain ⟨c,r,rfl⟩:=kind_ne hk
  unfold standN
  by_cases h91 : c.toNat = 91
  ·obtain rfl:=u8_eq h91 dC
   exact ⟨_,.lst _ [] (by simp) (by simp),by rw [if_pos h91,V.out];rfl,by simp [V.deep,V.deeps],by rw [V.out];simp [outW,V.outs,joinB];omega,by simp [V.size,leafW,V.sizes]⟩
  by_cases h63 : c.toNat = 63
  ·obtain rfl:=u8_eq h63 dC
   exact ⟨_,.non _,by rw [if_neg h91,if_pos h63,V.out];rfl,by simp [V.deep,V.deeps],by rw [V.out];simp [outW];omega,by simp [V.size,leafW]⟩
  rw [if_neg h91,if_neg h63]
  cases hr : refT ts (c :: r) with
  | none =>
   dsimp only
   rcases plain_kinds hk (by rintro (h | h) <;> contradiction) hr with e | e | e
   all_goals rw [e]
   ·exact ⟨_,.num [] 0 dC dC,by rw [out_num0];decide,by simp [V.deep,V.deeps],by rw [out_num0];simp;omega,by simp [V.size,leafW]⟩
   ·exact ⟨_,.txt [] [] dC,by rw [V.out];decide,by simp [V.deep,V.deeps],by rw [V.out];simp [outW];omega,by simp [V.size,leafW]⟩
   ·exact ⟨_,.flg [] _ (.inr rfl),by rw [V.out];decide,by simp [V.deep,V.deeps],by rw [V.out];simp [outW];omega,by simp [V.size,leafW]⟩
  | some t =>
   have htm:=refT_mem hr
   have htw:=hw.ty t htm
   dsimp only
   by_cases h82 : t.sort = 82
   ·rw [if_pos h82]
    exact ⟨_,.recd _ t [] hr h82 (by simp) (by simp) (by simp) (by simp),by rw [V.out];rfl,by simp [V.deep,V.deeps],by rw [V.out];simp [outW,V.outs,joinB];omega,by simp [V.size,leafW,V.sizes]⟩
   rw [if_neg h82]
   have hd:=head0 htw h82
   have htg:=(htw.fld _ hd).tag
   have hdl:=decI_6 (m:=tag0 t) (by unfold tag0;omega)
   by_cases h69 : t.sort = 69
   ·rw [if_pos h69]
    exact ⟨_,.enm _ t _ hr h69 hd,by rw [V.out];rfl,by simp [V.deep,V.deeps],by rw [V.out];show (35 :: decI (tag0 t)).length ≤ _;simp only [List.length_cons];omega,by simp [V.size,leafW]⟩
   rw [if_neg h69]
   have h85 : t.sort = 85:=by have:=htw.sort;unfold sortOk at this;omega
   have he1:=he t hr
   unfold endsN at he1
   rw [if_neg (by simpa using h85)] at he1
   obtain ⟨u,g1,g2,g3,g4,g5⟩:=ih (k:=kind0 t) (kind_in hw htm h69 hd) (fun t' ht'=>by rw [ht'] at he1;exact he1)
   refine ⟨_,.uni _ t _ u hr h82 h69 hd g1,?_,?_,?_,?_⟩
   ·rw [V.out,← g2];simp [outW,V.outs,joinB,tag0]
   ·rw [deep_nd dC,V.deeps,V.deeps];omega
   ·have e:=out_uni (v:=u) (n:=tag0 t) (r:=[])
    rw [List.append_nil] at e
    show (V.out (.nd 85 [] (tag0 t) [u])).length ≤ _
    rw [e];simp only [List.length_cons,List.length_append,List.length_nil];omega
   ·rw [V.size,if_neg (by unfold leafW;simp),V.sizes,V.sizes];omega
theorem standK_val {ts : List Ty} (hw : SchW ts) {k : List UInt8} (hk : kindIn ts k = true) : ∃ u,OfK ts k u ∧ u.out = standK ts k ∧ u.deep ≤ 12 ∧ u.out.length ≤ 400 ∧ u.size ≤ 1:=by
 have hl:=hw.len
 obtain ⟨u,h1,h2,h3,h4,h5⟩:=standN_val hw (ts.length + 1) hk (fun t ht=>by
  have hm:=refT_mem ht
  obtain ⟨i,hi,rfl⟩:=List.mem_iff_getElem.1 hm
  have:=hw.valid.2 i hi
  rwa [nth_eq hi] at this)
 exact ⟨u,h1,h2,oM,oM,h5⟩
theorem standF_val {ts : List Ty} (hw : SchW ts) {t : Ty} (ht : t ∈ ts) (hs : t.sort ≠ 69) {d : Fld} (hd : d ∈ t.fields) : ∃ u,OfK ts d.kind u ∧ u.out = standF ts d ∧ u.deep ≤ 12 ∧ u.out.length ≤ 400:=by
 unfold standF
 by_cases h0 : d.stand = []
 ·rw [if_pos h0]
  obtain ⟨u,h1,h2,h3,h4,_⟩:=standK_val hw (kind_in hw ht hs hd)
  exact ⟨u,h1,h2,h3,h4⟩
 ·rw [if_neg h0]
  have h1:=(((hw.ty t ht).fld d hd).stand h0).2
  unfold standOk at h1
  split at h1
  ·rename_i hk
   rw [hk]
   simp only [Bool.and_eq_true] at h1
   obtain ⟨m,hm⟩:=Option.isSome_iff_exists.1 h1.1
   have h2:=numOf_le hm
   have h3:=numOf_nn hm
   refine ⟨_,.num [] m h3 h2.1,by rw [V.out];exact h2.2.1.symm,by simp [V.deep,V.deeps],?_⟩
   rw [V.out]
   show (decI m).length ≤ 400
   have:=decI_6 h2.1;omega
  ·split at h1
   ·rename_i hk
    rw [hk]
    simp only [Bool.and_eq_true] at h1
    have hx:=h1.1
    have hx2:=hx
    unfold isTx at hx
    rw [decide_eq_true_eq] at hx
    obtain ⟨⟨h2,h3⟩,h4,h5,_⟩:=hx
    obtain ⟨x,hxs⟩ : ∃ x,d.stand = 39 :: (x ++ [39]):=by
     cases hs : d.stand with
     | nil=>exact absurd hs h0
     | cons c r =>
      rw [hs] at h4 h5 h2
      have hc : c = 39:=UInt8.toNat_inj.1 (by rw [bt_zero] at h4;exact h4)
      have hr : r ≠ []:=by rintro rfl;simp at h2
      refine ⟨r.dropLast,?_⟩
      have hl : r.getLast hr = 39:=by
       refine UInt8.toNat_inj.1 ?_
       simp only [List.length_cons,Nat.add_sub_cancel] at h5
       obtain ⟨m,hm⟩ : ∃ m,r.length = m + 1:=⟨r.length - 1,by have:=List.length_pos_iff.2 hr;omega⟩
       rw [hm,bt_succ] at h5
       rw [List.getLast_eq_getElem]
       have : bt r m = (r[r.length - 1]'(by have:=List.length_pos_iff.2 hr;omega)).toNat:=by simp [bt,List.getD,hm]
       rw [← this,h5];rfl
      rw [hc];congr 1
      rw [← hl,List.dropLast_concat_getLast]
    rw [hxs] at hx2 h3 ⊢
    refine ⟨_,.txt [] x hx2,by rw [V.out];rfl,by simp [V.deep,V.deeps],?_⟩
    rw [V.out]
    show (39 :: (x ++ [39])).length ≤ 400
    omega
   ·split at h1
    ·rename_i hk
     rw [hk]
     rw [decide_eq_true_eq] at h1
     rw [h1]
     exact ⟨_,.flg [] _ (.inl rfl),by rw [V.out];rfl,by simp [V.deep,V.deeps],by rw [V.out];decide⟩
    ·cases h1
def stepsOf : List (List UInt8) → Option (List Int)
 | []=>some []
 | x :: xs=>match numOf x 999999 with
  | none=>none
  | some n=>(stepsOf xs).map (n :: ·)
def pathOf (s : List UInt8) : Option (List Int):=if s = [] then some [] else match stepsOf (cut 47 s) with
 | some p=>if p.length ≤ 8 then some p else none
 | none=>none
theorem stepsOf_len : ∀ {xs : List (List UInt8)} {p : List Int},stepsOf xs = some p → p.length = xs.length ∧ ∀ n ∈ p,0 ≤ n ∧ n ≤ 999999
 | [],p,h=>by simp only [stepsOf,Option.some.injEq] at h;subst h;simp
 | x :: xs,p,h=>by
  unfold stepsOf at h
  cases hn : numOf x 999999 with
  | none=>rw [hn] at h;cases h
  | some n =>
   rw [hn] at h
   dsimp only at h
   cases hs : stepsOf xs with
   | none=>rw [hs] at h;cases h
   | some q =>
    rw [hs] at h
    simp only [Option.map_some,Option.some.injEq] at h
    subst h
    obtain ⟨h1,h2⟩:=stepsOf_len hs
    refine ⟨by simp [h1],fun m hm=>?_⟩
    rcases List.mem_cons.1 hm with rfl | hm
    ·exact ⟨numOf_nn hn,(numOf_le hn).1⟩
    ·exact h2 m hm
def standV (ts : List Ty) (f : Fld) : V:=(valOf ts f.kind (standF ts f)).getD default
def toldV (f : Fld) : List V → Option V
 | []=>none
 | x :: r=>if x.tag = f.tag then some (nth x.kids 0) else toldV f r
def getV (ts : List Ty) (v : V) (f : Fld) : V:=(toldV f v.kids).getD (standV ts f)
def stepV (ts : List Ty) (k : List UInt8) (v : V) (n : Int) : Option (List UInt8 × V):=match k with
 | []=>none
 | c :: r=>if c.toNat = 91 ∨ c.toNat = 63 then (if n < (v.kids.length : Nat) then some (r,nth v.kids n.toNat) else none)
  else match refT ts (c :: r) with
   | none=>none
   | some t=>match fldT t.fields n with
    | none=>none
    | some f=>if t.sort = 69 then none else if t.sort = 82 then some (f.kind,getV ts v f) else if v.tag = n then some (f.kind,nth v.kids 0) else none
def followV (ts : List Ty) : List UInt8 → V → List Int → Option (List UInt8 × V)
 | k,v,[]=>some (k,v)
 | k,v,n :: p=>match stepV ts k v n with
  | none=>none
  | some (k',v')=>followV ts k' v' p
theorem standV_ok {ts : List Ty} (hw : SchW ts) {t : Ty} (ht : t ∈ ts) (hs : t.sort ≠ 69) {d : Fld} (hd : d ∈ t.fields) : OfK ts d.kind (standV ts d) ∧ valOf ts d.kind (standF ts d) = some (standV ts d) ∧ (standV ts d).out = standF ts d:=by
 obtain ⟨u,h1,h2,h3,h4⟩:=standF_val hw ht hs hd
 have h5:=valOf_in hw h1 h4 h3
 rw [h2] at h5
 have h6 : standV ts d = u:=by unfold standV;rw [h5];rfl
 rw [h6]
 exact ⟨h1,h5,h2⟩
theorem toldV_of {ts : List Ty} {t : Ty} (hw : TyW t) {f : Fld} (hf : f ∈ t.fields) : ∀ {fs : List (Fld × V)} {u : V},(∀ p ∈ fs,p.1 ∈ t.fields ∧ OfK ts p.1.kind p.2) → toldV f (fs.map fldV) = some u → OfK ts f.kind u ∧ ∃ p ∈ fs,p.1 = f ∧ p.2 = u
 | [],u,_,h=>by simp [toldV] at h
 | p :: fs,u,hp,h=>by
  simp only [List.map_cons,toldV] at h
  split at h
  ·rename_i he
   simp only [Option.some.injEq] at h
   have h1 : p.2 = u:=h
   have h2:=fld_tag hw (hp p (by simp)).1 hf he
   subst h1
   exact ⟨by rw [← h2];exact (hp p (by simp)).2,p,by simp,h2,rfl⟩
  ·obtain ⟨h1,q,h2,h3⟩:=toldV_of hw hf (fun q hq=>hp q (by simp [hq])) h
   exact ⟨h1,q,by simp [h2],h3⟩
theorem getV_ok {ts : List Ty} (hw : SchW ts) {t : Ty} (ht : t ∈ ts) (hs : t.sort = 82) {f : Fld} (hf : f ∈ t.fields) {fs : List (Fld × V)} (hp : ∀ p ∈ fs,p.1 ∈ t.fields ∧ OfK ts p.1.kind p.2) : OfK ts f.kind (getV ts (.nd 82 [] 0 (fs.map fldV)) f):=by
 unfold getV
 cases h : toldV f (V.kids (.nd 82 [] 0 (fs.map fldV))) with
 | none=>exact (standV_ok hw ht oM hf).1
 | some u=>exact (toldV_of (hw.ty t ht) hf hp h).1
theorem stepV_ok {ts : List Ty} (hw : SchW ts) {k : List UInt8} {v : V} (h : OfK ts k v) (hk : kindIn ts k = true) {n : Int} (hn : 0 ≤ n) {k' : List UInt8} {v' : V} (e : stepV ts k v n = some (k',v')) : OfK ts k' v' ∧ kindIn ts k' = true:=by
 obtain ⟨c,r,rfl⟩:=kind_ne hk
 unfold stepV at e
 dsimp only at e
 split at e
 ·rename_i hc
  split at e
  ·rename_i hlt
   simp only [Option.some.injEq,Prod.mk.injEq] at e
   obtain ⟨rfl,rfl⟩:=e
   refine ⟨?_,kindIn_tail hc hk⟩
   rcases ofK_inv_c h oM with ⟨h1,_⟩ | ⟨h1,_⟩ | ⟨h1,_⟩ | ⟨h1,ks,_,h3,rfl⟩ | ⟨h1,rfl | ⟨u,h3,rfl⟩⟩
   ·omega
   ·omega
   ·omega
   ·rw [V.kids] at hlt ⊢
    have : n.toNat < ks.length:=oM
    rw [nth_eq this];exact h3 _ (List.getElem_mem this)
   ·simp [V.kids] at hlt;omega
   ·simp [V.kids] at hlt
    have : n.toNat = 0:=oM
    rw [this];exact h3
  ·cases e
 ·split at e
  ·cases e
  ·rename_i t hr
   have ht:=refT_mem hr
   split at e
   ·cases e
   ·rename_i f hf
    have hfm:=List.mem_of_find?_eq_some hf
    split at e
    ·cases e
    ·rename_i h69
     have hki:=kind_in hw ht h69 hfm
     split at e
     ·rename_i h82
      simp only [Option.some.injEq,Prod.mk.injEq] at e
      obtain ⟨rfl,rfl⟩:=e
      rcases ofK_inv_t h hr with ⟨_,fs,rfl,g3,g4,_,_⟩ | ⟨h1,_⟩ | ⟨h1,_⟩
      ·exact ⟨getV_ok hw ht h82 hfm fun p hp=>⟨g3 p hp,g4 p hp⟩,hki⟩
      ·omega
      ·omega
     ·rename_i h82
      split at e
      ·rename_i htg
       simp only [Option.some.injEq,Prod.mk.injEq] at e
       obtain ⟨rfl,rfl⟩:=e
       rcases ofK_inv_t h hr with ⟨h1,_⟩ | ⟨h1,_⟩ | ⟨_,_,d,u,rfl,g4,g5⟩
       ·omega
       ·omega
       ·have h7 : f.tag = n:=by have:=List.find?_some hf;simpa using this
        have h8:=fld_tag (hw.ty t ht) g4 hfm (by rw [h7];exact htg)
        rw [V.kids]
        exact ⟨by rw [← h8];exact g5,hki⟩
      ·cases e
theorem followV_ok {ts : List Ty} (hw : SchW ts) : ∀ {p : List Int} {k : List UInt8} {v : V} {k' : List UInt8} {v' : V},OfK ts k v → kindIn ts k = true → (∀ n ∈ p,0 ≤ n) → followV ts k v p = some (k',v') → OfK ts k' v' ∧ kindIn ts k' = true
 | [],k,v,k',v',h,hk,_,e=>by
  simp only [followV,Option.some.injEq,Prod.mk.injEq] at e
  obtain ⟨rfl,rfl⟩:=e
  exact ⟨h,hk⟩
 | n :: p,k,v,k',v',h,hk,hp,e=>by
  unfold followV at e
  cases hs : stepV ts k v n with
  | none=>rw [hs] at e;cases e
  | some x =>
   rw [hs] at e
   obtain ⟨k1,v1⟩:=x
   obtain ⟨h1,h2⟩:=stepV_ok hw h hk (hp n (by simp)) hs
   exact followV_ok hw h1 h2 (fun m hm=>hp m (by simp [hm])) e
def putF (ts : List Ty) (f : Fld) (x : V) : List V → List V
 | []=>if x.out = standF ts f then [] else [.nd 61 [] f.tag [x]]
 | y :: r=>if y.tag < f.tag then y :: putF ts f x r
  else (if x.out = standF ts f then [] else [.nd 61 [] f.tag [x]]) ++ (if y.tag = f.tag then r else y :: r)
def changeV (ts : List Ty) : List UInt8 → V → List Int → V → V
 | _,_,[],x=>x
 | k,v,n :: p,x=>match stepV ts k v n with
  | none=>v
  | some (k',v')=>if v.what = 82 then (match refT ts k with
    | some t=>(match fldT t.fields n with
     | some f=>.nd 82 [] 0 (putF ts f (changeV ts k' v' p x) v.kids)
     | none=>v)
    | none=>v)
   else .nd v.what [] v.tag (if v.what = 91 then v.kids.set n.toNat (changeV ts k' v' p x) else [changeV ts k' v' p x])
theorem putF_ok {ts : List Ty} {t : Ty} (hw : TyW t) {f : Fld} (hf : f ∈ t.fields) {x : V} (hx : OfK ts f.kind x) : ∀ {fs : List (Fld × V)},(∀ p ∈ fs,p.1 ∈ t.fields ∧ OfK ts p.1.kind p.2 ∧ p.2.out ≠ standF ts p.1) → fs.Pairwise (fun a b=>a.1.tag < b.1.tag) →
  ∃ gs : List (Fld × V),putF ts f x (fs.map fldV) = gs.map fldV ∧ (∀ p ∈ gs,(p.1 ∈ t.fields ∧ OfK ts p.1.kind p.2 ∧ p.2.out ≠ standF ts p.1) ∧ (p ∈ fs ∨ p.1 = f)) ∧ gs.Pairwise (fun a b=>a.1.tag < b.1.tag)
 | [],_,_=>by
  simp only [List.map_nil,putF]
  split
  ·exact ⟨[],rfl,by simp,by simp⟩
  ·rename_i hne
   exact ⟨[(f,x)],rfl,fun p hp=>by simp only [List.mem_singleton] at hp;subst hp;exact ⟨⟨hf,hx,hne⟩,.inr rfl⟩,by simp⟩
 | q :: fs,hp,hpw=>by
  rw [List.pairwise_cons] at hpw
  simp only [List.map_cons,putF]
  show ∃ gs : List (Fld × V),(if q.1.tag < f.tag then fldV q :: putF ts f x (fs.map fldV) else (if x.out = standF ts f then [] else [.nd 61 [] f.tag [x]]) ++ (if q.1.tag = f.tag then fs.map fldV else fldV q :: fs.map fldV)) = gs.map fldV ∧ _
  by_cases hlt : q.1.tag < f.tag
  ·rw [if_pos hlt]
   obtain ⟨gs,e1,e2,e3⟩:=putF_ok hw hf hx (fun p h=>hp p (by simp [h])) hpw.2
   refine ⟨q :: gs,by rw [e1];rfl,fun p h=>?_,?_⟩
   ·rcases List.mem_cons.1 h with rfl | h
    ·exact ⟨hp _ (by simp),.inl (by simp)⟩
    ·exact ⟨(e2 p h).1,(e2 p h).2.imp (fun h=>by simp [h]) id⟩
   ·rw [List.pairwise_cons]
    refine ⟨fun p h=>?_,e3⟩
    rcases (e2 p h).2 with h1 | h1
    ·exact hpw.1 p h1
    ·rw [h1];exact hlt
  ·rw [if_neg hlt]
   have hB : ∃ gs : List (Fld × V),(if q.1.tag = f.tag then fs.map fldV else fldV q :: fs.map fldV) = gs.map fldV ∧ (∀ p ∈ gs,(p.1 ∈ t.fields ∧ OfK ts p.1.kind p.2 ∧ p.2.out ≠ standF ts p.1) ∧ p ∈ q :: fs ∧ f.tag < p.1.tag) ∧ gs.Pairwise (fun a b=>a.1.tag < b.1.tag):=by
    split
    ·rename_i he
     exact ⟨fs,rfl,fun p h=>⟨hp p (by simp [h]),by simp [h],by have:=hpw.1 p h;omega⟩,hpw.2⟩
    ·rename_i he
     refine ⟨q :: fs,rfl,fun p h=>⟨hp p h,h,?_⟩,by rw [List.pairwise_cons];exact hpw⟩
     rcases List.mem_cons.1 h with rfl | h
     ·omega
     ·have:=hpw.1 p h;omega
   obtain ⟨gs,e1,e2,e3⟩:=hB
   rw [e1]
   split
   ·exact ⟨gs,rfl,fun p h=>⟨(e2 p h).1,.inl (e2 p h).2.1⟩,e3⟩
   ·rename_i hne
    refine ⟨(f,x) :: gs,rfl,fun p h=>?_,?_⟩
    ·rcases List.mem_cons.1 h with rfl | h
     ·exact ⟨⟨hf,hx,hne⟩,.inr rfl⟩
     ·exact ⟨(e2 p h).1,.inl (e2 p h).2.1⟩
    ·rw [List.pairwise_cons]
     exact ⟨fun p h=>(e2 p h).2.2,e3⟩
theorem changeV_ok {ts : List Ty} (hw : SchW ts) : ∀ {p : List Int} {k : List UInt8} {v x : V} {k' : List UInt8} {v' : V},OfK ts k v → kindIn ts k = true → (∀ n ∈ p,0 ≤ n) → followV ts k v p = some (k',v') → OfK ts k' x → OfK ts k (changeV ts k v p x)
 | [],k,v,x,k',v',h,hk,_,e,hx=>by
  simp only [followV,Option.some.injEq,Prod.mk.injEq] at e
  obtain ⟨rfl,rfl⟩:=e
  exact hx
 | n :: p,k,v,x,k',v',h,hk,hp,e,hx=>by
  unfold followV at e
  cases hs : stepV ts k v n with
  | none=>rw [hs] at e;cases e
  | some y =>
   rw [hs] at e
   obtain ⟨k1,v1⟩:=y
   obtain ⟨h1,h2⟩:=stepV_ok hw h hk (hp n (by simp)) hs
   have ih:=changeV_ok hw h1 h2 (fun m hm=>hp m (by simp [hm])) e hx
   have hn:=hp n (by simp)
   unfold changeV
   rw [hs]
   dsimp only
   obtain ⟨c,r,rfl⟩:=kind_ne hk
   unfold stepV at hs
   dsimp only at hs
   split at hs
   ·rename_i hc
    split at hs
    ·rename_i hlt
     simp only [Option.some.injEq,Prod.mk.injEq] at hs
     obtain ⟨rfl,rfl⟩:=hs
     rcases ofK_inv_c h oM with ⟨g1,_⟩ | ⟨g1,_⟩ | ⟨g1,_⟩ | ⟨g1,ks,g2,g3,rfl⟩ | ⟨g1,rfl | ⟨u,g3,rfl⟩⟩
     ·omega
     ·omega
     ·omega
     ·rw [V.what,if_neg dC,if_pos rfl]
      obtain rfl:=u8_eq g1 dC
      refine .lst _ _ (by rw [List.length_set];exact g2) fun u hu=>?_
      rcases List.mem_or_eq_of_mem_set hu with hu | rfl
      ·exact g3 u hu
      ·exact ih
     ·simp [V.kids] at hlt;omega
     ·rw [V.what,if_neg dC,if_neg dC]
      obtain rfl:=u8_eq g1 dC
      exact .opt _ _ ih
    ·cases hs
   ·split at hs
    ·cases hs
    ·rename_i t hr
     have ht:=refT_mem hr
     split at hs
     ·cases hs
     ·rename_i f hf
      have hfm:=List.mem_of_find?_eq_some hf
      split at hs
      ·cases hs
      ·rename_i h69
       split at hs
       ·rename_i h82
        simp only [Option.some.injEq,Prod.mk.injEq] at hs
        obtain ⟨rfl,rfl⟩:=hs
        rcases ofK_inv_t h hr with ⟨_,fs,rfl,g3,g4,g5,g6⟩ | ⟨g1,_⟩ | ⟨g1,_⟩
        ·rw [V.what,if_pos rfl,hr]
         dsimp only
         rw [hf]
         dsimp only
         rw [V.kids]
         obtain ⟨gs,e1,e2,e3⟩:=putF_ok (hw.ty t ht) hfm ih (fun p hp=>⟨g3 p hp,g4 p hp,g5 p hp⟩) g6
         rw [e1]
         exact .recd _ t gs hr h82 (fun p hp=>(e2 p hp).1.1) (fun p hp=>(e2 p hp).1.2.1) (fun p hp=>(e2 p hp).1.2.2) e3
        ·omega
        ·omega
       ·rename_i h82
        split at hs
        ·rename_i htg
         simp only [Option.some.injEq,Prod.mk.injEq] at hs
         obtain ⟨rfl,rfl⟩:=hs
         rcases ofK_inv_t h hr with ⟨g1,_⟩ | ⟨g1,_⟩ | ⟨_,_,d,u,rfl,g4,g5⟩
         ·omega
         ·omega
         ·have h7 : f.tag = n:=by have:=List.find?_some hf;simpa using this
          have h8:=fld_tag (hw.ty t ht) g4 hfm (by rw [h7];exact htg)
          rw [V.what,if_neg dC,if_neg dC]
          exact .uni _ t d _ hr h82 h69 g4 (by rw [h8];exact ih)
        ·cases hs
theorem out_inj {ts : List Ty} (hw : SchW ts) {k : List UInt8} {u v : V} (hu : OfK ts k u) (hv : OfK ts k v) (h : u.out = v.out) : u = v:=by
 have h1:=rd_in hw (max u.deep v.deep) hu (Nat.le_max_left _ _) [] dl_nil
 have h2:=rd_in hw (max u.deep v.deep) hv (Nat.le_max_right _ _) [] dl_nil
 rw [h,h2] at h1
 simp only [Option.some.injEq,Prod.mk.injEq,and_true] at h1
 exact h1.symm
theorem tag_nd {w : Nat} {x : List UInt8} {t : Int} {ks : List V} : V.tag (.nd w x t ks) = t:=rfl
def nf (ts : List Ty) (f : Fld) (x : V) : List V:=if x.out = standF ts f then [] else [.nd 61 [] f.tag [x]]
theorem putF_nil {ts : List Ty} {f : Fld} {x : V} : putF ts f x [] = nf ts f x:=rfl
theorem putF_cons {ts : List Ty} {f : Fld} {x y : V} {r : List V} : putF ts f x (y :: r) = if y.tag < f.tag then y :: putF ts f x r else nf ts f x ++ (if y.tag = f.tag then r else y :: r):=rfl
theorem putF_gt {ts : List Ty} {f : Fld} {x : V} : ∀ {vs : List V},(∀ v ∈ vs,f.tag < v.tag) → putF ts f x vs = nf ts f x ++ vs
 | [],_=>by rw [putF_nil,List.append_nil]
 | v :: vs,h=>by
  have:=h v (by simp)
  rw [putF_cons,if_neg oM,if_neg oM]
theorem toldV_gt {f : Fld} : ∀ {vs : List V},(∀ v ∈ vs,f.tag < v.tag) → toldV f vs = none
 | [],_=>rfl
 | v :: vs,h=>by
  have:=h v (by simp)
  rw [toldV,if_neg oM]
  exact toldV_gt fun u hu=>h u (by simp [hu])
theorem toldV_nf {ts : List Ty} {f : Fld} {x : V} {vs : List V} (h : ∀ v ∈ vs,f.tag < v.tag) : toldV f (nf ts f x ++ vs) = if x.out = standF ts f then none else some x:=by
 unfold nf
 split
 ·exact toldV_gt h
 ·rw [List.singleton_append,toldV,tag_nd,if_pos rfl];rfl
abbrev Srt (vs : List V) : Prop:=vs.Pairwise fun a b=>a.tag < b.tag
theorem toldV_put {ts : List Ty} {f : Fld} {x : V} : ∀ {vs : List V},Srt vs → toldV f (putF ts f x vs) = if x.out = standF ts f then none else some x
 | [],_=>by
  rw [putF_nil]
  have:=toldV_nf (ts:=ts) (f:=f) (x:=x) (vs:=[]) (by simp)
  rwa [List.append_nil] at this
 | v :: vs,h=>by
  replace h:=List.pairwise_cons.1 h
  rw [putF_cons]
  split
  ·rw [toldV,if_neg oM]
   exact toldV_put h.2
  ·refine toldV_nf fun u hu=>?_
   split at hu
   ·have:=h.1 u hu;omega
   ·rcases List.mem_cons.1 hu with rfl | hu
    ·omega
    ·have:=h.1 u hu;omega
theorem putF_put {ts : List Ty} {f : Fld} {x y : V} : ∀ {vs : List V},Srt vs → putF ts f y (putF ts f x vs) = putF ts f y vs
 | [],_=>by
  rw [putF_nil,putF_nil]
  unfold nf
  split
  ·exact putF_nil
  ·rw [putF_cons,tag_nd,if_neg oM,if_pos rfl,List.append_nil];rfl
 | v :: vs,h=>by
  replace h:=List.pairwise_cons.1 h
  rw [putF_cons,putF_cons (x:=y)]
  split
  ·rename_i hl
   rw [putF_cons,if_pos hl,putF_put h.2]
  ·rename_i hl
   have hB : ∀ u ∈ (if v.tag = f.tag then vs else v :: vs),f.tag < u.tag:=fun u hu=>by
    split at hu
    ·have:=h.1 u hu;omega
    ·rcases List.mem_cons.1 hu with rfl | hu
     ·omega
     ·have:=h.1 u hu;omega
   generalize (if v.tag = f.tag then vs else v :: vs) = ws at hB
   rw [show nf ts f x = if x.out = standF ts f then [] else [.nd 61 [] f.tag [x]] from rfl]
   split
   ·exact putF_gt hB
   ·rw [List.singleton_append,putF_cons,tag_nd,if_neg oM,if_pos rfl]
theorem putF_self {ts : List Ty} {t : Ty} (hw : TyW t) {f : Fld} (hf : f ∈ t.fields) {z : V} (hz : z.out = standF ts f) : ∀ {fs : List (Fld × V)},(∀ p ∈ fs,p.1 ∈ t.fields ∧ p.2.out ≠ standF ts p.1) → Srt (fs.map fldV) → putF ts f ((toldV f (fs.map fldV)).getD z) (fs.map fldV) = fs.map fldV
 | [],_,_=>by
  rw [List.map_nil,putF_nil]
  show nf ts f z = []
  unfold nf;rw [if_pos hz]
 | q :: fs,hp,h=>by
  replace h:=List.pairwise_cons.1 h
  have hq:=hp q (by simp)
  rw [List.map_cons,putF_cons,toldV]
  by_cases hl : (fldV q).tag < f.tag
  ·rw [if_pos hl,if_neg oM,putF_self hw hf hz (fun p hp'=>hp p (by simp [hp'])) h.2]
  ·rw [if_neg hl]
   by_cases he : (fldV q).tag = f.tag
   ·rw [if_pos he,if_pos he]
    have h1 : q.1 = f:=fld_tag hw hq.1 hf he
    have h2 : ((some (nth (fldV q).kids 0)).getD z) = q.2:=rfl
    rw [h2]
    unfold nf
    rw [if_neg (by rw [← h1];exact hq.2),List.singleton_append,← h1]
   ·rw [if_neg he,if_neg he,toldV_gt fun v hv=>by have:=h.1 v hv;omega]
    show nf ts f z ++ _ = _
    unfold nf;rw [if_pos hz,List.nil_append]
theorem toldV_ne {ts : List Ty} {f g : Fld} (hg : g.tag ≠ f.tag) {x : V} : ∀ {vs : List V},toldV g (putF ts f x vs) = toldV g vs
 | []=>by
  rw [putF_nil];unfold nf
  split
  ·rfl
  ·show (if V.tag (.nd 61 [] f.tag [x]) = g.tag then some (nth (V.kids (.nd 61 [] f.tag [x])) 0) else none) = none
   rw [tag_nd,if_neg oM]
 | v :: vs=>by
  rw [putF_cons]
  split
  ·rw [toldV,toldV,toldV_ne hg]
  ·have h1 : ∀ ws : List V,toldV g (nf ts f x ++ ws) = toldV g ws:=fun ws=>by
    unfold nf
    split
    ·rfl
    ·rw [List.singleton_append,toldV,tag_nd,if_neg oM]
   rw [h1]
   split
   ·rename_i he
    rw [toldV,if_neg oM]
   ·rfl
def setV (ts : List Ty) (k : List UInt8) (v : V) (n : Int) (y : V) : V:=if v.what = 82 then (match refT ts k with
  | some t=>(match fldT t.fields n with
   | some f=>.nd 82 [] 0 (putF ts f y v.kids)
   | none=>v)
  | none=>v)
 else .nd v.what [] v.tag (if v.what = 91 then v.kids.set n.toNat y else [y])
theorem changeV_cons {ts : List Ty} {k k1 : List UInt8} {v v1 x : V} {n : Int} {p : List Int} (h : stepV ts k v n = some (k1,v1)) : changeV ts k v (n :: p) x = setV ts k v n (changeV ts k1 v1 p x):=by
 rw [changeV,h];rfl
theorem followV_cons {ts : List Ty} {k k1 : List UInt8} {v v1 : V} {n : Int} {p : List Int} (h : stepV ts k v n = some (k1,v1)) : followV ts k v (n :: p) = followV ts k1 v1 p:=by
 rw [followV,h]
theorem srt_fs {fs : List (Fld × V)} (h : fs.Pairwise fun a b=>a.1.tag < b.1.tag) : Srt (fs.map fldV):=List.pairwise_map.2 h
theorem set_step {ts : List Ty} (hw : SchW ts) {k : List UInt8} {v : V} (h : OfK ts k v) (hk : kindIn ts k = true) {n : Int} (hn : 0 ≤ n) {k1 : List UInt8} {v1 : V} (hs : stepV ts k v n = some (k1,v1)) {y : V} (hy : OfK ts k1 y) :
  (stepV ts k (setV ts k v n y) n = some (k1,y) ∧ setV ts k v n v1 = v) ∧ (∀ z,setV ts k (setV ts k v n y) n z = setV ts k v n z) ∧ ∀ m,0 ≤ m → m ≠ n → stepV ts k (setV ts k v n y) m = stepV ts k v m:=by
 obtain ⟨c,r,rfl⟩:=kind_ne hk
 have hs0:=hs
 unfold stepV at hs
 dsimp only at hs
 split at hs
 ·rename_i hc
  split at hs
  ·rename_i hlt
   simp only [Option.some.injEq,Prod.mk.injEq] at hs
   obtain ⟨rfl,rfl⟩:=hs
   rcases ofK_inv_c h oM with ⟨g1,_⟩ | ⟨g1,_⟩ | ⟨g1,_⟩ | ⟨g1,ks,g2,g3,rfl⟩ | ⟨g1,rfl | ⟨u,g3,rfl⟩⟩
   ·omega
   ·omega
   ·omega
   ·rw [V.kids] at hlt ⊢
    have hi : n.toNat < ks.length:=oM
    have e : ∀ z,setV ts (c :: r) (.nd 91 [] 0 ks) n z = .nd 91 [] 0 (ks.set n.toNat z):=fun z=>by
     unfold setV;rw [V.what,if_neg dC,if_pos rfl];rfl
    refine ⟨⟨?_,?_⟩,fun z=>?_,fun m hm hne=>?_⟩
    ·rw [e]
     unfold stepV
     dsimp only
     rw [if_pos hc,V.kids,if_pos (by rw [List.length_set];exact hlt),nth_eq (by rw [List.length_set];exact hi),List.getElem_set_self]
    ·rw [e,nth_eq hi,List.set_getElem_self]
    ·rw [e,e]
     unfold setV;rw [V.what,if_neg dC,if_pos rfl,V.kids,List.set_set];rfl
    ·rw [e]
     unfold stepV
     dsimp only
     rw [if_pos hc,if_pos hc,V.kids,V.kids,List.length_set]
     split
     ·rename_i hm2
      rw [nth_eq (by rw [List.length_set];omega),nth_eq oM,List.getElem_set_ne oM]
     ·rfl
   ·simp [V.kids] at hlt;omega
   ·simp [V.kids] at hlt
    obtain rfl : n = 0:=oM
    have e : ∀ w z,setV ts (c :: r) (.nd 63 [] 0 [w]) 0 z = .nd 63 [] 0 [z]:=fun w z=>by
     unfold setV;rw [V.what,if_neg dC,if_neg dC];rfl
    refine ⟨⟨?_,?_⟩,fun z=>?_,fun m hm hne=>?_⟩
    ·rw [e]
     unfold stepV
     dsimp only
     rw [if_pos hc,V.kids,if_pos (by simp)];rfl
    ·rw [e];rfl
    ·rw [e,e,e]
    ·rw [e]
     unfold stepV
     dsimp only
     rw [if_pos hc,if_pos hc,V.kids,V.kids,if_neg (by simp;omega),if_neg (by simp;omega)]
  ·cases hs
 ·rename_i hc
  split at hs
  ·cases hs
  ·rename_i t hr
   have ht:=refT_mem hr
   split at hs
   ·cases hs
   ·rename_i f hf
    have hfm:=List.mem_of_find?_eq_some hf
    have hft : f.tag = n:=by have:=List.find?_some hf;simpa using this
    split at hs
    ·cases hs
    ·rename_i h69
     split at hs
     ·rename_i h82
      simp only [Option.some.injEq,Prod.mk.injEq] at hs
      obtain ⟨rfl,rfl⟩:=hs
      rcases ofK_inv_t h hr with ⟨_,fs,rfl,g3,g4,g5,g6⟩ | ⟨g1,_⟩ | ⟨g1,_⟩
      ·have e : ∀ vs z,setV ts (c :: r) (.nd 82 [] 0 vs) n z = .nd 82 [] 0 (putF ts f z vs):=fun vs z=>by
        unfold setV;rw [V.what,if_pos rfl,hr]
        dsimp only
        rw [hf];rfl
       have hst:=standV_ok hw ht oM hfm
       have hsrt:=srt_fs g6
       refine ⟨⟨?_,?_⟩,fun z=>?_,fun m hm hne=>?_⟩
       ·rw [e]
        unfold stepV
        dsimp only
        rw [if_neg hc,hr]
        dsimp only
        rw [hf]
        dsimp only
        rw [if_neg h69,if_pos h82]
        unfold getV
        rw [V.kids,toldV_put hsrt]
        split
        ·rename_i hso
         show some (f.kind,standV ts f) = _
         rw [out_inj hw hst.1 hy (by rw [hst.2.2,hso])]
        ·rfl
       ·rw [e]
        unfold getV
        rw [V.kids,putF_self (hw.ty t ht) hfm hst.2.2 (fun p hp=>⟨g3 p hp,g5 p hp⟩) hsrt]
       ·rw [e,e,e,putF_put hsrt]
       ·rw [e]
        unfold stepV
        dsimp only
        rw [if_neg hc,if_neg hc,hr]
        dsimp only
        cases hg : fldT t.fields m with
        | none=>rfl
        | some g =>
         have hgt : g.tag = m:=by have:=List.find?_some hg;simpa using this
         dsimp only
         rw [if_neg h69,if_neg h69,if_pos h82,if_pos h82]
         unfold getV
         rw [V.kids,V.kids,toldV_ne oM]
      ·omega
      ·omega
     ·rename_i h82
      split at hs
      ·rename_i htg
       simp only [Option.some.injEq,Prod.mk.injEq] at hs
       obtain ⟨rfl,rfl⟩:=hs
       rcases ofK_inv_t h hr with ⟨g1,_⟩ | ⟨g1,_⟩ | ⟨_,_,d,u,rfl,g4,g5⟩
       ·omega
       ·omega
       ·have e : ∀ w z,setV ts (c :: r) (.nd 85 [] d.tag [w]) n z = .nd 85 [] d.tag [z]:=fun w z=>by
         unfold setV;rw [V.what,if_neg dC,if_neg dC];rfl
        have htg2 : d.tag = n:=htg
        refine ⟨⟨?_,?_⟩,fun z=>?_,fun m hm hne=>?_⟩
        ·rw [e]
         unfold stepV
         dsimp only
         rw [if_neg hc,hr]
         dsimp only
         rw [hf]
         dsimp only
         rw [if_neg h69,if_neg h82,V.tag,if_pos htg2];rfl
        ·rw [e];rfl
        ·rw [e,e,e]
        ·rw [e]
         unfold stepV
         dsimp only
         rw [if_neg hc,if_neg hc,hr]
         dsimp only
         cases hg : fldT t.fields m with
         | none=>rfl
         | some g =>
          dsimp only
          rw [if_neg h69,if_neg h69,if_neg h82,if_neg h82,V.tag,V.tag,if_neg oM,if_neg oM]
      ·cases hs
theorem change_follow {ts : List Ty} (hw : SchW ts) : ∀ {p : List Int} {k : List UInt8} {v x y : V} {k' : List UInt8} {v' : V},OfK ts k v → kindIn ts k = true → (∀ n ∈ p,0 ≤ n) → followV ts k v p = some (k',v') → OfK ts k' x →
  followV ts k (changeV ts k v p x) p = some (k',x) ∧ changeV ts k v p v' = v ∧ changeV ts k (changeV ts k v p x) p y = changeV ts k v p y
 | [],k,v,x,y,k',v',h,hk,_,e,hx=>by
  simp only [followV,Option.some.injEq,Prod.mk.injEq] at e
  obtain ⟨rfl,rfl⟩:=e
  exact ⟨rfl,rfl,rfl⟩
 | n :: p,k,v,x,y,k',v',h,hk,hp,e,hx=>by
  unfold followV at e
  cases hs : stepV ts k v n with
  | none=>rw [hs] at e;cases e
  | some q =>
   rw [hs] at e
   obtain ⟨k1,v1⟩:=q
   have hn:=hp n (by simp)
   obtain ⟨h1,h2⟩:=stepV_ok hw h hk hn hs
   have hp2 : ∀ m ∈ p,0 ≤ m:=fun m hm=>hp m (by simp [hm])
   obtain ⟨i1,i2,i3⟩:=change_follow hw (y:=y) h1 h2 hp2 e hx
   have hc:=changeV_ok hw h1 h2 hp2 e hx
   obtain ⟨⟨s1,s2⟩,s3,_⟩:=set_step hw h hk hn hs hc
   rw [changeV_cons hs,changeV_cons hs,changeV_cons hs]
   refine ⟨?_,?_,?_⟩
   ·rw [followV_cons s1];exact i1
   ·rw [i2,s2]
   ·rw [changeV_cons s1,i3,s3]
def putA {α : Type} (tg : α → Int) (told : Bool) (node : α) (tag : Int) : List α → Bool → List α
 | [],d=>if (told && !d) = true then [node] else []
 | y :: r,d=>(if tag ≤ tg y ∧ (told && !d) = true then [node] else []) ++ ((if tg y = tag then [] else [y]) ++ putA tg told node tag r (d || decide (tag ≤ tg y)))
def putB {α : Type} (tg : α → Int) (node : α) (tag : Int) : List α → Bool → List α
 | [],d=>if d = true then [] else [node]
 | y :: r,d=>(if tag < tg y ∧ d = false then [node] else []) ++ ((if tg y = tag then [] else [y]) ++ putB tg node tag r (d || decide (tag < tg y)))
theorem putB_map {α β : Type} {tg : α → Int} {tg' : β → Int} {h : α → β} (ht : ∀ a,tg' (h a) = tg a) {node : α} {tag : Int} : ∀ {l : List α} {d : Bool},(putB tg node tag l d).map h = putB tg' (h node) tag (l.map h) d
 | [],d=>by rw [putB,List.map_nil,putB];split <;> rfl
 | y :: r,d=>by
  rw [List.map_cons,putB,putB,List.map_append,List.map_append,putB_map ht,ht]
  congr 1
  ·split <;> rfl
  ·congr 1
   split <;> rfl
theorem putA_done {α : Type} {tg : α → Int} {told : Bool} {node : α} {tag : Int} : ∀ {l : List α},(∀ y ∈ l,tag < tg y) → putA tg told node tag l true = l
 | [],_=>by simp [putA]
 | y :: r,h=>by
  have h1:=h y (by simp)
  rw [putA,Bool.true_or,putA_done fun z hz=>h z (by simp [hz]),if_neg (by simp),if_neg oM];rfl
theorem putB_done {α : Type} {tg : α → Int} {node : α} {tag : Int} : ∀ {l : List α},(∀ y ∈ l,tag < tg y) → putB tg node tag l true = l
 | [],_=>by simp [putB]
 | y :: r,h=>by
  have h1:=h y (by simp)
  rw [putB,Bool.true_or,putB_done fun z hz=>h z (by simp [hz]),if_neg (by simp),if_neg oM];rfl
theorem putA_eq {ts : List Ty} {f : Fld} {x : V} : ∀ {vs : List V},Srt vs → putA V.tag (decide (x.out ≠ standF ts f)) (.nd 61 [] f.tag [x]) f.tag vs false = putF ts f x vs
 | [],_=>by
  rw [putF_nil,putA];unfold nf
  by_cases e : x.out = standF ts f
  ·rw [if_pos e,if_neg (by simp [e])]
  ·rw [if_neg e,if_pos (by simp [e])]
 | y :: r,h=>by
  replace h:=List.pairwise_cons.1 h
  rw [putF_cons,putA,Bool.false_or]
  by_cases hl : y.tag < f.tag
  ·rw [if_pos hl,if_neg (by intro h;omega),if_neg oM,show decide (f.tag ≤ y.tag) = false from decide_eq_false oM,putA_eq h.2];rfl
  ·rw [if_neg hl,show decide (f.tag ≤ y.tag) = true from decide_eq_true oM,putA_done fun z hz=>by have:=h.1 z hz;omega]
   unfold nf
   have e2 : (if y.tag = f.tag then ([] : List V) else [y]) ++ r = if y.tag = f.tag then r else y :: r:=by split <;> rfl
   rw [e2]
   congr 1
   by_cases e : x.out = standF ts f
   ·rw [if_pos e,if_neg (by simp [e])]
   ·rw [if_neg e,if_pos ⟨oM,by simp [e]⟩]
theorem putB_lo {α : Type} {tg : α → Int} {node : α} {tag : Int} : ∀ {l : List α},(∀ y ∈ l,tag < tg y) → putB tg node tag l false = node :: l
 | [],_=>by simp [putB]
 | y :: r,h=>by
  have h1:=h y (by simp)
  rw [putB,Bool.false_or,decide_eq_true h1,putB_done fun z hz=>h z (by simp [hz]),if_pos ⟨h1,rfl⟩,if_neg oM];rfl
theorem putB_eq {ts : List Ty} {f : Fld} {x : V} : ∀ {vs : List V},Srt vs → putB V.tag (.nd 61 [] f.tag [x]) f.tag vs (decide (x.out = standF ts f)) = putF ts f x vs
 | [],_=>by
  rw [putF_nil,putB];unfold nf
  by_cases e : x.out = standF ts f
  ·rw [if_pos e,if_pos (by simp [e])]
  ·rw [if_neg e,if_neg (by simp [e])]
 | y :: r,h=>by
  replace h:=List.pairwise_cons.1 h
  rw [putF_cons]
  by_cases hl : y.tag < f.tag
  ·rw [if_pos hl,putB,if_neg (by intro h;omega),if_neg oM,show decide (f.tag < y.tag) = false from decide_eq_false oM,Bool.or_false,putB_eq h.2];rfl
  ·rw [if_neg hl]
   have hgt : ∀ z ∈ r,f.tag < z.tag:=fun z hz=>by have:=h.1 z hz;omega
   by_cases e : x.out = standF ts f
   ·unfold nf;rw [decide_eq_true e,if_pos e,List.nil_append,putB,Bool.true_or,putB_done hgt,if_neg (by simp),List.nil_append]
    split <;> rfl
   ·unfold nf;rw [decide_eq_false e,if_neg e,putB,Bool.false_or]
    by_cases he : y.tag = f.tag
    ·rw [if_neg (by intro h;omega),if_pos he,show decide (f.tag < y.tag) = false from decide_eq_false oM,putB_lo hgt,if_pos he];rfl
    ·rw [if_pos ⟨oM,rfl⟩,if_neg he,show decide (f.tag < y.tag) = true from decide_eq_true oM,putB_done hgt,if_neg he];rfl
end Go.E
namespace Go.E
set_option maxRecDepth 20000
set_option maxHeartbeats 2000000
theorem kind_64 {ts : List Ty} {k : List UInt8} {t : Ty} (h : refT ts k = some t) : ∃ k',k = 64 :: k':=by
 cases k with
 | nil=>simp [refT,refN] at h
 | cons c k' =>
  by_cases h64 : c.toNat = 64
  ·exact ⟨k',by rw [show c = 64 from UInt8.toNat_inj.1 h64]⟩
  ·exact (refT_no h rfl h64).elim
theorem out_list' {ks : List V} : (V.nd 91 [] 0 ks).out = 91 :: (joinB 44 (ks.map V.out) ++ [93]):=by rw [V.out,V.outs_map];rfl
theorem out_rec' {ks : List V} : (V.nd 82 [] 0 ks).out = 123 :: (joinB 44 (ks.map V.out) ++ [125]):=by rw [V.out,V.outs_map];rfl
theorem joinB_mem {xs : List (List UInt8)} {x : List UInt8} (h : x ∈ xs) : x.length ≤ (joinB 44 xs).length:=by
 induction xs with
 | nil=>cases h
 | cons y xs ih =>
  cases xs with
  | nil =>
   simp only [List.mem_singleton] at h;subst h;simp [joinB]
  | cons z xs =>
   rw [joinB,List.length_append,List.length_cons]
   rcases List.mem_cons.1 h with rfl | h
   ·omega
   ·have:=ih h;omega
end Go.E
namespace Go.E
set_option maxRecDepth 20000
set_option maxHeartbeats 2000000
open Go.Proofs
variable {ts : List Ty}
theorem stepV_fits (hw : SchW ts) {k : List UInt8} {v : V} (h : OfK ts k v) (hk : kindIn ts k = true) {n : Int} (hn : 0 ≤ n) {k' : List UInt8} {v' : V} (e : stepV ts k v n = some (k',v')) (hd : v.deep ≤ 12) (hl : v.out.length ≤ 400) : v'.deep ≤ 12 ∧ v'.out.length ≤ 400:=by
 obtain ⟨c,r,rfl⟩:=kind_ne hk
 unfold stepV at e
 dsimp only at e
 split at e
 ·rename_i hc
  split at e
  ·rename_i hlt
   simp only [Option.some.injEq,Prod.mk.injEq] at e
   obtain ⟨rfl,rfl⟩:=e
   rcases ofK_inv_c h oM with ⟨g1,_⟩ | ⟨g1,_⟩ | ⟨g1,_⟩ | ⟨g1,ks,g2,g3,rfl⟩ | ⟨g1,rfl | ⟨u,g3,rfl⟩⟩
   ·omega
   ·omega
   ·omega
   ·rw [V.kids] at hlt ⊢
    have hi : n.toNat < ks.length:=oM
    rw [deep_nd dC] at hd
    rw [out_list'] at hl
    have h1:=V.deep_mem (nth_mem hi)
    have h2:=joinB_mem (xs:=ks.map V.out) (List.mem_map_of_mem (f:=V.out) (nth_mem hi))
    simp only [List.length_cons,List.length_append,List.length_nil] at hl
    exact ⟨oM,oM⟩
   ·simp [V.kids] at hlt;omega
   ·simp [V.kids] at hlt
    obtain rfl : n = 0:=oM
    rw [deep_nd dC] at hd
    have e1 : V.out (.nd 63 [] 0 [u]) = 43 :: u.out:=by rw [V.out];simp [V.outs,joinB,outW]
    rw [e1,List.length_cons] at hl
    have h1:=V.deep_mem (ks:=[u]) (v:=u) (by simp)
    exact ⟨by show u.deep ≤ 12;omega,by show u.out.length ≤ 400;omega⟩
  ·cases e
 ·split at e
  ·cases e
  ·rename_i t hr
   have ht:=refT_mem hr
   split at e
   ·cases e
   ·rename_i f hf
    have hfm:=List.mem_of_find?_eq_some hf
    split at e
    ·cases e
    ·rename_i h69
     split at e
     ·rename_i h82
      simp only [Option.some.injEq,Prod.mk.injEq] at e
      obtain ⟨rfl,rfl⟩:=e
      rcases ofK_inv_t h hr with ⟨_,fs,rfl,g3,g4,_,_⟩ | ⟨g1,_⟩ | ⟨g1,_⟩
      ·unfold getV
       rw [V.kids]
       cases hto : toldV f (fs.map fldV) with
       | none =>
        obtain ⟨a1,a2,a3⟩:=standV_ok hw ht h69 hfm
        unfold valOf at a2
        split at a2
        ·rename_i hl4
         split at a2
         ·rename_i v' hv'
          have:=rd_deep_le _ _ _ _ hv'
          simp only [Option.some.injEq] at a2
          subst a2
          exact ⟨this,by show (standV ts f).out.length ≤ 400;rw [a3];exact hl4⟩
         ·cases a2
        ·cases a2
       | some u =>
        obtain ⟨_,p,hp,_,rfl⟩:=toldV_of (hw.ty t ht) hfm (fun p hp=>⟨g3 p hp,g4 p hp⟩) hto
        rw [deep_nd dC] at hd
        rw [out_rec'] at hl
        have h1:=V.deep_mem (List.mem_map_of_mem (f:=fldV) hp)
        rw [show (fldV p).deep = p.2.deep from deep_fld] at h1
        have h2:=joinB_mem (xs:=(fs.map fldV).map V.out) (List.mem_map_of_mem (f:=V.out) (List.mem_map_of_mem (f:=fldV) hp))
        rw [show (fldV p).out = decI p.1.tag ++ 61 :: p.2.out from out_fld] at h2
        simp only [List.length_cons,List.length_append,List.length_nil] at hl h2
        exact ⟨by show p.2.deep ≤ 12;omega,by show p.2.out.length ≤ 400;omega⟩
      ·omega
      ·omega
     ·rename_i h82
      split at e
      ·simp only [Option.some.injEq,Prod.mk.injEq] at e
       obtain ⟨rfl,rfl⟩:=e
       rcases ofK_inv_t h hr with ⟨h1,_⟩ | ⟨h1,_⟩ | ⟨_,_,d,u,rfl,g4,g5⟩
       ·omega
       ·omega
       ·rw [deep_nd dC] at hd
        have e1 : V.out (.nd 85 [] d.tag [u]) = 60 :: (decI d.tag ++ 61 :: (u.out ++ [62])):=by rw [V.out];simp [V.outs,joinB,outW]
        rw [e1] at hl
        have h1:=V.deep_mem (ks:=[u]) (v:=u) (by simp)
        simp only [List.length_cons,List.length_append,List.length_nil] at hl
        exact ⟨by show u.deep ≤ 12;omega,by show u.out.length ≤ 400;omega⟩
      ·cases e
theorem followV_fits (hw : SchW ts) : ∀ {p : List Int} {k : List UInt8} {v : V} {k' : List UInt8} {v' : V},OfK ts k v → kindIn ts k = true → (∀ n ∈ p,0 ≤ n) → followV ts k v p = some (k',v') → v.deep ≤ 12 → v.out.length ≤ 400 → v'.deep ≤ 12 ∧ v'.out.length ≤ 400
 | [],k,v,k',v',h,hk,_,e,hd,hl=>by
  simp only [followV,Option.some.injEq,Prod.mk.injEq] at e
  obtain ⟨rfl,rfl⟩:=e
  exact ⟨hd,hl⟩
 | n :: p,k,v,k',v',h,hk,hp,e,hd,hl=>by
  unfold followV at e
  cases hs : stepV ts k v n with
  | none=>rw [hs] at e;cases e
  | some x =>
   rw [hs] at e
   obtain ⟨k1,v1⟩:=x
   obtain ⟨h1,h2⟩:=stepV_ok hw h hk (hp n (by simp)) hs
   obtain ⟨h3,h4⟩:=stepV_fits hw h hk (hp n (by simp)) hs hd hl
   exact followV_fits hw h1 h2 (fun m hm=>hp m (by simp [hm])) e h3 h4
def apartP : List Int → List Int → Prop
 | [],_=>False
 | _ :: _,[]=>False
 | a :: p,b :: q=>a ≠ b ∨ (a = b ∧ apartP p q)
theorem change_apart (hw : SchW ts) : ∀ {q p : List Int} {k : List UInt8} {v x : V} {k' : List UInt8} {v' : V},OfK ts k v → kindIn ts k = true → (∀ n ∈ q,0 ≤ n) → (∀ n ∈ p,0 ≤ n) → followV ts k v q = some (k',v') → OfK ts k' x → apartP p q → followV ts k (changeV ts k v q x) p = followV ts k v p
 | [],[],_,_,_,_,_,_,_,_,_,_,_,ha=>ha.elim
 | [],_ :: _,_,_,_,_,_,_,_,_,_,_,_,ha=>ha.elim
 | _ :: _,[],_,_,_,_,_,_,_,_,_,_,_,ha=>ha.elim
 | b :: q,a :: p,k,v,x,k',v',h,hk,hq,hp,e,hx,ha=>by
  unfold followV at e
  cases hs : stepV ts k v b with
  | none=>rw [hs] at e;cases e
  | some y =>
   rw [hs] at e
   obtain ⟨k1,v1⟩:=y
   have hb:=hq b (by simp)
   obtain ⟨h1,h2⟩:=stepV_ok hw h hk hb hs
   have hq2 : ∀ m ∈ q,0 ≤ m:=fun m hm=>hq m (by simp [hm])
   have hc:=changeV_ok hw h1 h2 hq2 e hx
   obtain ⟨⟨s1,_⟩,_,s4⟩:=set_step hw h hk hb hs hc
   rw [changeV_cons hs]
   by_cases hab : a = b
   ·subst hab
    rcases ha with ha | ⟨_,ha⟩
    ·exact absurd rfl ha
    ·rw [followV_cons s1,followV_cons hs]
     exact change_apart hw h1 h2 hq2 (fun m hm=>hp m (by simp [hm])) e hx ha
   ·have:=s4 a (hp a (by simp)) hab
    unfold followV
    rw [this]
def pathText (q : List Int) : List UInt8:=joinB 47 (q.map decI)
theorem decI_no47 {n : Int} (h : 0 ≤ n) : noB 47 (decI n):=fun c hc=>by
 have:=dg_ne ((digF_decI _ (Nat.le_refl _) h).2 c hc)
 omega
theorem stepsOf_inv : ∀ {xs : List (List UInt8)} {p : List Int},stepsOf xs = some p → xs = p.map decI ∧ ∀ n ∈ p,0 ≤ n ∧ n ≤ 999999
 | [],p,h=>by simp only [stepsOf,Option.some.injEq] at h;subst h;simp
 | x :: xs,p,h=>by
  unfold stepsOf at h
  cases hn : numOf x 999999 with
  | none=>rw [hn] at h;cases h
  | some n =>
   rw [hn] at h
   dsimp only at h
   cases hs : stepsOf xs with
   | none=>rw [hs] at h;cases h
   | some q =>
    rw [hs] at h
    simp only [Option.map_some,Option.some.injEq] at h
    subst h
    obtain ⟨h1,h2⟩:=stepsOf_inv hs
    refine ⟨by rw [List.map_cons,← h1,← (numOf_le hn).2.1],fun m hm=>?_⟩
    rcases List.mem_cons.1 hm with rfl | hm
    ·exact ⟨numOf_nn hn,(numOf_le hn).1⟩
    ·exact h2 m hm
theorem stepsOf_in : ∀ {p : List Int},(∀ n ∈ p,0 ≤ n ∧ n ≤ 999999) → stepsOf (p.map decI) = some p
 | [],_=>rfl
 | n :: p,h=>by
  have h1:=h n (by simp)
  rw [List.map_cons,stepsOf,numOf_decI h1.1 h1.2 dC]
  dsimp only
  rw [stepsOf_in fun m hm=>h m (by simp [hm])];rfl
theorem pathOf_text {s : List UInt8} {q : List Int} (h : pathOf s = some q) : s = pathText q ∧ q.length ≤ 8 ∧ (∀ n ∈ q,0 ≤ n ∧ n ≤ 999999) ∧ (s = [] ↔ q = []):=by
 unfold pathOf at h
 split at h
 ·rename_i hs
  simp only [Option.some.injEq] at h;subst h
  exact ⟨by rw [hs];rfl,by simp,by simp,by simp [hs]⟩
 ·rename_i hs
  split at h
  ·rename_i q' hq
   split at h
   ·rename_i h8
    simp only [Option.some.injEq] at h;subst h
    obtain ⟨h1,h2⟩:=stepsOf_inv hq
    have h3:=cut_join 47 s
    have h4 : (47 : UInt8).toNat = 47:=rfl
    rw [h4,h1] at h3
    refine ⟨h3.symm,h8,h2,fun h=>absurd h hs,fun h=>?_⟩
    rw [h] at h3
    exact h3.symm
   ·cases h
  ·cases h
theorem pathText_ne {q : List Int} (h : q ≠ []) : pathText q ≠ []:=by
 cases q with
 | nil=>exact absurd rfl h
 | cons n q =>
  have:=decI_pos n
  unfold pathText
  intro e
  have e2:=congrArg List.length e
  cases q with
  | nil=>simp [joinB] at e2;rw [e2] at this;simp at this
  | cons m q=>simp [joinB] at e2
theorem pathOf_in {q : List Int} (h : ∀ n ∈ q,0 ≤ n ∧ n ≤ 999999) : pathOf (pathText q) = if q.length ≤ 8 then some q else none:=by
 by_cases hq : q = []
 ·subst hq;rfl
 ·unfold pathOf
  rw [if_neg (pathText_ne hq)]
  have h1 : cut 47 (pathText q) = q.map decI:=join_cut (c:=47) (by simpa using hq) fun x hx=>by
   obtain ⟨n,hn,rfl⟩:=List.mem_map.1 hx
   exact decI_no47 (h n hn).1
  rw [h1,stepsOf_in h]
theorem pathText_cons {n : Int} {q : List Int} (h : q ≠ []) : pathText (n :: q) = decI n ++ 47 :: pathText q:=by
 cases q with
 | nil=>exact absurd rfl h
 | cons m q=>rfl
theorem pathText_app : ∀ {p q : List Int},p ≠ [] → q ≠ [] → pathText (p ++ q) = pathText p ++ 47 :: pathText q
 | [],_,h,_=>absurd rfl h
 | [n],q,_,hq=>by rw [List.singleton_append,pathText_cons hq];rfl
 | n :: m :: p,q,_,hq=>by
  rw [List.cons_append,pathText_cons (n:=n) (q:=m :: p ++ q) (by simp),pathText_app (p:=m :: p) (by simp) hq,pathText_cons (n:=n) (q:=m :: p) (by simp)]
  simp
theorem apart_of : ∀ {p q : List Int},(∀ r,p ≠ q ++ r) → (∀ r,q ≠ p ++ r) → apartP p q
 | [],q,_,h2=>absurd rfl (h2 q)
 | a :: p,[],h1,_=>absurd rfl (h1 (a :: p))
 | a :: p,b :: q,h1,h2=>by
  by_cases hab : a = b
  ·subst hab
   exact .inr ⟨rfl,apart_of (fun r e=>h1 r (by rw [e];rfl)) (fun r e=>h2 r (by rw [e];rfl))⟩
  ·exact .inl hab
def stepNo (w : Nat) (t : Int) (i : Nat) (v : V) : Int:=if w = 85 then t else if w = 82 then v.tag else (i : Int)
mutual
def V.leaves : V → List (List Int)
 | .nd w _ t ks=>if leafW w ks.isEmpty = true then [[]] else if w = 61 then V.leavesF ks else V.leavesS ks w t 0
def V.leavesF : List V → List (List Int)
 | []=>[]
 | v :: r=>V.leaves v ++ V.leavesF r
def V.leavesS : List V → Nat → Int → Nat → List (List Int)
 | [],_,_,_=>[]
 | v :: r,w,t,i=>(V.leaves v).map (stepNo w t i v :: ·) ++ V.leavesS r w t (i + 1)
end
mutual
theorem size_leaves : ∀ v : V,v.size = v.leaves.length
 | .nd w x t ks=>by
  rw [V.size,V.leaves]
  split
  ·rfl
  ·split
   ·exact size_leavesF ks
   ·exact size_leavesS ks w t 0
theorem size_leavesF : ∀ ks : List V,V.sizes ks = (V.leavesF ks).length
 | []=>by rw [V.sizes,V.leavesF];rfl
 | v :: r=>by rw [V.sizes,V.leavesF,List.length_append,size_leaves v,size_leavesF r]
theorem size_leavesS : ∀ (ks : List V) (w : Nat) (t : Int) (i : Nat),V.sizes ks = (V.leavesS ks w t i).length
 | [],_,_,_=>by rw [V.sizes,V.leavesS];rfl
 | v :: r,w,t,i=>by rw [V.sizes,V.leavesS,List.length_append,List.length_map,size_leaves v,size_leavesS r w t (i + 1)]
end
theorem leavesS_mem : ∀ {ks : List V} {w : Nat} {t : Int} {i : Nat} {p : List Int},p ∈ V.leavesS ks w t i → ∃ j q,j < ks.length ∧ p = stepNo w t (i + j) (nth ks j) :: q ∧ q ∈ (nth ks j).leaves
 | [],_,_,_,_,h=>by rw [V.leavesS] at h;cases h
 | v :: r,w,t,i,p,h=>by
  rw [V.leavesS] at h
  rcases List.mem_append.1 h with h | h
  ·obtain ⟨q,hq,rfl⟩:=List.mem_map.1 h
   exact ⟨0,q,by simp,rfl,hq⟩
  ·obtain ⟨j,q,h1,h2,h3⟩:=leavesS_mem h
   exact ⟨j + 1,q,by simp;omega,by rw [h2,show i + 1 + j = i + (j + 1) by omega];rfl,h3⟩
theorem leaf_fld {p : Fld × V} : (fldV p).leaves = p.2.leaves:=by
 show V.leaves (.nd 61 [] p.1.tag [p.2]) = _
 rw [V.leaves,if_neg (by simp [leafW]),if_pos rfl,V.leavesF,V.leavesF,List.append_nil]
theorem leafW_82 {b : Bool} : leafW 82 b = false:=by cases b <;> rfl
theorem leafW_91 {b : Bool} : leafW 91 b = false:=by cases b <;> rfl
theorem leafW_85 {b : Bool} : leafW 85 b = false:=by cases b <;> rfl
theorem toldV_mem {t : Ty} (hw : TyW t) : ∀ {fs : List (Fld × V)},(∀ p ∈ fs,p.1 ∈ t.fields) → (fs.Pairwise fun a b=>a.1.tag < b.1.tag) → ∀ {p : Fld × V},p ∈ fs → toldV p.1 (fs.map fldV) = some p.2
 | q :: fs,hf,hs,p,hp=>by
  rw [List.pairwise_cons] at hs
  rw [List.map_cons,toldV]
  rcases List.mem_cons.1 hp with rfl | hp
  ·rw [if_pos (show (fldV p).tag = p.1.tag from rfl)];rfl
  ·have:=hs.1 p hp
   rw [if_neg (show ¬ (fldV q).tag = p.1.tag by show ¬ q.1.tag = p.1.tag;omega)]
   exact toldV_mem hw (fun r hr=>hf r (by simp [hr])) hs.2 hp
theorem leaves_ok (hw : SchW ts) {k : List UInt8} {v : V} (h : OfK ts k v) : ∀ p ∈ v.leaves,(∀ n ∈ p,0 ≤ n ∧ n ≤ 999999) ∧ ∃ k' u,followV ts k v p = some (k',u) ∧ u.size = 1:=by
 have one : ∀ (k : List UInt8) (w : Nat) (x : List UInt8) (t : Int),leafW w true = true → ∀ p ∈ (V.nd w x t []).leaves,(∀ n ∈ p,0 ≤ n ∧ n ≤ 999999) ∧ ∃ k' u,followV ts k (.nd w x t []) p = some (k',u) ∧ u.size = 1:=fun k w x t hl p hp=>by
  rw [V.leaves,if_pos (by simpa using hl)] at hp
  simp only [List.mem_singleton] at hp
  subst hp
  exact ⟨by simp,k,_,rfl,by rw [V.size,if_pos (by simpa using hl)]⟩
 induction h with
 | num k n h1 h2=>exact one _ _ _ _ rfl
 | txt k x h1=>exact one _ _ _ _ rfl
 | flg k x h1=>exact one _ _ _ _ rfl
 | lst k ks h1 h2 ih =>
  intro p hp
  rw [V.leaves,if_neg (by rw [leafW_91];decide),if_neg dC] at hp
  obtain ⟨j,q,h3,rfl,h4⟩:=leavesS_mem hp
  obtain ⟨g1,k',u,g2,g3⟩:=ih _ (nth_mem h3) q h4
  have e1 : stepNo 91 0 (0 + j) (nth ks j) = (j : Int):=by unfold stepNo;rw [if_neg dC,if_neg dC];simp
  rw [e1]
  refine ⟨fun n hn=>?_,k',u,?_,g3⟩
  ·rcases List.mem_cons.1 hn with rfl | hn
   ·omega
   ·exact g1 n hn
  ·have hs : stepV ts (91 :: k) (.nd 91 [] 0 ks) (j : Int) = some (k,nth ks j):=by
    unfold stepV;dsimp only
    rw [if_pos (.inl rfl),V.kids,if_pos oM,Int.toNat_natCast]
   rw [followV_cons hs,g2]
 | non k=>exact one _ _ _ _ rfl
 | opt k v h1 ih =>
  intro p hp
  rw [V.leaves,if_neg (by simp [leafW]),if_neg dC] at hp
  obtain ⟨j,q,h3,rfl,h4⟩:=leavesS_mem hp
  obtain rfl : j = 0:=by simp at h3;omega
  obtain ⟨g1,k',u,g2,g3⟩:=ih q h4
  have e1 : stepNo 63 0 (0 + 0) (nth [v] 0) = 0:=by unfold stepNo;rw [if_neg dC,if_neg dC];simp
  rw [e1]
  refine ⟨fun n hn=>?_,k',u,?_,g3⟩
  ·rcases List.mem_cons.1 hn with rfl | hn
   ·omega
   ·exact g1 n hn
  ·have hs : stepV ts (63 :: k) (.nd 63 [] 0 [v]) 0 = some (k,v):=by
    unfold stepV;dsimp only
    rw [if_pos (.inr rfl),V.kids,if_pos (by simp)];rfl
   rw [followV_cons hs,g2]
 | recd k t fs h1 h2 h3 h4 h5 h6 ih =>
  intro p hp
  rw [V.leaves,if_neg (by rw [leafW_82];decide),if_neg dC] at hp
  obtain ⟨j,q,h7,rfl,h8⟩:=leavesS_mem hp
  have hW:=hw.ty t (refT_mem h1)
  have hj : j < fs.length:=by simpa using h7
  have e0 : nth (fs.map fldV) j = fldV (nth fs j):=by rw [nth_eq h7,nth_eq hj];simp
  rw [e0,leaf_fld] at h8
  have hm:=nth_mem hj
  obtain ⟨g1,k',u,g2,g3⟩:=ih _ hm q h8
  have ht:=(hW.fld _ (h3 _ hm)).tag
  have e1 : stepNo 82 0 (0 + j) (nth (fs.map fldV) j) = (nth fs j).1.tag:=by rw [e0];unfold stepNo;rw [if_neg dC,if_pos rfl];rfl
  rw [e1]
  refine ⟨fun n hn=>?_,k',u,?_,g3⟩
  ·rcases List.mem_cons.1 hn with rfl | hn
   ·omega
   ·exact g1 n hn
  ·obtain ⟨r,rfl⟩:=kind_64 h1
   have hs : stepV ts (64 :: r) (.nd 82 [] 0 (fs.map fldV)) (nth fs j).1.tag = some ((nth fs j).1.kind,(nth fs j).2):=by
    unfold stepV;dsimp only
    rw [if_neg dC,h1]
    dsimp only
    rw [fldT_mem hW (h3 _ hm)]
    dsimp only
    rw [if_neg oM,if_pos h2]
    unfold getV
    rw [V.kids,toldV_mem hW h3 h6 hm];rfl
   rw [followV_cons hs,g2]
 | enm k t d h1 h2 h3=>exact one _ _ _ _ rfl
 | uni k t d v h1 h2 h3 h4 h5 ih =>
  intro p hp
  rw [V.leaves,if_neg (by rw [leafW_85];decide),if_neg dC] at hp
  obtain ⟨j,q,h7,rfl,h8⟩:=leavesS_mem hp
  obtain rfl : j = 0:=by simp at h7;omega
  obtain ⟨g1,k',u,g2,g3⟩:=ih q h8
  have hW:=hw.ty t (refT_mem h1)
  have ht:=(hW.fld _ h4).tag
  have e1 : stepNo 85 d.tag (0 + 0) (nth [v] 0) = d.tag:=by unfold stepNo;rw [if_pos rfl]
  rw [e1]
  refine ⟨fun n hn=>?_,k',u,?_,g3⟩
  ·rcases List.mem_cons.1 hn with rfl | hn
   ·omega
   ·exact g1 n hn
  ·obtain ⟨r,rfl⟩:=kind_64 h1
   have hs : stepV ts (64 :: r) (.nd 85 [] d.tag [v]) d.tag = some (d.kind,v):=by
    unfold stepV;dsimp only
    rw [if_neg dC,h1]
    dsimp only
    rw [fldT_mem hW h4]
    dsimp only
    rw [if_neg h3,if_neg h2,V.tag,if_pos rfl];rfl
   rw [followV_cons hs,g2]
end Go.E
namespace Go.E
set_option maxRecDepth 20000
set_option maxHeartbeats 2000000
def lvT (q : List Int) (v : V) : List (List UInt8):=v.leaves.map fun r=>pathText (q ++ r)
def lvS (q : List Int) (ks : List V) (w : Nat) (t : Int) : List (List UInt8):=(V.leavesS ks w t 0).map fun r=>pathText (q ++ r)
theorem leavesS_snoc {w : Nat} {t : Int} {v : V} : ∀ {ks : List V} {i : Nat},V.leavesS (ks ++ [v]) w t i = V.leavesS ks w t i ++ v.leaves.map (stepNo w t (i + ks.length) v :: ·)
 | [],i=>by rw [List.nil_append,V.leavesS,V.leavesS,V.leavesS];simp
 | u :: ks,i=>by rw [List.cons_append,V.leavesS,V.leavesS,leavesS_snoc,List.append_assoc,List.length_cons,show i + 1 + ks.length = i + (ks.length + 1) by omega]
theorem lvS_snoc {q : List Int} {ks : List V} {v : V} {w : Nat} {t : Int} : lvS q (ks ++ [v]) w t = lvS q ks w t ++ lvT (q ++ [stepNo w t ks.length v]) v:=by
 unfold lvS lvT
 rw [leavesS_snoc,List.map_append,List.map_map,Nat.zero_add]
 congr 1
 refine List.map_congr_left fun r _=>?_
 simp
theorem lvS_nil {q : List Int} {w : Nat} {t : Int} : lvS q [] w t = []:=by unfold lvS;rw [V.leavesS];rfl
theorem lvT_leaf {q : List Int} {w : Nat} {x : List UInt8} {t : Int} (h : leafW w true = true) : lvT q (.nd w x t []) = [pathText q]:=by
 unfold lvT
 rw [V.leaves,if_pos (c:=leafW w ([] : List V).isEmpty = true) h]
 simp
theorem lvT_nd {q : List Int} {w : Nat} {x : List UInt8} {t : Int} {ks : List V} (h : leafW w ks.isEmpty = false) (h61 : w ≠ 61) : lvT q (.nd w x t ks) = lvS q ks w t:=by
 unfold lvT lvS
 rw [V.leaves,if_neg (by rw [h];simp),if_neg h61]
theorem lvT_fld {q : List Int} {t : Int} {v : V} : lvT q (.nd 61 [] t [v]) = lvT q v:=by
 unfold lvT
 rw [V.leaves,if_neg (by simp [leafW]),if_pos rfl,V.leavesF,V.leavesF,List.append_nil]
theorem lvS_len {q : List Int} {ks : List V} {w : Nat} {t : Int} : (lvS q ks w t).length = V.sizes ks:=by unfold lvS;rw [List.length_map,size_leavesS ks w t 0]
theorem lvT_len {q : List Int} {v : V} : (lvT q v).length = v.size:=by unfold lvT;rw [List.length_map,size_leaves]
theorem size_leaf {w : Nat} {x : List UInt8} {t : Int} (h : leafW w true = true) : V.size (.nd w x t []) = 1:=by rw [V.size,if_pos (c:=leafW w ([] : List V).isEmpty = true) h]
theorem sizes_snocL (v : V) : ∀ (ks : List V),V.sizes (ks ++ [v]) = V.sizes ks + v.size
 | []=>by simp [V.sizes]
 | u :: r=>by simp only [List.cons_append,V.sizes,sizes_snocL v r];omega
mutual
theorem size_totL : ∀ v : V,v.size ≤ v.tot
 | .nd w x t ks=>by
  have:=sizes_totL ks
  rw [V.size,V.tot];split <;> omega
theorem sizes_totL : ∀ ks : List V,V.sizes ks ≤ V.tots ks
 | []=>by simp [V.sizes]
 | v :: r=>by
  have:=size_totL v
  have:=sizes_totL r
  rw [V.sizes,V.tots];omega
end
theorem path_one {n : Int} : pathText [n] = decI n:=rfl
theorem path_snoc {q : List Int} {n : Int} (h : q ≠ []) : pathText q ++ [47] ++ decI n = pathText (q ++ [n]):=by
 rw [pathText_app h (by simp),path_one];simp
theorem path_nil {q : List Int} : pathText q = [] ↔ q = []:=⟨fun h=>by
 cases q with
 | nil=>rfl
 | cons n q=>exact absurd h (pathText_ne (by simp)),fun h=>by rw [h];rfl⟩
theorem pathText_len : ∀ {q : List Int},(∀ n ∈ q,0 ≤ n ∧ n ≤ 999999) → (pathText q).length ≤ 7 * q.length
 | [],_=>by simp [pathText,joinB]
 | [n],h=>by
  have:=decI_6 (h n (by simp)).2
  rw [path_one];simp only [List.length_cons,List.length_nil];omega
 | n :: m :: q,h=>by
  have h1:=decI_6 (h n (by simp)).2
  have h2:=pathText_len (q:=m :: q) fun x hx=>h x (by simp [List.mem_cons] at hx ⊢;exact .inr hx)
  rw [pathText_cons (by simp)]
  simp only [List.length_append,List.length_cons] at h2 ⊢
  omega
theorem snoc_in {q : List Int} {s : Int} (hq : ∀ n ∈ q,0 ≤ n ∧ n ≤ 999999) (h : 0 ≤ s ∧ s ≤ 999999) : ∀ n ∈ q ++ [s],0 ≤ n ∧ n ≤ 999999:=fun n hn=>by
 rcases List.mem_append.1 hn with hn | hn
 ·exact hq n hn
 ·simp only [List.mem_singleton] at hn;subst hn;exact h
end Go.E
namespace Go.E
set_option maxRecDepth 20000
set_option maxHeartbeats 2000000
open Go.Proofs
variable {G : Gh}
theorem valOf_of {ts : List Ty} {k s : List UInt8} {u : V} {t : List UInt8} {N : Nat} (hN : 12 ≤ N) (hl : s.length ≤ 400) (h : rd ts N k s = some (u,t)) : valOf ts k s = if t = [] ∧ V.deep u ≤ 12 then some u else none:=by
 unfold valOf
 rw [if_pos hl]
 cases h12 : rd ts 12 k s with
 | none =>
  dsimp only
  rw [if_neg]
  rintro ⟨_,hd⟩
  have:=rd_at _ 12 k s _ h hd
  rw [h12] at this;cases this
 | some x =>
  have h1:=rd_le (m:=N) hN h12
  rw [h] at h1
  have hd:=rd_deep_le _ _ _ _ h12
  obtain rfl:=Option.some.inj h1
  dsimp only at hd ⊢
  cases t with
  | nil=>dsimp only;rw [if_pos ⟨rfl,hd⟩]
  | cons c t=>dsimp only;rw [if_neg (fun h=>by cases h.1)]
theorem valOf_no {ts : List Ty} {k s : List UInt8} {N : Nat} (hN : 12 ≤ N) (hl : s.length ≤ 400) (h : rd ts N k s = none) : valOf ts k s = none:=by
 unfold valOf
 rw [if_pos hl]
 cases h12 : rd ts 12 k s with
 | none=>rfl
 | some x=>rw [rd_le (m:=N) hN h12] at h;cases h
theorem c_readI {b : Nat} {qs : List TyP} {k s : List UInt8} (hS : ScI G b qs) (hw : SchW (tyq qs)) (hk : kindIn (tyq qs) k = true) (hs : s.length ≤ 10000000) :
  FnS Tryz.prog 27 [Pt b 0,Ag (kdF k),S s] G (fun v G'=>(valOf (tyq qs) k s = none ∧ v = Tu [zP,Bo false]) ∨ ∃ u c,valOf (tyq qs) k s = some u ∧ v = Tu [Ag (vcF c),Bo true] ∧ V.rep G' u c):=by
 unfold kdF
 by_cases hl : s.length ≤ 400
 case neg =>
  have hno : valOf (tyq qs) k s = none:=by unfold valOf;rw [if_neg hl]
  refine jB [(0,_),(1,_),(2,_)] Tryz.func27 Tryz.ntmps27 fun B hok hB hW=>?_
  repeat' (first | (refine jR ?_) | (refine jo ?_;first | refine jO fun _=>?_ | refine jL fun _=>?_ | refine jV (g_bld rfl rfl) ?_ | refine jC rfl rfl rfl ?_) | (refine k_tt rfl (dTt oM) ?_))
  all_goals refine jZ (vs:=[_,_]) rfl ⟨rc_A rfl rfl rfl rfl,rfl,trivial⟩ rfl ⟨Gh.le.refl _,rfl,?_⟩
  all_goals exact .inl ⟨hno,rfl⟩
 obtain ⟨N,hN⟩ : ∃ N,s.length + 12 ≤ N:=⟨_,Nat.le_refl _⟩
 have hN2 : 12 ≤ N:=oM
 have hV:=valC_all (sc:=b) hw N
 have cy_vl : ∀ {r : Nat},FnM Tryz.prog 54 [Pt r 0,Ag (kdF k)] G [scO r b s false] (ValP (rd (tyq qs) N k) r b s false):=fun {r}=>hV G r k s false hS hk oM oM
 refine jB [(0,_),(1,_),(2,_)] Tryz.func27 Tryz.ntmps27 fun B hok hB hW=>?_
 repeat' (first | (refine jR ?_) | (refine jo ?_;first | refine jO fun _=>?_ | refine jL fun _=>?_ | refine jV (g_bld rfl rfl) ?_ | refine jAm rfl ?_) | (refine k_ff rfl (dFf oM) ?_))
 refine jo ?_
 rename_i r
 refine c_m1s rfl rfl rfl (cy_vl (r:=r)) rfl ?_
 rintro _ G1 _ hle ⟨u1,c1,t1,b1,rfl,hrep,rfl,hP⟩
 dsimp only [zA,fA]
 obtain ⟨hPl,hP0,hP1⟩:=hP
 cases b1 with
 | true =>
  have hno : valOf (tyq qs) k s = none:=valOf_no hN2 hl (by rcases (hP1 rfl).1 with h | h;cases h;exact h)
  repeat' (first | (refine jR ?_) | (refine jo ?_;first | refine jL fun _=>?_ | refine jV (g_bld rfl rfl) ?_ | refine jC rfl rfl rfl ?_ | refine jAl rfl ?_ | (refine jAt rfl ?_)) | (refine k_gt rfl rfl rfl ?_) | (refine k_tt rfl rfl ?_))
  all_goals refine jZ (vs:=[_,_]) rfl ⟨rc_A rfl rfl rfl rfl,rfl,trivial⟩ rfl ⟨hle,rfl,?_⟩
  all_goals exact .inl ⟨hno,rfl⟩
 | false =>
  have hrd:=(hP0 rfl).2
  have hof:=valOf_of hN2 hl hrd
  have htt:=rd_tot _ _ _ _ hrd
  dsimp only at htt
  by_cases ht : t1 = []
  case neg =>
   have hno : valOf (tyq qs) k s = none:=by rw [hof,if_neg (fun h=>ht h.1)]
   repeat' (first | (refine jR ?_) | (refine jo ?_;first | refine jL fun _=>?_ | refine jV (g_bld rfl rfl) ?_ | refine jC rfl rfl rfl ?_ | refine jAl rfl ?_ | (refine jAt rfl ?_) | (refine jAf rfl ?_)) | (refine k_gt rfl rfl (dTt ‹_›) ?_) | (refine k_gf rfl rfl rfl ?_) | (refine k_tt rfl rfl ?_))
   all_goals refine jZ (vs:=[_,_]) rfl ⟨rc_A rfl rfl rfl rfl,rfl,trivial⟩ rfl ⟨hle,rfl,?_⟩
   all_goals exact .inl ⟨hno,rfl⟩
  have hnn : ¬ t1 ≠ []:=fun h=>h ht
  have cx_dp:=c_deep (G:=G1) u1.tot (Nat.le_refl _) oM hrep
  have hdt:=deep_tot u1
  by_cases hd : V.deep u1 ≤ 12
  ·have hyes : valOf (tyq qs) k s = some u1:=by rw [hof,if_pos ⟨ht,hd⟩]
   repeat' (first | (refine jR ?_) | (refine jo ?_;first | refine jL fun _=>?_ | refine jC rfl rfl rfl ?_ | refine jAl rfl ?_ | refine jAm rfl ?_ | (refine jAf rfl ?_) | (refine c_rt rfl rfl rfl cx_dp rfl ?_)) | (refine k_gf rfl rfl (by first | rfl | (refine decide_eq_false ?_;(assumption))) ?_) | (refine k_ff rfl (dFf oM) ?_))
   all_goals refine jZ (vs:=[_,_]) rfl ⟨rc_A rfl rfl rfl rfl,rfl,trivial⟩ rfl ⟨hle,rfl,?_⟩
   all_goals exact .inr ⟨u1,c1,hyes,rfl,hrep⟩
  ·have hno : valOf (tyq qs) k s = none:=by rw [hof,if_neg (fun h=>hd h.2)]
   repeat' (first | (refine jR ?_) | (refine jo ?_;first | refine jL fun _=>?_ | refine jV (g_bld rfl rfl) ?_ | refine jC rfl rfl rfl ?_ | refine jAl rfl ?_ | refine jAm rfl ?_ | (refine jAf rfl ?_) | (refine c_rt rfl rfl rfl cx_dp rfl ?_)) | (refine k_gf rfl rfl (by first | rfl | (refine decide_eq_false ?_;(assumption))) ?_) | (refine k_tt rfl (dTt oM) ?_))
   all_goals refine jZ (vs:=[_,_]) rfl ⟨rc_A rfl rfl rfl rfl,rfl,trivial⟩ rfl ⟨hle,rfl,?_⟩
   all_goals exact .inl ⟨hno,rfl⟩
theorem kindS_some2 {s k : List UInt8} (h : kindS s k = true) : ∃ ts,schemaOf s = some ts ∧ kindIn ts k = true ∧ SchW ts:=by
 unfold kindS at h
 cases h1 : schemaOf s with
 | none=>rw [h1] at h;cases h
 | some ts=>rw [h1] at h;exact ⟨ts,rfl,h,schemaOf_w h1⟩
def givenV (s k v : List UInt8) : Option V:=match schemaOf s with
 | some ts=>if kindIn ts k = true then valOf ts k v else none
 | none=>none
theorem c_given0 {s k w : List UInt8} (h : s.length ≤ 1048576 ∧ k.length ≤ 1048576 ∧ w.length ≤ 1048576) (hno : givenV s k w = none) : FnS Tryz.prog 24 [S s,S k,S w] G (fun v _=>∃ p a b c,v = Tu [p,Ag [S a,S b,S c],zP,Bo false]):=by
 by_cases hk : kindS s k = true
 case neg =>
  have cx_bo1 : ∀ G,FnS Tryz.prog 50 [S s,S k] G (fun v _=>∃ p a b c,v = Tu [p,Ag [S a,S b,S c],Bo false]):=fun G=>by
   refine (c_both (G:=G) (s:=s) (k:=k) oM oM).mono ?_
   rintro v G' L' ⟨h1,h2,⟨_,p,a,b,c,rfl⟩ | ⟨b,qs,rfl,h4,h5,_⟩⟩
   ·exact ⟨h1,h2,p,a,b,c,rfl⟩
   ·exact absurd (by unfold kindS;rw [h4];exact h5) hk
  refine jB [(0,_),(1,_),(2,_)] Tryz.func24 Tryz.ntmps24 fun B hok hB hW=>?_
  repeat' (first | (refine jR ?_) | (refine jo ?_;first | refine jL fun _=>?_ | refine jC rfl rfl rfl ?_ | refine jV (g_bld rfl rfl) ?_ | (refine c_fns rfl rfl rfl (cx_bo1 _) rfl ?_;rintro _ G hle ⟨p1,a1,b1,c1,rfl⟩;skip)) | (refine k_tt rfl rfl ?_))
  all_goals refine jZ (vs:=[_,_,_,_]) rfl ⟨rfl,rc_A rfl rfl rfl rfl,rc_A rfl rfl rfl rfl,rfl,trivial⟩ rfl ⟨hle,rfl,?_⟩
  all_goals exact ⟨_,_,_,_,rfl⟩
 obtain ⟨ts,hs,hki,hw⟩:=kindS_some2 hk
 have hvo : valOf ts k w = none:=by unfold givenV at hno;rw [hs] at hno;dsimp only at hno;rwa [if_pos hki] at hno
 have cx_boa : ∀ G,FnS Tryz.prog 50 [S s,S k] G (fun v G'=>∃ b qs,v = Tu [Pt b 0,Ag [S (sg k),S (bs k),S (nm k)],Bo true] ∧ tyq qs = ts ∧ ScI G' b qs):=fun G=>by
  refine (c_both (G:=G) (s:=s) (k:=k) oM oM).mono ?_
  rintro v G' L' ⟨h1,h2,⟨h4,_⟩ | ⟨b,qs,rfl,h4,h5,h6⟩⟩
  ·rw [h4] at hk;cases hk
  ·rw [hs] at h4;exact ⟨h1,h2,b,qs,rfl,(Option.some.inj h4).symm,h6⟩
 have cx_ri0 : ∀ G b qs,tyq qs = ts → ScI G b qs → FnS Tryz.prog 27 [Pt b 0,Ag [S (sg k),S (bs k),S (nm k)],S w] G (fun v _=>v = Tu [zP,Bo false]):=fun G b qs hq hS=>by
  subst hq
  refine (c_readI (G:=G) (b:=b) (s:=w) hS hw hki oM).mono ?_
  rintro v G' L' ⟨h1,h2,⟨_,rfl⟩ | ⟨u,c,h4,_⟩⟩
  ·exact ⟨h1,h2,rfl⟩
  ·rw [hvo] at h4;cases h4
 refine jB [(0,_),(1,_),(2,_)] Tryz.func24 Tryz.ntmps24 fun B hok hB hW=>?_
 repeat' (first | (refine jR ?_) | (refine jo ?_;first | refine jL fun _=>?_ | refine jC rfl rfl rfl ?_ | refine jAm rfl ?_ | (refine c_fns rfl rfl rfl (cx_boa _) rfl ?_;rintro _ G hle ⟨ba,qa,rfl,hT1,hR1⟩;skip) | (refine c_fns rfl rfl rfl ((cx_ri0 _ _ _) (by (repeat (assumption));done) (by (repeat (assumption));done)) rfl ?_;rintro _ G hle rfl;skip)) | (refine k_ff rfl rfl ?_) | (refine k_any (s_anyD (id:=5) (tt:=7) rfl mixed ?_);refine jW 5 [0,3,4] (bts 8 25) ?_;(refine jG (bts 8 27) 1 rfl (g_ldA rfl rfl rfl rfl) ?_);(refine jG (bts 8 31) 2 rfl (g_ldA rfl rfl rfl rfl) ?_);refine jA 5 rfl ?_;(refine jC rfl rfl rfl ?_);refine jK (bts 8 63) ?_;refine jA 6 rfl ?_;(refine jC rfl rfl rfl ?_);refine jK (bts 8 127) ?_;refine jW 0 [7] (bts 8 255) ?_;refine jQ ?_))
 all_goals refine jZ (vs:=[_,_,_,_]) rfl ⟨rfl,rc_A rfl rfl rfl rfl,rc_A rfl rfl rfl rfl,rfl,trivial⟩ rfl ⟨(Gh.le.trans aS hle),rfl,?_⟩
 all_goals exact ⟨_,_,_,_,rfl⟩
theorem c_given1 {s k w : List UInt8} {u : V} {ts : List Ty} (h : s.length ≤ 1048576 ∧ k.length ≤ 1048576 ∧ w.length ≤ 1048576) (hs : schemaOf s = some ts) (hki : kindIn ts k = true) (hvo : valOf ts k w = some u) :
  FnS Tryz.prog 24 [S s,S k,S w] G (fun v G'=>∃ b qs cv,v = Tu [Pt b 0,Ag [S (sg k),S (bs k),S (nm k)],Ag (vcF cv),Bo true] ∧ tyq qs = ts ∧ ScI G' b qs ∧ V.rep G' u cv):=by
 have hw:=schemaOf_w hs
 have hk : kindS s k = true:=by unfold kindS;rw [hs];exact hki
 have cx_boa : ∀ G,FnS Tryz.prog 50 [S s,S k] G (fun v G'=>∃ b qs,v = Tu [Pt b 0,Ag [S (sg k),S (bs k),S (nm k)],Bo true] ∧ tyq qs = ts ∧ ScI G' b qs):=fun G=>by
  refine (c_both (G:=G) (s:=s) (k:=k) oM oM).mono ?_
  rintro v G' L' ⟨h1,h2,⟨h4,_⟩ | ⟨b,qs,rfl,h4,h5,h6⟩⟩
  ·rw [h4] at hk;cases hk
  ·rw [hs] at h4;exact ⟨h1,h2,b,qs,rfl,(Option.some.inj h4).symm,h6⟩
 have cx_ri1 : ∀ G b qs,tyq qs = ts → ScI G b qs → FnS Tryz.prog 27 [Pt b 0,Ag [S (sg k),S (bs k),S (nm k)],S w] G (fun v G'=>∃ cv,v = Tu [Ag (vcF cv),Bo true] ∧ V.rep G' u cv):=fun G b qs hq hS=>by
  subst hq
  refine (c_readI (G:=G) (b:=b) (s:=w) hS hw hki oM).mono ?_
  rintro v G' L' ⟨h1,h2,⟨h4,_⟩ | ⟨u',c,h4,rfl,h5⟩⟩
  ·rw [hvo] at h4;cases h4
  ·rw [hvo] at h4;obtain rfl:=Option.some.inj h4;exact ⟨h1,h2,c,rfl,h5⟩
 refine jB [(0,_),(1,_),(2,_)] Tryz.func24 Tryz.ntmps24 fun B hok hB hW=>?_
 repeat' (first | (refine jR ?_) | (refine jo ?_;first | refine jL fun _=>?_ | refine jC rfl rfl rfl ?_ | refine jAm rfl ?_ | (refine c_fns rfl rfl rfl (cx_boa _) rfl ?_;rintro _ G hle ⟨ba,qa,rfl,hT1,hR1⟩;skip) | (refine c_fns rfl rfl rfl ((cx_ri1 _ _ _) (by (repeat (assumption));done) (by (repeat (assumption));done)) rfl ?_;rintro _ G hle ⟨cv,rfl,hrv⟩;skip)) | (refine k_ff rfl rfl ?_))
 rename_i x7 x8 Ga hla x11 x13
 dsimp only [vcF,VC.sl]
 (refine k_any (s_any (id:=5) [.blk x13 (.cells (List.toArray [U8 (cv.what : Nat),S cv.text,I cv.tag,.slice cv.a cv.n cv.c]) tVal (0,0)),.blk x11 (.cells (List.toArray [S (sg k),S (bs k),S (nm k)]) tKnd (0,0))] (by intro y hy;simp only [List.mem_cons,List.not_mem_nil,or_false] at hy ⊢;rcases hy with hy | hy <;> simp [hy]) mixed ?_);refine jW 5 [0,3,4] (bts 8 25) ?_;(refine jG (bts 8 27) 1 rfl (g_ldA rfl rfl rfl rfl) ?_);(refine jG (bts 8 31) 2 rfl (g_ldA rfl rfl rfl rfl) ?_);refine jA 5 rfl ?_;(refine jC rfl rfl rfl ?_);refine jK (bts 8 63) ?_;refine jA 6 rfl ?_;(refine jC rfl rfl rfl ?_);refine jK (bts 8 127) ?_;refine jW 0 [7] (bts 8 255) ?_;refine jQ ?_)
 all_goals repeat' (refine jR ?_)
 all_goals refine jZ (vs:=[_,_,_,_]) rfl ⟨rfl,rc_A rfl rfl rfl rfl,rc_A rfl rfl rfl rfl,rfl,trivial⟩ rfl ⟨(Gh.le.trans aS hle),rfl,?_⟩
 all_goals exact ⟨ba,qa,cv,rfl,hT1,hR1.mono hle,hrv⟩
def ptR (b : Nat) : List Value:=[Pt b 0]
instance : RowF ptR 1:=⟨fun _=>rfl⟩
def inR (n : Int) : List Value:=[I n]
instance : RowF inR 1:=⟨fun _=>rfl⟩
abbrev tSt2 : TypeId:=9
abbrev tLv : TypeId:=74
inductive RepR (G : Gh) (ts : List Ty) : V → List UInt8 → Nat → Prop
 | leaf (w : Nat) (x k tx : List UInt8) (b : Nat) : Seg G b 0 [S k,S tx,nilS,nilS] → ((w = 110 ∧ k = [110] ∧ tx = x ∧ ∀ c ∈ x,isDg c = true) ∨ (w = 116 ∧ k = [116] ∧ tx = 39 :: (x ++ [39])) ∨ (w = 102 ∧ k = [102] ∧ tx = x ∧ (x = [121,101,115] ∨ x = [110,111]))) → RepR G ts (.nd w x 0 []) k b
 | lst (k : List UInt8) (b : Nat) (ks : List V) (bs : List Nat) (a : Option Addr) (c : Nat) : Seg G b 0 [S (91 :: k),S [],nilS,.slice a ks.length c] → SlV G (.slice a ks.length c) 1 ks.length (rows ptR bs) → bs.length = ks.length → (∀ i,i < ks.length → RepR G ts (nth ks i) k (nth bs i)) → RepR G ts (.nd 91 [] 0 ks) (91 :: k) b
 | non (k : List UInt8) (b : Nat) : Seg G b 0 [S (63 :: k),S [],nilS,nilS] → RepR G ts (.nd 63 [] 0 []) (63 :: k) b
 | opt (k : List UInt8) (b kb b' cc : Nat) (v : V) : 1 ≤ cc → Seg G b 0 [S (63 :: k),S [],nilS,.slice (some ⟨kb,0,none⟩) 1 cc] → Seg G kb 0 [Pt b' 0] → RepR G ts v k b' → RepR G ts (.nd 63 [] 0 [v]) (63 :: k) b
 | recd (k : List UInt8) (b : Nat) (t : Ty) (fs : List (Fld × V)) (bs : List Nat) (a a2 : Option Addr) (c c2 : Nat) : refT ts k = some t ∧ t.sort = 82 → Seg G b 0 [S k,S [82],.slice a fs.length c,.slice a2 fs.length c2] → SlV G (.slice a fs.length c) 1 fs.length (rows inR (fs.map fun p=>p.1.tag)) → SlV G (.slice a2 fs.length c2) 1 fs.length (rows ptR bs) → bs.length = fs.length → (∀ i,i < fs.length → (nth fs i).1 ∈ t.fields) → (∀ i,i < fs.length → RepR G ts (nth fs i).2 (nth fs i).1.kind (nth bs i)) → RepR G ts (.nd 82 [] 0 (fs.map fun p=>.nd 61 [] p.1.tag [p.2])) k b
 | enm (k : List UInt8) (b tb : Nat) (t : Ty) (d : Fld) {tc : Nat} : refT ts k = some t ∧ t.sort = 69 → d ∈ t.fields → Seg G b 0 [S k,S [69],.slice (some ⟨tb,0,none⟩) 1 (tc + 1),nilS] → Seg G tb 0 [I d.tag] → RepR G ts (.nd 69 [] d.tag []) k b
 | uni (k : List UInt8) (b tb kb b' cc : Nat) (t : Ty) (d : Fld) (v : V) {tc : Nat} : 1 ≤ cc → refT ts k = some t ∧ t.sort = 85 → d ∈ t.fields → Seg G b 0 [S k,S [85],.slice (some ⟨tb,0,none⟩) 1 (tc + 1),.slice (some ⟨kb,0,none⟩) 1 cc] → Seg G tb 0 [I d.tag] → Seg G kb 0 [Pt b' 0] → RepR G ts v d.kind b' → RepR G ts (.nd 85 [] d.tag [v]) k b
theorem RepR.mono {G G' : Gh} {ts : List Ty} (hl : Gh.le G G') {v : V} {k : List UInt8} {b : Nat} (h : RepR G ts v k b) : RepR G' ts v k b:=by
 induction h with
 | leaf w x k tx b h1 h2=>exact .leaf w x k tx b (h1.mono hl) h2
 | lst k b ks bs a c h1 h2 h3 _ ih=>exact .lst k b ks bs a c (h1.mono hl) (h2.mono hl) h3 ih
 | non k b h1=>exact .non k b (h1.mono hl)
 | opt k b kb b' cc v h0 h1 h2 _ ih=>exact .opt k b kb b' cc v h0 (h1.mono hl) (h2.mono hl) ih
 | recd k b t fs bs a a2 c c2 h0 h1 h2 h3 h4 h5 _ ih=>exact .recd k b t fs bs a a2 c c2 h0 (h1.mono hl) (h2.mono hl) (h3.mono hl) h4 h5 ih
 | enm k b tb t d h0 h1 h2 h3=>exact .enm k b tb t d h0 h1 (h2.mono hl) (h3.mono hl)
 | uni k b tb kb b' cc t d v hcc h0 h1 h2 h3 h4 _ ih=>exact .uni k b tb kb b' cc t d v hcc h0 h1 (h2.mono hl) (h3.mono hl) (h4.mono hl) ih
def ReadP (ts : List Ty) (f : Option (V × List UInt8)) (k : List UInt8) (v : Value) (G' : Gh) : Prop :=
 ∃ q rest ok,v = Tu [.pointer q,S rest,Bo ok] ∧ (ok = true → ∃ w b,q = some ⟨b,0,none⟩ ∧ f = some (w,rest) ∧ RepR G' ts w k b) ∧ (ok = false → f = none)
theorem c_digits {s : List UInt8} (hs : s.length ≤ 100000000) : PuG Tryz.prog 101 [S s] G (· = I ((s.takeWhile isDg).length : Nat)):=by
 refine jE [(0,_)] Tryz.func101 Tryz.ntmps101 fun B hB=>?_
 repeat' (refine jR ?_)
 refine k_loop (ι:=Nat) (fun i=>i ≤ s.length ∧ i + ((s.drop i).takeWhile isDg).length = (s.takeWhile isDg).length) (fun i=>[(0,S s),(3,I i)]) (fun _=>G) (fun i=>[]) (fun i=>s.length - i) 0 ?_ tU rfl sRr (fun i Hi=>?_)
 ·exact ⟨Nat.zero_le _,by simp⟩
 obtain ⟨hi0,hi1⟩:=Hi
 by_cases hi : i < s.length
 ·obtain ⟨c,hc1,hc2⟩:=drop_bt hi
  have hc3 : bt s ((i : Int).toNat) = c.toNat:=hc2
  rw [hc1,List.takeWhile_cons] at hi1
  by_cases hd : isDg c = true
  ·rw [if_pos hd] at hi1
   have hd2:=hd
   unfold isDg at hd2
   rw [decide_eq_true_eq] at hd2
   simp only [List.length_cons] at hi1
   repeat' (first | refine jM ?_ | (refine jo ?_;(refine jAt rfl ?_)) | (refine k_gt rfl rfl (dTt oM) ?_) | (refine k_tt rfl (dTt oM) ?_))
   exact k_rd (i + 1) ⟨oM,oM⟩ oM tU rfl sRr
  ·rw [if_neg hd] at hi1
   have hd2 : ¬ (48 ≤ c.toNat ∧ c.toNat ≤ 57):=fun h=>hd (by unfold isDg;rw [decide_eq_true_eq];exact h)
   simp only [List.length_nil] at hi1
   repeat' (first | refine jM ?_ | (refine jo ?_;first | (refine jAt rfl ?_) | (refine jAf rfl ?_)) | (refine k_gt rfl rfl (dTt oM) ?_) | refine k_g rfl rfl (fun _=>?_) (fun _=>?_) | (refine k_ff rfl (by first | rfl | (refine decide_eq_false ?_;(omega))) ?_))
   all_goals refine jY (vs:=[_]) ?_
   all_goals (rw [oneOf_one,← hi1];rfl)
 ·have : i = s.length:=oM
  rw [this,List.drop_length] at hi1
  simp only [List.takeWhile_nil,List.length_nil] at hi1
  repeat' (first | (refine jR ?_) | (refine jo ?_;(refine jAf rfl ?_)) | (refine k_gf rfl rfl (by first | rfl | (refine decide_eq_false ?_;(omega))) ?_) | (refine k_ff rfl rfl ?_))
  all_goals refine jY (vs:=[_]) ?_
  all_goals (rw [oneOf_one,← hi1,this];rfl)
theorem take_while (q : UInt8 → Bool) (s : List UInt8) : s.take ((((s.takeWhile q).length : Nat) : Int)).toNat = s.takeWhile q ∧ s.drop ((((s.takeWhile q).length : Nat) : Int)).toNat = s.dropWhile q:=by
 have h:=List.takeWhile_append_dropWhile (p:=q) (l:=s)
 have e : ((((s.takeWhile q).length : Nat) : Int)).toNat = (s.takeWhile q).length:=oM
 rw [e]
 constructor
 ·have h2 : (s.takeWhile q ++ s.dropWhile q).take (s.takeWhile q).length = s.takeWhile q:=List.take_left
  rwa [h] at h2
 ·have h2 : (s.takeWhile q ++ s.dropWhile q).drop (s.takeWhile q).length = s.dropWhile q:=List.drop_left
  rwa [h] at h2
theorem c_plainN {u : Value} {ts : List Ty} {s : List UInt8} (hu : u.oneCell' = true) (hs : s.length ≤ 100000000) : FnS Tryz.prog 63 [Ag [u],S s,S [110]] G (ReadP ts ((rdNum 999999 s).map fun x=>(.nd 110 (decI x.1) 0 [],x.2)) [110]):=by
 have cx_dg:=c_digits (G:=G) hs
 obtain ⟨e1,e2⟩:=take_while isDg s
 have hwl:=while_len isDg s
 have hlen : (s.take ((((s.takeWhile isDg).length : Nat) : Int)).toNat).length ≤ 100000000:=by rw [e1];omega
 refine jB [(0,_),(1,_),(2,_)] Tryz.func63 Tryz.ntmps63 fun B hok hB hW=>?_
 repeat' (first | refine jM ?_ | (refine jo ?_;first | refine jO fun _=>?_ | (refine c_rt rfl rfl rfl cx_dg rfl ?_) | (refine c_pu rfl rfl rfl (c_l3Num oM) rfl ?_;rintro _ ⟨n,rfl,hnum⟩)) | (refine k_tt rfl rfl ?_) | (refine k_any (s_any (id:=6) _ (fun _ h=>h) mixed ?_);refine jW 5 [0,1,2,3,6,7,8,9] (bts 13 975) ?_;(refine jG (bts 13 991) 4 rfl (g_bld rfl rfl) ?_);refine jA 5 rfl ?_;(refine jO fun _=>?_);refine jS (bts 13 1023) ?_;refine jT 0 [10,11,12] (bts 13 8191) ?_;refine jQ ?_))
 rename_i x3 x4
 refine Nx.sealC (b:=x4) fun G2 hG2 hsy=>?_
 refine jZ (vs:=[_,_,_]) rfl ⟨rfl,rfl,rfl,trivial⟩ rfl ⟨hG2,rfl,?_⟩
 rw [oneOf_three]
 rw [e1] at hnum hsy
 rw [e1,e2]
 refine ⟨_,_,_,rfl,fun h=>?_,fun h=>?_⟩
 ·cases hm : numOf (s.takeWhile isDg) 999999 with
  | none=>rw [hm] at h;cases h
  | some m =>
   have hmd:=(numOf_le hm).2.1
   refine ⟨.nd 110 (decI m) 0 [],x4,rfl,by unfold rdNum;rw [hm];rfl,.leaf 110 _ _ _ _ hsy (.inl ⟨rfl,rfl,hmd,fun c hc=>List.all_eq_true.1 (List.all_takeWhile (l:=s) (p:=isDg)) c (by rw [hmd];exact hc)⟩)⟩
 ·cases hm : numOf (s.takeWhile isDg) 999999 with
  | none=>unfold rdNum;rw [hm];rfl
  | some m=>rw [hm] at h;cases h
theorem quote_take {c : UInt8} {r : List UInt8} {i : Nat} (hc : i ≤ r.length) (hn : ∀ j,j < i → bt r j ≠ 39) (hi : i = r.length ∨ bt r i = 39 ∧ i < r.length) :
  (rdQuote (c :: r) = if isTx ((c :: r).take (min (i + 2) (r.length + 1))) = true then some (.nd 116 (r.take i) 0 [],r.drop (i + 1)) else none) ∧ (isTx ((c :: r).take (min (i + 2) (r.length + 1))) = true → (c :: r).take (min (i + 2) (r.length + 1)) = 39 :: (r.take i ++ [39])):=by
 unfold rdQuote
 dsimp only
 rcases hi with hi | ⟨h39,hlt⟩
 ·have hcut : cut1 39 r = (r,[],false):=cut1_no fun j hj=>hn j oM
  have htk : (c :: r).take (min (i + 2) (r.length + 1)) = c :: r:=List.take_of_length_le (by simp;omega)
  have hno : isTx (c :: r) = false:=by
   unfold isTx
   refine decide_eq_false fun h=>?_
   obtain ⟨⟨h2,_⟩,_,h3,_⟩:=h
   simp only [List.length_cons] at h2
   rw [show (c :: r).length - 1 = (r.length - 1) + 1 by simp;omega,bt_succ] at h3
   exact hn (r.length - 1) oM h3
  rw [hcut,htk,hno]
  exact ⟨by simp,fun h=>(by cases h)⟩
 ·have hcut:=cut1_at (k:=39) hlt hn h39
  have htk : (c :: r).take (min (i + 2) (r.length + 1)) = c :: (r.take i ++ [39]):=by
   rw [show min (i + 2) (r.length + 1) = (i + 1) + 1 by omega,List.take_succ_cons,take_nth hlt]
   congr 1;congr 1;congr 1
   rw [nth_eq hlt]
   have : bt r i = (r[i]).toNat:=by simp [bt,List.getD,List.getElem?_eq_getElem hlt]
   exact UInt8.toNat_inj.1 (by rw [← this,h39];rfl)
  rw [hcut,htk]
  dsimp only
  by_cases h : c.toNat = 39
  ·rw [if_pos h,show c = 39 from UInt8.toNat_inj.1 h]
   exact ⟨rfl,fun _=>rfl⟩
  ·have hno : ¬ isTx (c :: (r.take i ++ [39])) = true:=fun ht=>by
    unfold isTx at ht
    rw [decide_eq_true_eq] at ht
    exact h (by have:=ht.2.1;rwa [bt_zero] at this)
   rw [if_neg h,if_neg hno]
   exact ⟨rfl,fun h2=>absurd h2 hno⟩
theorem c_plainT {u : Value} {ts : List Ty} {s : List UInt8} (hu : u.oneCell' = true) (hs : s.length ≤ 100000000) (hne : s ≠ []) : FnS Tryz.prog 63 [Ag [u],S s,S [116]] G (ReadP ts (rdQuote s) [116]):=by
 match s,hne with
 | c :: r,_ =>
 simp only [List.length_cons] at hs
 have hcl : (c :: r).length = r.length + 1:=rfl
 refine jB [(0,_),(1,_),(2,_)] Tryz.func63 Tryz.ntmps63 fun B hok hB hW=>?_
 repeat' (first | (refine jR ?_) | (refine jo ?_;(refine jO fun _=>?_)) | (refine k_tt rfl rfl ?_) | (refine k_ff rfl rfl ?_))
 rename_i x3
 refine k_loop (ι:=Nat) (fun i=>i ≤ r.length ∧ ∀ j,j < i → bt r j ≠ 39) (fun i=>[(1,S (c :: r)),(2,S [116]),(9,I (i + 1 : Nat))]) (fun _=>G) (fun i=>[]) (fun i=>r.length - i) 0 ?_ tU rfl (by repeat (exact List.nil_sublist _)) (fun i Hi=>?_)
 ·exact ⟨Nat.zero_le _,fun j hj=>absurd hj oM⟩
 obtain ⟨hi0,hi1⟩:=Hi
 have hb : bt (c :: r) ((i + 1 : Nat) : Int).toNat = bt r i:=bt_succ c r i
 by_cases hi : i < r.length
 ·by_cases h39 : bt r i = 39
  ·have h39' : bt (c :: r) ((i + 1 : Nat) : Int).toNat = 39:=by rw [hb];exact h39
   have hq:=quote_take (c:=c) hi0 hi1 (.inr ⟨h39,hi⟩)
   have e3 : (min (((i + 1 : Nat) : Int) + 1) ((((c :: r).length : Nat) : Int))).toNat = min (i + 2) (r.length + 1):=oM
   have cx_tx:=c_l3Text (G:=G) (s:=(c :: r).take (min (((i + 1 : Nat) : Int) + 1) ((((c :: r).length : Nat) : Int))).toNat) (by rw [List.length_take];omega)
   repeat' (first | refine jM ?_ | (refine jo ?_;first | (refine jAt rfl ?_) | refine jV (g_min rfl rfl) ?_) | (refine k_gt rfl rfl (dTt oM) ?_) | (refine k_ff rfl (dFf oM) ?_) | (refine k_any (s_any (id:=12) _ (fun _ h=>h) mixed ?_);refine jW 6 [0,1,2,3,6,7,8,9,10,11] (bts 16 4047) ?_;(refine jG (bts 16 4063) 4 rfl (g_bld rfl rfl) ?_);refine x_all [5,12] kR dC ⟨?_,?_,trivial⟩;(focus (refine x_opg rfl rfl ?_;(refine jO fun _=>?_);refine jS (bts 16 4095) ?_;refine jA 12 rfl ?_;((refine c_rt rfl rfl rfl (c_l3Text ?_) rfl ?_;(focus ((simp;omega);done))));refine jS (bts 16 8191) ?_;refine jW 0 [13,14,15] (bts 16 65535) ?_;refine jQ ?_));rotate_left 1;(focus (refine x_opg rfl rfl ?_;((refine c_rt rfl rfl rfl (c_l3Text ?_) rfl ?_;(focus ((simp;omega);done))));refine jS (bts 16 8159) ?_;refine jA 5 rfl ?_;(refine jO fun _=>?_);refine jS (bts 16 8191) ?_;refine jW 0 [13,14,15] (bts 16 65535) ?_;refine jQ ?_));rotate_left 1))
   all_goals
    rename_i x4
    refine Nx.sealC (b:=x4) fun G2 hG2 hsy=>?_
    refine jZ (vs:=[_,_,_]) rfl ⟨rfl,rfl,rfl,trivial⟩ rfl ⟨hG2,rfl,?_⟩
    rw [oneOf_three]
    rw [e3] at hsy
    rw [e3]
    refine ⟨_,_,_,rfl,fun h=>?_,fun h=>?_⟩
    ·have htk:=hq.2 h
     rw [htk] at hsy
     have hdr : (c :: r).drop (min (i + 2) (r.length + 1)) = r.drop (i + 1):=by
      rcases Nat.lt_or_ge i r.length with h2 | h2
      ·rw [show min (i + 2) (r.length + 1) = (i + 1) + 1 by omega];rfl
      ·rw [List.drop_eq_nil_of_le (by simp;omega),List.drop_eq_nil_of_le oM]
     exact ⟨_,x4,rfl,by rw [hq.1,if_pos h,hdr],.leaf 116 _ _ _ _ hsy (.inr (.inl ⟨rfl,rfl,rfl⟩))⟩
    ·rw [hq.1,if_neg (by rw [h];decide)]
  ·have h39' : ¬ bt (c :: r) ((i + 1 : Nat) : Int).toNat = 39:=by rw [hb];exact h39
   repeat' (first | refine jM ?_ | (refine jo ?_;(refine jAt rfl ?_)) | (refine k_gt rfl rfl (dTt oM) ?_) | (refine k_tt rfl (dTt oM) ?_))
   refine Nx.re (d:=9) (v':=I (i + 1 + 1 : Nat)) rfl (congrArg (Value.int .i64) oM) ?_
   exact k_rd (i + 1) ⟨oM,fun j hj=>(by
    rcases Nat.lt_or_ge j i with h | h
    ·exact hi1 j h
    ·have : j = i:=oM
     subst this;exact h39)⟩ oM tU rfl sRr
 ·have hq:=quote_take (c:=c) hi0 hi1 (.inl oM)
  have e3 : (min (((i + 1 : Nat) : Int) + 1) ((((c :: r).length : Nat) : Int))).toNat = min (i + 2) (r.length + 1):=oM
  have cx_tx:=c_l3Text (G:=G) (s:=(c :: r).take (min (((i + 1 : Nat) : Int) + 1) ((((c :: r).length : Nat) : Int))).toNat) (by rw [List.length_take];omega)
  repeat' (first | refine jM ?_ | (refine jo ?_;first | (refine jAf rfl ?_) | refine jV (g_min rfl rfl) ?_) | (refine k_gf rfl rfl (dFf oM) ?_) | (refine k_ff rfl rfl ?_) | (refine k_any (s_any (id:=12) _ (fun _ h=>h) mixed ?_);refine jW 6 [0,1,2,3,6,7,8,9,10,11] (bts 16 4047) ?_;(refine jG (bts 16 4063) 4 rfl (g_bld rfl rfl) ?_);refine x_all [5,12] kR dC ⟨?_,?_,trivial⟩;(focus (refine x_opg rfl rfl ?_;(refine jO fun _=>?_);refine jS (bts 16 4095) ?_;refine jA 12 rfl ?_;((refine c_rt rfl rfl rfl (c_l3Text ?_) rfl ?_;(focus ((simp;omega);done))));refine jS (bts 16 8191) ?_;refine jW 0 [13,14,15] (bts 16 65535) ?_;refine jQ ?_));rotate_left 1;(focus (refine x_opg rfl rfl ?_;((refine c_rt rfl rfl rfl (c_l3Text ?_) rfl ?_;(focus ((simp;omega);done))));refine jS (bts 16 8159) ?_;refine jA 5 rfl ?_;(refine jO fun _=>?_);refine jS (bts 16 8191) ?_;refine jW 0 [13,14,15] (bts 16 65535) ?_;refine jQ ?_));rotate_left 1))
  all_goals
   rename_i x4
   refine Nx.sealC (b:=x4) fun G2 hG2 hsy=>?_
   refine jZ (vs:=[_,_,_]) rfl ⟨rfl,rfl,rfl,trivial⟩ rfl ⟨hG2,rfl,?_⟩
   rw [oneOf_three]
   rw [e3] at hsy
   rw [e3]
   refine ⟨_,_,_,rfl,fun h=>?_,fun h=>?_⟩
   ·have htk:=hq.2 h
    rw [htk] at hsy
    have hdr : (c :: r).drop (min (i + 2) (r.length + 1)) = r.drop (i + 1):=by
     rcases Nat.lt_or_ge i r.length with h2 | h2
     ·rw [show min (i + 2) (r.length + 1) = (i + 1) + 1 by omega];rfl
     ·rw [List.drop_eq_nil_of_le (by simp;omega),List.drop_eq_nil_of_le oM]
    exact ⟨_,x4,rfl,by rw [hq.1,if_pos h,hdr],.leaf 116 _ _ _ _ hsy (.inr (.inl ⟨rfl,rfl,rfl⟩))⟩
   ·rw [hq.1,if_neg (by rw [h];decide)]
theorem c_plainF {u : Value} {ts : List Ty} {s : List UInt8} (hu : u.oneCell' = true) (hs : s.length ≤ 100000000) : FnS Tryz.prog 63 [Ag [u],S s,S [102]] G (ReadP ts (rdFlag s) [102]):=by
 have hpf : ∀ l : List UInt8,l.isPrefixOf s = true ↔ l.length ≤ s.length ∧ s.take l.length = l:=fun l=>by
  rw [List.isPrefixOf_iff_prefix]
  constructor
  ·rintro ⟨t,rfl⟩;simp
  ·rintro ⟨h1,h2⟩;exact ⟨s.drop l.length,by rw [show l ++ s.drop l.length = s.take l.length ++ s.drop l.length from by rw [h2]];exact List.take_append_drop _ _⟩
 refine jB [(0,_),(1,_),(2,_)] Tryz.func63 Tryz.ntmps63 fun B hok hB hW=>?_
 repeat' (first | (refine jR ?_) | (refine jo ?_;first | refine jO fun _=>?_ | refine jF fun _=>?_ | refine jV (g_lenL rfl) ?_) | (refine k_ff rfl rfl ?_))
 rename_i x3 x4
 refine k_loop (ι:=Nat) (fun i=>i ≤ 2 ∧ (1 ≤ i → ([121,101,115] : List UInt8).isPrefixOf s = false) ∧ (2 ≤ i → ([110,111] : List UInt8).isPrefixOf s = false)) (fun i=>[(1,S s),(2,S [102]),(68,.slice (some ⟨x4,0,none⟩) 2 2),(69,I (2 : Nat)),(70,I i)]) (fun _=>G) (fun i=>[.blk x4 (.cells (List.toArray [S [121,101,115],S [110,111]]) tSt2 (0,0))]) (fun i=>2 - i) 0 ?_ tU rfl sB (fun i Hi=>?_)
 ·exact ⟨Nat.zero_le _,fun h=>absurd h oM,fun h=>absurd h oM⟩
 obtain ⟨hi0,hi1,hi2⟩:=Hi
 have h3 : i = 0 ∨ i = 1 ∨ i = 2:=oM
 rcases h3 with rfl | rfl | rfl
 ·cases hp : ([121,101,115] : List UInt8).isPrefixOf s with
  | true =>
   obtain ⟨h1,h2⟩:=(hpf _).1 hp
   have h1' : (((([121,101,115] : List UInt8).length : Nat) : Int)) ≤ s.length:=oM
   have h2' : s.take (((([121,101,115] : List UInt8).length : Nat) : Int)).toNat = [121,101,115]:=h2
   repeat' (first | refine jM ?_ | (refine jo ?_;first | (refine jAt rfl ?_) | (refine jV (g_iaddrN rfl rfl oM) ?_) | refine jAl rfl ?_) | (refine k_gt rfl rfl (dTt ‹_›) ?_) | (refine k_tt rfl (by first | rfl | (refine decide_eq_true ?_;(assumption))) ?_) | (refine k_any (s_any (id:=17) _ (fun _ h=>h) mixed ?_);refine jW 5 [0,1,4,5,6,7] (bts 11 243) ?_;(refine jG (bts 11 247) 2 rfl (g_bld rfl rfl) ?_);refine jA 3 rfl ?_;(refine jO fun _=>?_);refine jS (bts 11 255) ?_;refine jT 0 [8,9,10] (bts 11 2047) ?_;refine jQ ?_))
   all_goals
    rename_i y
    refine Nx.sealC (b:=y) fun G2 hG2 hsy=>?_
    refine jZ (vs:=[_,_,_]) rfl ⟨rfl,rfl,rfl,trivial⟩ rfl ⟨hG2,rfl,?_⟩
    rw [oneOf_three]
    exact ⟨_,_,_,rfl,fun _=>⟨.nd 102 [121,101,115] 0 [],y,rfl,by unfold rdFlag;rw [hp,if_pos rfl];rfl,.leaf 102 _ _ _ _ hsy (.inr (.inr ⟨rfl,rfl,rfl,.inl rfl⟩))⟩,fun h=>(by cases h)⟩
  | false =>
   have hn : ¬ ((([121,101,115] : List UInt8).length : Nat) ≤ s.length ∧ s.take ([121,101,115] : List UInt8).length = [121,101,115]):=fun h=>by rw [(hpf _).2 h] at hp;cases hp
   have hn' : ¬ ((((([121,101,115] : List UInt8).length : Nat) : Int)) ≤ s.length ∧ s.take (((([121,101,115] : List UInt8).length : Nat) : Int)).toNat = [121,101,115]):=fun h=>hn ⟨oM,h.2⟩
   by_cases h1' : (((([121,101,115] : List UInt8).length : Nat) : Int)) ≤ s.length
   ·have h2' : ¬ s.take (((([121,101,115] : List UInt8).length : Nat) : Int)).toNat = [121,101,115]:=fun h=>hn' ⟨h1',h⟩
    repeat' (first | refine jM ?_ | (refine jo ?_;first | (refine jAt rfl ?_) | (refine jV (g_iaddrN rfl rfl oM) ?_) | refine jAl rfl ?_) | (refine k_gt rfl rfl (dTt ‹_›) ?_) | (refine k_tt rfl rfl ?_) | (refine k_ff rfl (dFf ‹_›) ?_))
    exact k_rd 1 ⟨oM,fun _=>rfl,fun h=>absurd h oM⟩ oM tU rfl sRr
   ·repeat' (first | refine jM ?_ | (refine jo ?_;first | (refine jAf rfl ?_) | (refine jV (g_iaddrN rfl rfl oM) ?_) | refine jAl rfl ?_) | (refine k_gf rfl rfl (dFf ‹_›) ?_) | (refine k_tt rfl rfl ?_) | (refine k_ff rfl rfl ?_))
    exact k_rd 1 ⟨oM,fun _=>rfl,fun h=>absurd h oM⟩ oM tU rfl sRr
 ·have hy:=hi1 (Nat.le_refl _)
  cases hp : ([110,111] : List UInt8).isPrefixOf s with
  | true =>
   obtain ⟨h1,h2⟩:=(hpf _).1 hp
   have h1' : (((([110,111] : List UInt8).length : Nat) : Int)) ≤ s.length:=oM
   have h2' : s.take (((([110,111] : List UInt8).length : Nat) : Int)).toNat = [110,111]:=h2
   repeat' (first | refine jM ?_ | (refine jo ?_;first | (refine jAt rfl ?_) | (refine jV (g_iaddrN rfl rfl oM) ?_) | refine jAl rfl ?_) | (refine k_gt rfl rfl (dTt ‹_›) ?_) | (refine k_tt rfl (by first | rfl | (refine decide_eq_true ?_;(assumption))) ?_) | (refine k_any (s_any (id:=17) _ (fun _ h=>h) mixed ?_);refine jW 5 [0,1,4,5,6,7] (bts 11 243) ?_;(refine jG (bts 11 247) 2 rfl (g_bld rfl rfl) ?_);refine jA 3 rfl ?_;(refine jO fun _=>?_);refine jS (bts 11 255) ?_;refine jT 0 [8,9,10] (bts 11 2047) ?_;refine jQ ?_))
   all_goals
    rename_i y
    refine Nx.sealC (b:=y) fun G2 hG2 hsy=>?_
    refine jZ (vs:=[_,_,_]) rfl ⟨rfl,rfl,rfl,trivial⟩ rfl ⟨hG2,rfl,?_⟩
    rw [oneOf_three]
    exact ⟨_,_,_,rfl,fun _=>⟨.nd 102 [110,111] 0 [],y,rfl,by unfold rdFlag;rw [hy,if_neg dC,hp,if_pos rfl];rfl,.leaf 102 _ _ _ _ hsy (.inr (.inr ⟨rfl,rfl,rfl,.inr rfl⟩))⟩,fun h=>(by cases h)⟩
  | false =>
   have hn : ¬ ((([110,111] : List UInt8).length : Nat) ≤ s.length ∧ s.take ([110,111] : List UInt8).length = [110,111]):=fun h=>by rw [(hpf _).2 h] at hp;cases hp
   have hn' : ¬ ((((([110,111] : List UInt8).length : Nat) : Int)) ≤ s.length ∧ s.take (((([110,111] : List UInt8).length : Nat) : Int)).toNat = [110,111]):=fun h=>hn ⟨oM,h.2⟩
   by_cases h1' : (((([110,111] : List UInt8).length : Nat) : Int)) ≤ s.length
   ·have h2' : ¬ s.take (((([110,111] : List UInt8).length : Nat) : Int)).toNat = [110,111]:=fun h=>hn' ⟨h1',h⟩
    repeat' (first | refine jM ?_ | (refine jo ?_;first | (refine jAt rfl ?_) | (refine jV (g_iaddrN rfl rfl oM) ?_) | refine jAl rfl ?_) | (refine k_gt rfl rfl (dTt ‹_›) ?_) | (refine k_tt rfl rfl ?_) | (refine k_ff rfl (dFf ‹_›) ?_))
    exact k_rd 2 ⟨oM,fun _=>hy,fun _=>rfl⟩ oM tU rfl sRr
   ·repeat' (first | refine jM ?_ | (refine jo ?_;first | (refine jAf rfl ?_) | (refine jV (g_iaddrN rfl rfl oM) ?_) | refine jAl rfl ?_) | (refine k_gf rfl rfl (dFf ‹_›) ?_) | (refine k_tt rfl rfl ?_) | (refine k_ff rfl rfl ?_))
    exact k_rd 2 ⟨oM,fun _=>hy,fun _=>rfl⟩ oM tU rfl sRr
 ·repeat' (first | (refine jR ?_) | (refine k_ff rfl rfl ?_))
  refine jZ (vs:=[_,_,_]) rfl ⟨rfl,rfl,rfl,trivial⟩ rfl ⟨Gh.le.refl _,rfl,?_⟩
  rw [oneOf_three]
  exact ⟨_,_,_,rfl,fun h=>(by cases h),fun _=>by unfold rdFlag;rw [hi1 oM,if_neg dC,hi2 oM,if_neg dC]⟩
theorem c_tag {u : Value} {x : TyX} {s : List UInt8} (hs : s.length ≤ 100000000) (hu : u.oneCell' = true) (hf : SlV G (slX x) 4 x.2.fields.length (rows fldF x.2.fields)) (hl : x.2.fields.length ≤ 1000) :
  PuG Tryz.prog 100 [Ag [u],S s,Ag (tyF x)] G (fun v=>∃ n,v = Tu [Ag (fldF ((fldT x.2.fields n).getD zF)),S (s.dropWhile isDg),Bo ((numOf (s.takeWhile isDg) 200).isSome && (fldT x.2.fields n).isSome)] ∧ ∀ m,numOf (s.takeWhile isDg) 200 = some m → n = m):=by
 have cx_dg:=c_digits (G:=G) hs
 obtain ⟨e1,e2⟩:=take_while isDg s
 have hwl:=while_len isDg s
 have hlen : (s.take ((((s.takeWhile isDg).length : Nat) : Int)).toNat).length ≤ 100000000:=by rw [e1];omega
 simp only [tyF]
 refine jE [(0,_),(1,_),(2,_)] Tryz.func100 Tryz.ntmps100 fun B hB=>?_
 repeat' (first | refine jM ?_ | (refine jo ?_;first | refine jO fun _=>?_ | refine jL fun _=>?_ | refine jAm rfl ?_ | (refine c_rt rfl rfl rfl cx_dg rfl ?_) | (refine c_pu rfl rfl rfl (c_l3Num oM) rfl ?_;rintro _ ⟨n,rfl,hnum⟩)))
 rename_i n
 have cx_fld:=c_fieldS (G:=G) (tag:=n) hf hl
 rw [e1] at hnum
 cases hm : (numOf (s.take ((((s.takeWhile isDg).length : Nat) : Int)).toNat) 200).isSome with
 | false =>
  repeat' (first | (refine jR ?_) | (refine jo ?_;first | refine jL fun _=>?_ | refine jC rfl rfl rfl ?_ | (refine c_rt rfl rfl rfl cx_fld rfl ?_)) | (refine k_any (s_anyD (id:=4) (tt:=6) rfl mixed ?_);refine jW 6 [1,2,3,4,5] (bts 11 62) ?_;(try (refine Nx.re (d:=34) (v':=Bo false) rfl (congrArg Value.bool rfl) ?_));refine jW 5 [6] (bts 11 126) ?_;(refine jG (bts 11 127) 0 rfl (g_ldA rfl rfl rfl rfl) ?_);((refine jG (bts 11 255) 7 rfl (g_pickF rfl rfl ?_) ?_;(focus ((rfl);done))));refine jA 8 rfl ?_;(refine jC rfl rfl rfl ?_);refine jK (bts 11 511) ?_;refine jW 0 [9,10] (bts 11 2047) ?_;refine jQ ?_))
  all_goals refine jZ (vs:=[_,_,_]) rfl ⟨rc_A rfl rfl rfl rfl,rfl,rfl,trivial⟩ rfl ⟨rfl,rfl,?_⟩
  all_goals (rw [oneOf_three];exact ⟨n,by rw [e1] at hm;rw [hm,e2];rfl,hnum⟩)
 | true =>
  repeat' (first | (refine jR ?_) | (refine jo ?_;first | refine jL fun _=>?_ | refine jC rfl rfl rfl ?_ | (refine c_rt rfl rfl rfl cx_fld rfl ?_)) | (refine k_any (s_anyD (id:=4) (tt:=6) rfl mixed ?_);refine jW 6 [1,2,3,4,5] (bts 11 62) ?_;(try (refine Nx.re (d:=34) (v':=Bo true) rfl (congrArg Value.bool rfl) ?_));refine jW 5 [6] (bts 11 126) ?_;(refine jG (bts 11 127) 0 rfl (g_ldA rfl rfl rfl rfl) ?_);((refine jG (bts 11 255) 7 rfl (g_pickT rfl rfl ?_) ?_;(focus ((rfl);done))));refine jA 8 rfl ?_;(refine jC rfl rfl rfl ?_);refine jK (bts 11 511) ?_;refine jW 0 [9,10] (bts 11 2047) ?_;refine jQ ?_))
  all_goals refine jZ (vs:=[_,_,_]) rfl ⟨rc_A rfl rfl rfl rfl,rfl,rfl,trivial⟩ rfl ⟨rfl,rfl,?_⟩
  all_goals (rw [oneOf_three];exact ⟨n,by rw [e1] at hm;rw [hm,e2];rfl,hnum⟩)
def OutB (v : V) : Prop:=v.out.length + 1 ≤ 2 * v.tot
theorem outB_outs : ∀ {ks : List V},(∀ v ∈ ks,OutB v) → lensT (V.outs ks) + ks.length ≤ 2 * V.tots ks
 | [],_=>by simp [V.outs,lensT]
 | v :: r,h=>by
  have h1:=h v (.head _)
  have h2:=outB_outs fun u hu=>h u (.tail _ hu)
  unfold OutB at h1
  simp only [V.outs,lensT,List.map_cons,List.sum_cons,V.tots,List.length_cons] at *
  omega
theorem outB_nd {w : Nat} {x : List UInt8} {t : Int} {ks : List V} (h : ∀ v ∈ ks,OutB v) (ht : t ≤ 999999) : OutB (.nd w x t ks):=by
 have h1:=outB_outs h
 have h2:=joinB_len 44 (V.outs ks)
 rw [outs_len] at h2
 have h4:=outW_len (w:=w) (x:=x) (e:=ks.isEmpty) (j:=joinB 44 (V.outs ks)) ht
 have h5:=tots_len ks
 unfold OutB
 rw [V.out,V.tot]
 omega
theorem mem_at {α : Type} [Inhabited α] {l : List α} {x : α} (h : x ∈ l) : ∃ i,i < l.length ∧ nth l i = x:=by
 obtain ⟨i,hi,rfl⟩:=List.mem_iff_getElem.1 h
 exact ⟨i,hi,nth_eq hi⟩
theorem refT_W {ts : List Ty} (hw : SchW ts) {k : List UInt8} {t : Ty} (h : refT ts k = some t) {d : Fld} (hd : d ∈ t.fields) : d.tag ≤ 999999 ∧ 0 ≤ d.tag:=by
 have:=((hw.ty t (refT_mem h)).fld d hd).tag
 omega
theorem refT_64 {ts : List Ty} {k : List UInt8} {t : Ty} (h : refT ts k = some t) : ∃ r,k = 64 :: r:=by
 unfold refT at h
 cases k with
 | nil=>cases h
 | cons c r =>
  unfold refN at h
  dsimp only at h
  by_cases h64 : c.toNat = 64
  ·exact ⟨r,by rw [show c = 64 from UInt8.toNat_inj.1 h64]⟩
  ·rw [if_neg h64] at h;cases h
theorem outR {ts : List Ty} (hw : SchW ts) {v : V} {k : List UInt8} {b : Nat} (h : RepR G ts v k b) : OutB v:=by
 induction h with
 | leaf w x k tx b h1 h2=>exact outB_nd (by simp) dC
 | lst k b ks bs a c h1 h2 h3 _ ih =>
  exact outB_nd (fun v hv=>by obtain ⟨i,hi,rfl⟩:=mem_at hv;exact ih i hi) dC
 | non k b h1=>exact outB_nd (by simp) dC
 | opt k b kb b' cc v h0 h1 h2 _ ih=>exact outB_nd (fun u hu=>by simp only [List.mem_singleton] at hu;subst hu;exact ih) dC
 | recd k b t fs bs a a2 c c2 h0 h1 h2 h3 h4 h5 _ ih =>
  refine outB_nd (fun v hv=>?_) dC
  obtain ⟨p,hp,rfl⟩:=List.mem_map.1 hv
  obtain ⟨i,hi,rfl⟩:=mem_at hp
  exact outB_nd (fun u hu=>by simp only [List.mem_singleton] at hu;subst hu;exact ih i hi) (refT_W hw h0.1 (h5 i hi)).1
 | enm k b tgb t d h0 h1 h2 h3=>exact outB_nd (by simp) (refT_W hw h0.1 h1).1
 | uni k b tgb kb b' cc t d v hcc h0 h1 h2 h3 h4 _ ih=>exact outB_nd (fun u hu=>by simp only [List.mem_singleton] at hu;subst hu;exact ih) (refT_W hw h0.1 h1).1
theorem joinB_step {c : UInt8} {xs : List (List UInt8)} {i : Nat} (h : i < xs.length) : joinB c (xs.take (i + 1)) = if 0 < i then joinB c (xs.take i) ++ c :: nth xs i else nth xs i:=by
 rw [take_nth h]
 by_cases hi : 0 < i
 ·rw [if_pos hi,joinB_snoc]
  rw [ne_eq,List.take_eq_nil_iff]
  rintro (h0 | h0)
  ·omega
  ·subst h0;simp at h
 ·have : i = 0:=oM
  subst this;rfl
theorem c_outS {ts : List Ty} (hw : SchW ts) {v : V} {k : List UInt8} {b : Nat} (h : RepR G ts v k b) : v.tot ≤ 1000000000000 → PuG Tryz.prog 37 [Pt b 0] G (· = S v.out):=by
 induction h with
 | leaf w x k tx b h1 h2 =>
  intro _
  rcases h2 with ⟨rfl,rfl,rfl,_⟩ | ⟨rfl,rfl,rfl⟩ | ⟨rfl,rfl,rfl,_⟩
  all_goals
   refine jE [(0,_)] Tryz.func37 Tryz.ntmps37 fun B hB=>?_
   repeat' (first | (refine jX ?_) | (refine jo ?_;(refine jV (g_ldS rfl rfl aS rfl rfl) ?_)) | (refine k_ff rfl rfl ?_))
   refine jY (vs:=[_]) ?_
   rw [oneOf_one,V.out];rfl
 | lst k b ks bs a c h1 h2 h3 hk ih =>
  intro ht
  rw [nd_tot] at ht
  have hb:=outB_outs (ks:=ks) fun v hv=>by obtain ⟨i,hi,rfl⟩:=mem_at hv;exact outR hw (hk i hi)
  have hol:=outs_len ks
  refine jE [(0,_)] Tryz.func37 Tryz.ntmps37 fun B hB=>?_
  repeat' (first | (refine jX ?_) | (refine jo ?_;(refine jV (g_ldS rfl rfl aS rfl rfl) ?_)) | (refine k_tt rfl rfl ?_))
  refine k_loop (ι:=Nat) (fun i=>i ≤ ks.length) (fun i=>[(0,Pt b 0),(3,S (91 :: joinB 44 ((V.outs ks).take i))),(4,I i)]) (fun _=>G) (fun i=>[]) (fun i=>ks.length - i) 0 ?_ tU rfl sRr (fun i Hi=>?_)
  ·exact Nat.zero_le _
  have hj1:=joinB_len 44 ((V.outs ks).take i)
  have hj2:=lensT_take (V.outs ks) i
  have hj3 : ((V.outs ks).take i).length ≤ ks.length:=by rw [List.length_take];omega
  by_cases hi : i < ks.length
  ·have hti:=tot_nth hi
   have cx_out:=ih i hi oM
   have hou:=outs_get hi
   have hxi : nth bs i = nth bs i:=rfl
   have hob:=outR hw (hk i hi)
   unfold OutB at hob
   have hst:=joinB_step (c:=44) (xs:=V.outs ks) (i:=i) oM
   rw [hou] at hst
   obtain ⟨kb,ko,kc,e,hs⟩:=h2.expl oM
   simp only [Value.slice.injEq] at e
   obtain ⟨rfl,-,rfl⟩:=e
   by_cases h0 : 0 < i
   ·rw [if_pos h0] at hst
    repeat' (first | (refine jX ?_) | (refine jo ?_;first | refine jV (g_ldS rfl rfl aS rfl rfl) ?_ | (refine jV (g_ldR1x rfl rfl aS ?_ aS rfl) ?_;(focus ((omega);done))) | refine jV (g_lenL rfl) ?_ | (refine jV (g_iaddrN rfl rfl oM) ?_) | (refine c_rt rfl rfl rfl cx_out rfl ?_)) | (refine k_tt rfl (dTt oM) ?_))
    refine Nx.re (d:=3) (v':=S (91 :: joinB 44 ((V.outs ks).take (i + 1)))) rfl (congrArg (fun l=>S l) (by rw [hst];simp)) ?_
    exact k_rd (i + 1) oM oM tU rfl sRr
   ·rw [if_neg h0] at hst
    have hi0 : i = 0:=oM
    subst hi0
    repeat' (first | (refine jX ?_) | (refine jo ?_;first | (refine jV (g_ldRFx rfl rfl aS ?_ aS rfl rfl) ?_;(focus ((omega);done))) | refine jV (g_ldS rfl rfl aS rfl rfl) ?_ | refine jV (g_lenL rfl) ?_ | (refine jV (g_iaddrN rfl rfl oM) ?_) | (refine c_rt rfl rfl rfl cx_out rfl ?_)) | (refine k_tt rfl (dTt oM) ?_) | (refine k_ff rfl rfl ?_))
    refine Nx.re (d:=3) (v':=S (91 :: joinB 44 ((V.outs ks).take (0 + 1)))) rfl (congrArg (fun l=>S l) (by rw [hst];rfl)) ?_
    exact k_rd (0 + 1) oM oM tU rfl sRr
  ·have hin : i = ks.length:=oM
   subst hin
   repeat' (first | (refine jX ?_) | (refine jo ?_;first | refine jV (g_ldS rfl rfl aS rfl rfl) ?_ | refine jV (g_lenL rfl) ?_) | (refine k_ff rfl (dFf oM) ?_))
   refine jY (vs:=[_]) ?_
   rw [oneOf_one,V.out,← hol,List.take_length];rfl
 | non k b h1 =>
  intro _
  refine jE [(0,_)] Tryz.func37 Tryz.ntmps37 fun B hB=>?_
  repeat' (first | (refine jX ?_) | (refine jo ?_;first | refine jV (g_ldS rfl rfl aS rfl rfl) ?_ | refine jV (g_lenL rfl) ?_) | (refine k_tt rfl rfl ?_) | (refine k_ff rfl rfl ?_))
  refine jY (vs:=[_]) ?_
  rfl
 | opt k b kb b' cc v h0 h1 h2 h3 ih =>
  intro ht
  simp only [nd_tot,V.tots] at ht
  have cx_out:=ih oM
  have hob:=outR hw h3
  unfold OutB at hob
  refine jE [(0,_)] Tryz.func37 Tryz.ntmps37 fun B hB=>?_
  repeat' (first | (refine jX ?_) | (refine jo ?_;first | refine jV (g_ldS rfl rfl aS rfl rfl) ?_ | refine jV (g_lenL rfl) ?_ | (refine jV (g_iaddr rfl rfl oM) ?_) | (refine c_rt rfl rfl rfl cx_out rfl ?_)) | (refine k_tt rfl rfl ?_) | (refine k_ff rfl rfl ?_))
  refine jY (vs:=[_]) ?_
  rw [oneOf_one,V.out];rfl
 | recd k b t fs bs a a2 c c2 h0 h1 h2 h3 h4 h5 hk ih =>
  intro ht
  obtain ⟨r,rfl⟩:=refT_64 h0.1
  rw [nd_tot] at ht
  have hB1 : ∀ v ∈ fs.map (fun p : Fld × V=>V.nd 61 [] p.1.tag [p.2]),OutB v:=fun v hv=>by
   obtain ⟨p,hp,rfl⟩:=List.mem_map.1 hv
   obtain ⟨i,hi,rfl⟩:=mem_at hp
   exact outB_nd (fun u hu=>by simp only [List.mem_singleton] at hu;subst hu;exact outR hw (hk i hi)) (refT_W hw h0.1 (h5 i hi)).1
  have hb:=outB_outs hB1
  have hml : (fs.map (fun p : Fld × V=>V.nd 61 [] p.1.tag [p.2])).length = fs.length:=by simp
  have hol:=outs_len (fs.map (fun p : Fld × V=>V.nd 61 [] p.1.tag [p.2]))
  have hnt : ∀ i,i < fs.length → nth (fs.map (fun p : Fld × V=>V.nd 61 [] p.1.tag [p.2])) i = V.nd 61 [] (nth fs i).1.tag [(nth fs i).2]:=fun i hi=>by rw [nth_eq (by simpa using hi),nth_eq hi];simp
  generalize hKS : fs.map (fun p : Fld × V=>V.nd 61 [] p.1.tag [p.2]) = KS at *
  have cx_nmd : PuG Tryz.prog 67 [Pt b 0] G (· = S (V.out (.nd 82 [] 0 KS))):=by
   refine jE [(0,_)] Tryz.func67 Tryz.ntmps67 fun B hB=>?_
   repeat' (first | (refine jR ?_) | (refine jo ?_;(refine jV (g_ldS rfl rfl aS rfl rfl) ?_)) | (refine k_ff rfl rfl ?_))
   refine k_loop (ι:=Nat) (fun i=>i ≤ fs.length) (fun i=>[(0,Pt b 0),(3,S (123 :: joinB 44 ((V.outs KS).take i))),(4,I i)]) (fun _=>G) (fun i=>[]) (fun i=>fs.length - i) 0 ?_ tU rfl sRr (fun i Hi=>?_)
   ·exact Nat.zero_le _
   have hj1:=joinB_len 44 ((V.outs KS).take i)
   have hj2:=lensT_take (V.outs KS) i
   have hj3 : ((V.outs KS).take i).length ≤ fs.length:=by rw [List.length_take];omega
   by_cases hi : i < fs.length
   ·have hti:=tot_nth (ks:=KS) (i:=i) oM
    rw [hnt i hi] at hti
    simp only [nd_tot,V.tots] at hti
    have cx_out:=ih i hi oM
    have hou:=outs_get (ks:=KS) (i:=i) oM
    rw [hnt i hi,out_fld] at hou
    have hxi : nth bs i = nth bs i:=rfl
    have htg:=refT_W hw h0.1 (h5 i hi)
    have hdl:=decI_len6' htg.1
    have hob:=outR hw (hk i hi)
    unfold OutB at hob
    have hst:=joinB_step (c:=44) (xs:=V.outs KS) (i:=i) oM
    rw [hou] at hst
    have htn : nth (fs.map fun p : Fld × V=>p.1.tag) i = (nth fs i).1.tag:=by rw [nth_eq (by simpa using hi),nth_eq hi];simp
    have htl : (fs.map fun p : Fld × V=>p.1.tag).length = fs.length:=by simp
    obtain ⟨tgb,to,tc,e,hs1⟩:=h2.expl oM
    simp only [Value.slice.injEq] at e
    obtain ⟨rfl,-,rfl⟩:=e
    obtain ⟨kb,ko,kc,e,hs2⟩:=h3.expl oM
    simp only [Value.slice.injEq] at e
    obtain ⟨rfl,-,rfl⟩:=e
    by_cases hp0 : 0 < i
    ·rw [if_pos hp0] at hst
     repeat' (first | (refine jX ?_) | (refine jo ?_;first | refine jV (g_ldS rfl rfl aS rfl rfl) ?_ | refine jV (g_lenL rfl) ?_) | (refine k_tt rfl (dTt oM) ?_) | (refine k_any (s_any (id:=12) _ (fun _ h=>h) mixed ?_);refine jT 12 [0,1,2,3,5,11,12,13,15] (bts 21 47151) ?_;(refine jG (bts 21 47167) 4 rfl (g_ldS rfl rfl aS rfl rfl) ?_);(refine jG (bts 21 47231) 6 rfl (g_iaddrN rfl rfl oM) ?_);((refine jG (bts 21 47359) 7 rfl (g_ldR1x rfl rfl aS ?_ aS rfl) ?_;(focus ((omega);done))));(refine jG (bts 21 63743) 14 rfl (g_ldS rfl rfl aS rfl rfl) ?_);(refine jG (bts 21 129279) 16 rfl (g_iaddrN rfl rfl oM) ?_);((refine jG (bts 21 260351) 17 rfl (g_ldR1x rfl rfl aS ?_ aS rfl) ?_;(focus ((omega);done))));refine jA 8 rfl ?_;(refine c_rt rfl rfl rfl (c_l6Dec oM) rfl ?_);refine jS (bts 21 260607) ?_;refine jW 3 [9,10] (bts 21 262143) ?_;refine jA 18 rfl ?_;(refine c_rt rfl rfl rfl cx_out rfl ?_);refine jS (bts 21 524287) ?_;refine jW 0 [19,20] (bts 21 2097151) ?_;refine jQ ?_))
     all_goals
      refine Nx.re (d:=3) (v':=S (123 :: joinB 44 ((V.outs KS).take (i + 1)))) rfl (congrArg (fun l=>S l) (by rw [hst];simp)) ?_
      exact k_rd (i + 1) oM oM tU rfl sRr
    ·rw [if_neg hp0] at hst
     have hi0 : i = 0:=oM
     subst hi0
     repeat' (first | refine jM ?_ | (refine jo ?_;first | refine jV (g_ldS rfl rfl aS rfl rfl) ?_ | refine jV (g_lenL rfl) ?_) | (refine k_tt rfl (dTt oM) ?_) | (refine k_ff rfl rfl ?_) | (refine k_any (s_any (id:=12) _ (fun _ h=>h) mixed ?_);refine jT 12 [0,1,2,3,5,11,12,13,15] (bts 21 47151) ?_;(refine jG (bts 21 47167) 4 rfl (g_ldS rfl rfl aS rfl rfl) ?_);(refine jG (bts 21 47231) 6 rfl (g_iaddrN rfl rfl oM) ?_);((refine jG (bts 21 47359) 7 rfl (g_ldR1x rfl rfl aS ?_ aS rfl) ?_;(focus ((omega);done))));(refine jG (bts 21 63743) 14 rfl (g_ldS rfl rfl aS rfl rfl) ?_);(refine jG (bts 21 129279) 16 rfl (g_iaddrN rfl rfl oM) ?_);((refine jG (bts 21 260351) 17 rfl (g_ldRFx rfl rfl aS ?_ aS rfl rfl) ?_;(focus ((omega);done))));refine jA 8 rfl ?_;(refine c_rt rfl rfl rfl (c_l6Dec oM) rfl ?_);refine jS (bts 21 260607) ?_;refine jW 3 [9,10] (bts 21 262143) ?_;refine jA 18 rfl ?_;(refine c_rt rfl rfl rfl cx_out rfl ?_);refine jS (bts 21 524287) ?_;refine jW 0 [19,20] (bts 21 2097151) ?_;refine jQ ?_))
     all_goals
      refine Nx.re (d:=3) (v':=S (123 :: joinB 44 ((V.outs KS).take (0 + 1)))) rfl (congrArg (fun l=>S l) (by rw [hst];simp [joinB])) ?_
      exact k_rd (0 + 1) oM oM tU rfl sRr
   ·have hin : i = fs.length:=oM
    repeat' (first | (refine jX ?_) | (refine jo ?_;first | refine jV (g_ldS rfl rfl aS rfl rfl) ?_ | refine jV (g_lenL rfl) ?_) | (refine k_ff rfl (dFf oM) ?_))
    refine jY (vs:=[_]) ?_
    rw [oneOf_one,V.out,hin,← hml,← hol,List.take_length];rfl
  refine jE [(0,_)] Tryz.func37 Tryz.ntmps37 fun B hB=>?_
  repeat' (first | (refine jX ?_) | (refine jo ?_;first | refine jV (g_ldS rfl rfl aS rfl rfl) ?_ | (refine c_rt rfl rfl rfl cx_nmd rfl ?_)) | (refine k_tt rfl rfl ?_) | (refine k_ff rfl rfl ?_))
  refine jY (vs:=[_]) ?_
  rfl
 | enm k b tgb t d h0 h1 h2 h3 =>
  intro _
  obtain ⟨r,rfl⟩:=refT_64 h0.1
  have htg:=refT_W hw h0.1 h1
  have hdl:=decI_len6' htg.1
  have cx_nmd : PuG Tryz.prog 67 [Pt b 0] G (· = S (V.out (.nd 69 [] d.tag []))):=by
   refine jE [(0,_)] Tryz.func67 Tryz.ntmps67 fun B hB=>?_
   repeat' (first | (refine jX ?_) | (refine jo ?_;first | refine jV (g_ldS rfl rfl aS rfl rfl) ?_ | (refine jV (g_iaddr rfl rfl oM) ?_) | (refine c_rt rfl rfl rfl (c_l6Dec oM) rfl ?_)) | (refine k_tt rfl rfl ?_) | (refine k_ff rfl rfl ?_))
   refine jY (vs:=[_]) ?_
   rw [oneOf_one,V.out];rfl
  refine jE [(0,_)] Tryz.func37 Tryz.ntmps37 fun B hB=>?_
  repeat' (first | (refine jX ?_) | (refine jo ?_;first | refine jV (g_ldS rfl rfl aS rfl rfl) ?_ | (refine c_rt rfl rfl rfl cx_nmd rfl ?_)) | (refine k_tt rfl rfl ?_) | (refine k_ff rfl rfl ?_))
  refine jY (vs:=[_]) ?_
  rfl
 | uni k b tgb kb b' cc t d v hcc h0 h1 h2 h3 h4 hk ih =>
  intro ht
  obtain ⟨r,rfl⟩:=refT_64 h0.1
  have htg:=refT_W hw h0.1 h1
  have hdl:=decI_len6' htg.1
  simp only [nd_tot,V.tots] at ht
  have cx_out:=ih oM
  have hob:=outR hw hk
  unfold OutB at hob
  have cx_nmd : PuG Tryz.prog 67 [Pt b 0] G (· = S (V.out (.nd 85 [] d.tag [v]))):=by
   refine jE [(0,_)] Tryz.func67 Tryz.ntmps67 fun B hB=>?_
   repeat' (first | (refine jR ?_) | (refine jo ?_;(refine jV (g_ldS rfl rfl aS rfl rfl) ?_)) | (refine k_tt rfl rfl ?_) | (refine k_any (s_any (id:=3) _ (fun _ h=>h) mixed ?_);refine jT 13 [0,1,2,9,10,11] (bts 19 3591) ?_;(refine jG (bts 19 3599) 3 rfl (g_ldS rfl rfl aS rfl rfl) ?_);(refine jG (bts 19 3615) 4 rfl (g_iaddr rfl rfl oM) ?_);(refine jG (bts 19 3647) 5 rfl (g_ldS rfl rfl aS rfl rfl) ?_);(refine jG (bts 19 7743) 12 rfl (g_ldS rfl rfl aS rfl rfl) ?_);(refine jG (bts 19 15935) 13 rfl (g_iaddr rfl rfl oM) ?_);(refine jG (bts 19 32319) 14 rfl (g_ldS rfl rfl aS rfl rfl) ?_);refine jA 6 rfl ?_;(refine c_rt rfl rfl rfl (c_l6Dec oM) rfl ?_);refine jS (bts 19 32383) ?_;refine jW 4 [7,8] (bts 19 32767) ?_;refine jA 15 rfl ?_;(refine c_rt rfl rfl rfl cx_out rfl ?_);refine jS (bts 19 65535) ?_;refine jW 0 [16,17,18] (bts 19 524287) ?_;refine jQ ?_))
   all_goals refine jY (vs:=[_]) ?_
   all_goals (rw [oneOf_one,V.out];simp [V.outs,outW,joinB])
  clear cx_out
  refine jE [(0,_)] Tryz.func37 Tryz.ntmps37 fun B hB=>?_
  repeat' (first | (refine jX ?_) | (refine jo ?_;first | refine jV (g_ldS rfl rfl aS rfl rfl) ?_ | (refine c_rt rfl rfl rfl cx_nmd rfl ?_)) | (refine k_tt rfl rfl ?_) | (refine k_ff rfl rfl ?_))
  refine jY (vs:=[_]) ?_
  rfl
end Go.E
namespace Go.E
set_option maxRecDepth 20000
set_option maxHeartbeats 2000000
open Go.Proofs
variable {G : Gh}
abbrev tPtr : TypeId:=63
abbrev tRd : TypeId:=70
def ReadC (n : Nat) (u : Value) (vs : List TyX) : Prop:=∀ (G : Gh) (k s : List UInt8),SchR G u vs → kindIn (tys vs) k = true → s.length ≤ 2000000 →
 FnS Tryz.prog 34 [Ag [u],S s,S k,I (n : Nat)] G (ReadP (tys vs) (rd (tys vs) n k s) k)
theorem c_listS {n : Nat} {u : Value} {vs : List TyX} {k s : List UInt8} (hR : ReadC n u vs) (h : SchR G u vs) (hk : kindIn (tys vs) k = true) (hs : s.length ≤ 2000000) (hn : n ≤ 1000) :
  FnS Tryz.prog 61 [Ag [u],S s,S (91 :: k),I (n + 1 : Nat)] G (ReadP (tys vs) (rdList (rd (tys vs) n k) (91 :: s)) (91 :: k)):=by
 have edn : ((n + 1 : Nat) : Int) - 1 = (n : Nat):=oM
 by_cases h93 : ∃ s2,s = 93 :: s2
 ·obtain ⟨s2,rfl⟩:=h93
  refine jB [(0,_),(1,_),(2,_),(3,_)] Tryz.func61 Tryz.ntmps61 fun B hok hB hW=>?_
  repeat' (first | (refine jX ?_) | (refine jo ?_;first | refine jO fun _=>?_ | refine jV (g_bld rfl rfl) ?_ | (refine jAt rfl ?_)) | (refine k_gt rfl rfl rfl ?_) | (refine k_tt rfl rfl ?_) | (refine k_any (s_any (id:=3) _ (fun _ h=>h) mixed ?_);refine jW 0 [0,1,2,3,4,5] (bts 6 63) ?_;refine jQ ?_))
  rename_i x4 x11
  refine Nx.sealC (b:=x11) fun G2 hG2 hsy=>?_
  refine jZ (vs:=[_,_,_]) rfl ⟨rfl,rfl,rfl,trivial⟩ rfl ⟨hG2,rfl,?_⟩
  rw [oneOf_three]
  exact ⟨_,_,_,rfl,fun _=>⟨.nd 91 [] 0 [],x11,rfl,rfl,.lst k x11 [] [] none 0 hsy ⟨rfl,.inl ⟨rfl,rfl⟩⟩ rfl (fun i hi=>absurd hi (by simp))⟩,fun h=>(by cases h)⟩
 have hRl : rdList (rd (tys vs) n k) (91 :: s) = (rdItems (rd (tys vs) n k) 20 s []).map fun x=>(.nd 91 [] 0 x.1,x.2):=by
  unfold rdList
  dsimp only
  rw [if_pos (show (91 : UInt8).toNat = 91 from rfl)]
  cases s with
  | nil =>
   have : rd (tys vs) n k [] = none:=by
    cases h : rd (tys vs) n k [] with
    | none=>rfl
    | some x=>have:=rd_short h;simp at this
   simp [rdItems,this]
  | cons e r' =>
   dsimp only
   rw [if_neg]
   intro h;exact h93 ⟨r',by rw [show e = 93 from UInt8.toNat_inj.1 h]⟩
 have hs0 : s = [] ∨ s ≠ [] ∧ ¬ ((bt s (Int.toNat 0) : Nat) : Int) = 93:=by
  cases s with
  | nil=>exact .inl rfl
  | cons e r' =>
   refine .inr ⟨by simp,fun h=>h93 ⟨r',?_⟩⟩
   have : bt (e :: r') (Int.toNat 0) = e.toNat:=bt_zero e r'
   rw [show e = 93 from UInt8.toNat_inj.1 (show e.toNat = 93 by omega)]
 have hkl : k.length ≤ 1000:=by
  have:=(kindOk_kOk (kindIn_ok hk)).2
  omega
 have hslen : s = [] ∨ 0 < s.length:=by cases s <;> simp
 rcases hs0 with hs0 | ⟨hs0,hs1⟩
 all_goals
  have hslen2 : s ≠ [] → 0 < s.length:=fun h=>by rcases hslen with h' | h';exact absurd h' h;exact h'
  try have hslen3:=hslen2 hs0
  refine jB [(0,_),(1,_),(2,_),(3,_)] Tryz.func61 Tryz.ntmps61 fun B hok hB hW=>?_
  repeat' (first | refine jM ?_ | (refine jo ?_;first | refine jO fun _=>?_ | refine jV (g_bld rfl rfl) ?_ | (refine jAt rfl ?_) | (refine jAf rfl ?_)) | (refine k_gt rfl rfl (dTt ‹_›) ?_) | (refine k_gf rfl rfl ?_ ?_;(focus ((simp [*];done);done))) | (refine k_ff rfl (by first | rfl | (refine decide_eq_false ?_;(assumption))) ?_))
  rename_i x4 x11
  refine Nx.addNil tPtr 1 ?_
  refine k_loop (ι:=List V × List Nat × Option Addr × Nat × List UInt8 × Gh) (fun q=>((q.2.1.length = q.1.length ∧ ∀ i,i < q.1.length → RepR q.2.2.2.2.2 (tys vs) (nth q.1 i) k (nth q.2.1 i)) ∧ Gh.le G q.2.2.2.2.2) ∧ rdItems (rd (tys vs) n k) 20 s [] = rdItems (rd (tys vs) n k) (20 - q.1.length) q.2.2.2.2.1 q.1 ∧ q.1.length ≤ 20 ∧ q.2.2.2.2.1.length ≤ s.length) (fun q=>[(1,S q.2.2.2.2.1),(2,S (91 :: k)),(3,I (n + 1 : Nat)),(4,Pt x4 0),(11,Pt x11 0)]) (fun q=>q.2.2.2.2.2) (fun q=>[.acc (.slice q.2.2.1 q.1.length q.2.2.2.1) tPtr 1 q.1.length (rows ptR q.2.1),.blk x11 (.cells (List.toArray [S (91 :: k),S [],nilS,.slice q.2.2.1 q.1.length q.2.2.2.1]) tLv (0,0)),.blk x4 (.cells (List.toArray [u]) tRd (0,0))]) (fun q=>20 - q.1.length) ([],[],none,0,s,G) ?_ tU rfl sRr (fun q Hq=>?_)
  ·exact ⟨⟨⟨rfl,fun i hi=>absurd hi (by simp)⟩,Gh.le.refl _⟩,rfl,Nat.zero_le _,Nat.le_refl _⟩
  obtain ⟨ws,bs,a,cap,t,Gq⟩:=q
  dsimp only at Hq ⊢
  obtain ⟨⟨⟨hbl,hreps⟩,hgq⟩,hit,hwl,htl⟩:=Hq
  by_cases h20 : ws.length < 20
  case neg =>
   have e20 : 20 - ws.length = 0:=oM
   repeat' (first | (refine jR ?_) | (refine jo ?_;first | refine jAl rfl ?_ | refine jV (g_lenL rfl) ?_) | (refine k_ff rfl (dFf oM) ?_))
   refine jZ (vs:=[_,_,_]) rfl ⟨rfl,rfl,rfl,trivial⟩ rfl ⟨hgq,rfl,?_⟩
   rw [oneOf_three]
   exact ⟨_,_,_,rfl,fun h=>(by cases h),fun _=>by rw [hRl,hit,e20];rfl⟩
  have cx_rd:=hR Gq k t (h.mono hgq) hk oM
  rw [← edn] at cx_rd
  repeat' (first | (refine jR ?_) | (refine jo ?_;first | refine jAl rfl ?_ | refine jV (g_lenL rfl) ?_) | (refine k_tt rfl (dTt oM) ?_))
  (refine k_any (s_any (id:=5) _ (fun _ h=>h) mixed ?_);refine jW 9 [1,2,3,4,5] (bts 14 62) ?_;(refine jG (bts 14 63) 0 rfl (g_ldA rfl rfl rfl rfl) ?_);refine jA 6 rfl ?_;(refine c_fns rfl rfl rfl cx_rd rfl ?_;rintro _ G hle ⟨q1,r1,ok1,rfl,hyes,hno⟩;skip);refine jS (bts 14 127) ?_;refine jT 0 [7,8,9,10,11,12,13] (bts 14 16383) ?_;refine jQ ?_)
  have hgl:=hgq.trans hle
  cases ok1 with
  | false =>
   have hnone : rdItems (rd (tys vs) n k) (20 - ws.length) t ws = none:=items_none (.inl (hno rfl))
   repeat' (first | (refine jR ?_) | (refine jo ?_;(refine jAt rfl ?_)) | (refine k_gt rfl rfl rfl ?_) | (refine k_tt rfl rfl ?_))
   refine jZ (vs:=[_,_,_]) rfl ⟨rfl,rfl,rfl,trivial⟩ rfl ⟨hgl,rfl,?_⟩
   rw [oneOf_three]
   exact ⟨_,_,_,rfl,fun h=>(by cases h),fun _=>by rw [hRl,hit,hnone];rfl⟩
  | true =>
   obtain ⟨w,wb,rfl,hf,hrep⟩:=hyes rfl
   have hsh:=rd_short hf
   cases r1 with
   | nil =>
    have hnone : rdItems (rd (tys vs) n k) (20 - ws.length) t ws = none:=items_none (.inr ⟨w,hf⟩)
    repeat' (first | (refine jR ?_) | (refine jo ?_;first | (refine jAt rfl ?_) | (refine jAf rfl ?_)) | (refine k_gt rfl rfl rfl ?_) | (refine k_gf rfl rfl rfl ?_) | (refine k_tt rfl rfl ?_))
    refine jZ (vs:=[_,_,_]) rfl ⟨rfl,rfl,rfl,trivial⟩ rfl ⟨hgl,rfl,?_⟩
    rw [oneOf_three]
    exact ⟨_,_,_,rfl,fun h=>(by cases h),fun _=>by rw [hRl,hit,hnone];rfl⟩
   | cons e r2 =>
    have hstep:=items_step (vs:=ws) hf (show 0 < 20 - ws.length by omega)
    have he0 : bt (e :: r2) (Int.toNat 0) = e.toNat:=bt_zero e r2
    simp only [List.length_cons] at hsh
    have hel : (e :: r2).length = r2.length + 1:=rfl
    have hrow : rows ptR bs ++ [Pt wb 0] = rows ptR (bs ++ [wb]):=(rows_snoc ptR bs wb).symm
    have hwl1 : (ws ++ [w]).length = ws.length + 1:=by simp
    have hbl1 : (bs ++ [wb]).length = (ws ++ [w]).length:=by simp [hbl]
    have hrp : ∀ i,i < (ws ++ [w]).length → RepR G (tys vs) (nth (ws ++ [w]) i) k (nth (bs ++ [wb]) i):=fun i hi=>by
     by_cases h1 : i < ws.length
     ·have e1 : nth (ws ++ [w]) i = nth ws i:=by rw [nth_eq hi,nth_eq h1,List.getElem_append_left h1]
      have e2 : nth (bs ++ [wb]) i = nth bs i:=by rw [nth_eq oM,nth_eq oM,List.getElem_append_left oM]
      rw [e1,e2];exact (hreps i h1).mono hle
     ·have h2 : i = ws.length:=oM
      have e1 : nth (ws ++ [w]) i = w:=by rw [nth_eq hi];simp [h2]
      have e2 : nth (bs ++ [wb]) i = wb:=by rw [nth_eq oM];simp [h2,hbl]
      rw [e1,e2];exact hrep
    by_cases h44 : e.toNat = 44
    ·rw [if_pos h44] at hstep
     have hn93 : ¬ e.toNat = 93:=oM
     repeat' (first | refine jM ?_ | (refine jo ?_;first | (refine jAf rfl ?_) | refine jAl rfl ?_ | refine jF fun _=>?_ | (refine c_apX rfl rfl rfl rfl rfl rfl rfl rfl rfl oM fun _ _=>?_) | refine jD rfl rfl rfl ?_) | (refine k_gf rfl rfl (by first | rfl | (refine decide_eq_false ?_;(omega))) ?_) | (refine k_ff rfl (by first | rfl | (refine decide_eq_false ?_;(omega))) ?_))
     rename_i y0 y1 yc
     rw [hrow]
     exact k_rd (ws ++ [w],bs ++ [wb],some ⟨y1,0,none⟩,yc,r2,G) ⟨⟨⟨hbl1,hrp⟩,hgl⟩,(by dsimp only;rw [hit,hstep,hwl1,Nat.sub_sub]),(by dsimp only;omega),(by dsimp only;omega)⟩ (by dsimp only;omega) tU rfl (by rw [hwl1];repeat (first | exact List.Sublist.refl _ | apply List.Sublist.cons_cons | apply List.Sublist.cons))
    ·rw [if_neg h44] at hstep
     by_cases h93' : e.toNat = 93
     ·rw [if_pos h93'] at hstep
      repeat' (first | refine jM ?_ | (refine jo ?_;first | (refine jAt rfl ?_) | (refine jAf rfl ?_) | refine jAl rfl ?_ | refine jF fun _=>?_ | (refine c_apX rfl rfl rfl rfl rfl rfl rfl rfl rfl oM fun _ _=>?_) | refine jD rfl rfl rfl ?_) | (refine k_gt rfl rfl (dTt oM) ?_) | (refine k_gf rfl rfl rfl ?_) | (refine k_tt rfl (dTt oM) ?_) | (refine k_ff rfl (dFf oM) ?_))
      rename_i y0 y1 yc
      rw [hrow]
      refine Nx.sealS (v:=.slice (some ⟨y1,0,none⟩) (ws.length + 1) yc) fun G2 hG2 hsl=>?_
      refine Nx.sealC (b:=x11) fun G3 hG3 hsg=>?_
      refine jZ (vs:=[_,_,_]) rfl ⟨rfl,rfl,rfl,trivial⟩ rfl ⟨((hgl.trans hG2).trans hG3),rfl,?_⟩
      rw [oneOf_three]
      exact ⟨_,_,_,rfl,fun _=>⟨.nd 91 [] 0 (ws ++ [w]),x11,rfl,by rw [hRl,hit,hstep];rfl,.lst k x11 _ (bs ++ [wb]) (some ⟨y1,0,none⟩) yc (by rw [hwl1];exact hsg) (by rw [hwl1];exact hsl.mono hG3) hbl1 (fun i hi=>(hrp i hi).mono (hG2.trans hG3))⟩,fun h=>(by cases h)⟩
     ·rw [if_neg h93'] at hstep
      repeat' (first | refine jM ?_ | (refine jo ?_;first | (refine jAt rfl ?_) | (refine jAf rfl ?_)) | (refine k_gt rfl rfl (dTt oM) ?_) | (refine k_gf rfl rfl rfl ?_) | (refine k_tt rfl (dTt oM) ?_))
      refine jZ (vs:=[_,_,_]) rfl ⟨rfl,rfl,rfl,trivial⟩ rfl ⟨hgl,rfl,?_⟩
      rw [oneOf_three]
      exact ⟨_,_,_,rfl,fun h=>(by cases h),fun _=>by rw [hRl,hit,hstep];rfl⟩
section
variable {P : Program} {n : Nat} {D : List Deferred} {E : Env} {M : World → Prop} {d : Option Nat} {ty : TypeId} {pos : String} {aft : Array Edge} {gd : Option (Nat × Bool)}
theorem g_ldB1 {T T0 : TypeId} {x : Operand} {desc : TypeDesc} {size bytes b m cap i : Nat} {zero : Value} {G0 : Gh} {L0 : List Own} {cs : List Int} {xs : List Value} {y : Int} [TI P T desc size bytes zero] [Kn M G0 L0] [h : AccB L0 b m cap T0 1 xs] (hx : ev E x = some (Pt b (0 + i * 1))) (ha : aggD desc = false) (hxs : xs = rows inR cs) (hi : i < cs.length) (hy : nth cs i = y) :
  Gives P n D E M ⟨d,.load T x,ty,pos,aft,gd⟩ (I y):=g_load hx ha (by
 have:=(cells_acc (S:=M) h.mem).go (i * 1 + 0) (I y) (by rw [hxs,rows_get hi oM,hy];rfl)
 simpa using this)
end
def lastT (fs : List (Fld × V)) : Int:=match fs.getLast? with
 | some p=>p.1.tag
 | none=>0
def nd61 (fs : List (Fld × V)) : List V:=fs.map fun p=>.nd 61 [] p.1.tag [p.2]
theorem lastT_snoc (fs : List (Fld × V)) (p : Fld × V) : lastT (fs ++ [p]) = p.1.tag:=by simp [lastT]
abbrev tPtr2 : TypeId:=63
abbrev tInt2 : TypeId:=3
abbrev tFd : TypeId:=112
abbrev tTyB : TypeId:=131
theorem c_recordS {n : Nat} {u : Value} {vs : List TyX} {x : TyX} {k s : List UInt8} (hR : ReadC n u vs) (h : SchR G u vs) (hw : SchW (tys vs)) (hx : x ∈ vs) (hrf : refT (tys vs) k = some x.2) (hso : x.2.sort = 82) (hs : s.length ≤ 2000000) (hn : n ≤ 1000) (hkl : k.length ≤ 1000) :
  FnS Tryz.prog 99 [Ag [u],S s,S k,Ag (tyF x),I (n + 1 : Nat)] G (ReadP (tys vs) (rdTyped (tys vs) (rd (tys vs) n) x.2 (123 :: s)) k):=by
 have edn : ((n + 1 : Nat) : Int) - 1 = (n : Nat):=oM
 have hxt : x.2 ∈ tys vs:=List.mem_map_of_mem hx
 have hTW:=hw.ty _ hxt
 have hfl:=hTW.len
 by_cases h125 : ∃ s2,s = 125 :: s2
 ·obtain ⟨s2,rfl⟩:=h125
  have hgood : rdTyped (tys vs) (rd (tys vs) n) x.2 (123 :: 125 :: s2) = some (.nd 82 [] 0 [],s2):=by
   unfold rdTyped
   dsimp only
   rw [if_pos hso,if_pos (show (123 : UInt8).toNat = 123 from rfl),if_pos (show (125 : UInt8).toNat = 125 from rfl)]
  refine jB [(0,_),(1,_),(2,_),(3,_),(4,_)] Tryz.func99 Tryz.ntmps99 fun B hok hB hW=>?_
  repeat' (first | (refine jX ?_) | (refine jo ?_;first | refine jO fun _=>?_ | refine jV (g_bld rfl rfl) ?_ | (refine jAt rfl ?_)) | (refine k_gt rfl rfl rfl ?_) | (refine k_tt rfl rfl ?_) | (refine k_any (s_any (id:=3) _ (fun _ h=>h) mixed ?_);refine jW 0 [0,1,2,3,4,5] (bts 6 63) ?_;refine jQ ?_))
  rename_i x5 x8 x13
  refine Nx.sealC (b:=x13) fun G2 hG2 hsy=>?_
  refine jZ (vs:=[_,_,_]) rfl ⟨rfl,rfl,rfl,trivial⟩ rfl ⟨hG2,rfl,?_⟩
  rw [oneOf_three]
  exact ⟨_,_,_,rfl,fun _=>⟨.nd 82 [] 0 [],x13,rfl,hgood,.recd k x13 x.2 [] [] none none 0 0 ⟨hrf,hso⟩ hsy ⟨rfl,.inl ⟨rfl,rfl⟩⟩ ⟨rfl,.inl ⟨rfl,rfl⟩⟩ rfl (fun i hi=>absurd hi (by simp)) (fun i hi=>absurd hi (by simp))⟩,fun h=>(by cases h)⟩
 have hRl : rdTyped (tys vs) (rd (tys vs) n) x.2 (123 :: s) = (rdFlds (tys vs) (rd (tys vs) n) x.2 (s.length + 1) 0 s []).map fun x=>(.nd 82 [] 0 x.1,x.2):=by
  unfold rdTyped
  dsimp only
  rw [if_pos hso,if_pos (show (123 : UInt8).toNat = 123 from rfl)]
  cases s with
  | nil=>rw [flds_none rdField_nil];rfl
  | cons e r' =>
   dsimp only
   rw [if_neg]
   intro h;exact h125 ⟨r',by rw [show e = 125 from UInt8.toNat_inj.1 h]⟩
 have hs0 : s = [] ∨ s ≠ [] ∧ ¬ ((bt s (Int.toNat 0) : Nat) : Int) = 125:=by
  cases s with
  | nil=>exact .inl rfl
  | cons e r' =>
   refine .inr ⟨by simp,fun h=>h125 ⟨r',?_⟩⟩
   have : bt (e :: r') (Int.toNat 0) = e.toNat:=bt_zero e r'
   rw [show e = 125 from UInt8.toNat_inj.1 (show e.toNat = 125 by omega)]
 have hslen : s = [] ∨ 0 < s.length:=by cases s <;> simp
 rcases hs0 with hs0 | ⟨hs0,hs1⟩
 ·subst hs0
  have cx_tg:=c_tag (G:=G) (u:=u) (x:=x) (s:=[]) (by simp) h.sl.one (h.fl x hx) oM
  have e0 : numOf (([] : List UInt8).takeWhile isDg) 200 = none:=by
   cases h : numOf (([] : List UInt8).takeWhile isDg) 200 with
   | none=>rfl
   | some m =>
    have:=(numOf_le h).2.1
    have h2:=decI_pos m
    rw [← this] at h2;simp at h2
  rw [e0] at cx_tg
  refine jB [(0,_),(1,_),(2,_),(3,_),(4,_)] Tryz.func99 Tryz.ntmps99 fun B hok hB hW=>?_
  repeat' (first | (refine jR ?_) | (refine jo ?_;first | refine jO fun _=>?_ | refine jV (g_bld rfl rfl) ?_ | (refine jAf rfl ?_)) | (refine k_gf rfl rfl rfl ?_) | (refine k_ff rfl rfl ?_))
  rename_i x5 x8 x13
  refine k_loop (ι:=Unit) (fun i=>True) (fun i=>[(1,S []),(2,S k),(4,I (n + 1 : Nat)),(5,Pt x5 0),(8,Pt x8 0),(13,Pt x13 0)]) (fun _=>G) (fun i=>[.blk x13 (.cells (List.toArray [S k,S [82],nilS,nilS]) tLv (0,0)),.blk x8 (.cells (List.toArray [U8 x.2.sort,S x.2.name,slX x]) tTyB (0,0)),.blk x5 (.cells (List.toArray [u]) tRd (0,0))]) (fun i=>0) () ?_ tU rfl sRr (fun i Hi=>?_)
  ·trivial
  repeat' (first | (refine jR ?_) | (refine jo ?_;first | refine jAm rfl ?_ | refine jL fun _=>?_ | refine jC rfl rfl rfl ?_ | (refine c_pu rfl rfl rfl cx_tg rfl ?_;rintro _ ⟨nt,rfl,hnt⟩)) | (refine k_tt rfl rfl ?_) | (refine k_any (s_any (id:=5) _ (fun _ h=>h) mixed ?_);refine jT 33 [0,1,2] (bts 36 7) ?_;(try (refine Nx.re (d:=43) (v':=Bo true) rfl (congrArg Value.bool rfl) ?_));refine jT 31 [3,4] (bts 36 31) ?_;(refine jG (bts 36 63) 5 rfl (g_pickT rfl rfl rfl) ?_);refine jT 29 [6] (bts 36 127) ?_;(try (refine Nx.re (d:=47) (v':=Bo true) rfl (congrArg Value.bool rfl) ?_));refine jT 26 [7,8,9] (bts 36 1023) ?_;(refine jG (bts 36 2047) 10 rfl (g_pickT rfl rfl rfl) ?_);refine jT 24 [11] (bts 36 4095) ?_;(try (refine Nx.re (d:=52) (v':=Bo true) rfl (congrArg Value.bool rfl) ?_));refine jT 21 [12,13,14] (bts 36 32767) ?_;(refine jN (bts 36 65535) 15 rfl ?_);(refine jN (bts 36 131071) 16 rfl ?_);refine jT 17 [17,18] (bts 36 524287) ?_;(try (fail));refine jT 10 [19,20,21,23,24,25,31] (bts 36 2210398207) ?_;(refine jN (bts 36 2214592511) 22 rfl ?_);(refine jN (bts 36 2281701375) 26 rfl ?_);(refine jN (bts 36 2415919103) 27 rfl ?_);refine jT 6 [28] (bts 36 2684354559) ?_;(refine jN (bts 36 3221225471) 29 rfl ?_);(refine jN (bts 36 4294967295) 30 rfl ?_);(refine jN (bts 36 8589934591) 32 rfl ?_);refine jT 2 [33] (bts 36 17179869183) ?_;(refine jN (bts 36 34359738367) 34 rfl ?_);(refine jG (bts 36 68719476735) 35 rfl (g_pickT rfl rfl rfl) ?_);refine jQ ?_))
  all_goals refine jZ (vs:=[_,_,_]) rfl ⟨rfl,rfl,rfl,trivial⟩ rfl ⟨Gh.le.refl _,rfl,?_⟩
  all_goals (rw [oneOf_three];exact ⟨_,_,_,rfl,fun h=>(by cases h),fun _=>by rw [hRl,flds_none rdField_nil];rfl⟩)
 ·have hslen3 : 0 < s.length:=List.length_pos_iff.2 hs0
  refine jB [(0,_),(1,_),(2,_),(3,_),(4,_)] Tryz.func99 Tryz.ntmps99 fun B hok hB hW=>?_
  repeat' (first | refine jM ?_ | (refine jo ?_;first | refine jO fun _=>?_ | refine jV (g_bld rfl rfl) ?_ | (refine jAt rfl ?_)) | (refine k_gt rfl rfl (dTt ‹_›) ?_) | (refine k_ff rfl (dFf ‹_›) ?_))
  rename_i x5 x8 x13
  refine Nx.addNil tInt2 1 (Nx.addNil tPtr2 1 ?_)
  refine k_loop (ι:=List (Fld × V) × List Nat × Option Addr × Nat × Option Addr × Nat × List UInt8 × Nat × Gh) (fun q=>((q.2.1.length = q.1.length ∧ (∀ i,i < q.1.length → (nth q.1 i).1 ∈ x.2.fields) ∧ ∀ i,i < q.1.length → RepR q.2.2.2.2.2.2.2.2 (tys vs) (nth q.1 i).2 (nth q.1 i).1.kind (nth q.2.1 i)) ∧ Gh.le G q.2.2.2.2.2.2.2.2) ∧ (rdFlds (tys vs) (rd (tys vs) n) x.2 (s.length + 1) 0 s [] = rdFlds (tys vs) (rd (tys vs) n) x.2 q.2.2.2.2.2.2.2.1 (lastT q.1) q.2.2.2.2.2.2.1 (nd61 q.1) ∧ q.2.2.2.2.2.2.1.length < q.2.2.2.2.2.2.2.1) ∧ q.2.2.2.2.2.2.1.length ≤ s.length ∧ q.1.length + q.2.2.2.2.2.2.1.length ≤ s.length) (fun q=>[(1,S q.2.2.2.2.2.2.1),(2,S k),(4,I (n + 1 : Nat)),(5,Pt x5 0),(8,Pt x8 0),(13,Pt x13 0)]) (fun q=>q.2.2.2.2.2.2.2.2) (fun q=>[.acc (.slice q.2.2.2.2.1 q.1.length q.2.2.2.2.2.1) tPtr2 1 q.1.length (rows ptR q.2.1),.acc (.slice q.2.2.1 q.1.length q.2.2.2.1) tInt2 1 q.1.length (rows inR (q.1.map fun p=>p.1.tag)),.blk x13 (.cells (List.toArray [S k,S [82],.slice q.2.2.1 q.1.length q.2.2.2.1,.slice q.2.2.2.2.1 q.1.length q.2.2.2.2.2.1]) tLv (0,0)),.blk x8 (.cells (List.toArray [U8 x.2.sort,S x.2.name,slX x]) tTyB (0,0)),.blk x5 (.cells (List.toArray [u]) tRd (0,0))]) (fun q=>q.2.2.2.2.2.2.1.length) ([],[],none,0,none,0,s,s.length + 1,G) ?_ tU rfl sRr (fun q Hq=>?_)
  ·exact ⟨⟨⟨rfl,fun i hi=>absurd hi (by simp),fun i hi=>absurd hi (by simp)⟩,Gh.le.refl _⟩,⟨rfl,Nat.lt_succ_self _⟩,Nat.le_refl _,by simp⟩
  obtain ⟨fs,bs,a1,c1,a2,c2,t,m,Gq⟩:=q
  dsimp only at Hq ⊢
  obtain ⟨⟨⟨hbl,hfm,hreps⟩,hgq⟩,⟨hit,htm⟩,htl,hft⟩:=Hq
  have cx_tg:=c_tag (G:=Gq) (u:=u) (x:=x) (s:=t) oM h.sl.one ((h.mono hgq).fl x hx) oM
  repeat' (first | (refine jR ?_) | (refine jo ?_;first | refine jAm rfl ?_ | refine jL fun _=>?_ | refine jC rfl rfl rfl ?_ | (refine c_pu rfl rfl rfl cx_tg rfl ?_;rintro _ ⟨nt,rfl,hnt⟩)))
  have hnone : ∀ {v : Value} {G' : Gh} {r : List UInt8},rdFlds (tys vs) (rd (tys vs) n) x.2 m (lastT fs) t (nd61 fs) = none → v = Tu [.pointer none,S r,Bo false] → ReadP (tys vs) (rdTyped (tys vs) (rd (tys vs) n) x.2 (123 :: s)) k v G':=fun h1 h2=>⟨_,_,_,h2,fun h=>(by cases h),fun _=>by rw [hRl,hit,h1];rfl⟩
  cases hb16 : (numOf (t.takeWhile isDg) 200).isSome && (fldT x.2.fields nt).isSome with
  | false =>
   have hno : rdField (rd (tys vs) n) x.2 t = none:=by
    cases hm : numOf (t.takeWhile isDg) 200 with
    | none=>exact field_none (.inl hm)
    | some m0 =>
     refine field_none (.inr ⟨m0,hm,?_⟩)
     rw [hm] at hb16
     rw [← hnt m0 hm]
     cases hf : fldT x.2.fields nt with
     | none=>rfl
     | some d=>rw [hf] at hb16;cases hb16
   (refine k_any (s_any (id:=5) _ (fun _ h=>h) mixed ?_);refine jT 33 [0,1,2] (bts 36 7) ?_;(try (refine Nx.re (d:=43) (v':=Bo true) rfl (congrArg Value.bool rfl) ?_));refine jT 31 [3,4] (bts 36 31) ?_;(refine jG (bts 36 63) 5 rfl (g_pickT rfl rfl rfl) ?_);refine jT 29 [6] (bts 36 127) ?_;(try (refine Nx.re (d:=47) (v':=Bo true) rfl (congrArg Value.bool rfl) ?_));refine jT 26 [7,8,9] (bts 36 1023) ?_;(refine jG (bts 36 2047) 10 rfl (g_pickT rfl rfl rfl) ?_);refine jT 24 [11] (bts 36 4095) ?_;(try (refine Nx.re (d:=52) (v':=Bo true) rfl (congrArg Value.bool rfl) ?_));refine jT 21 [12,13,14] (bts 36 32767) ?_;(refine jN (bts 36 65535) 15 rfl ?_);(refine jN (bts 36 131071) 16 rfl ?_);refine jT 17 [17,18] (bts 36 524287) ?_;(try (fail));refine jT 10 [19,20,21,23,24,25,31] (bts 36 2210398207) ?_;(refine jN (bts 36 2214592511) 22 rfl ?_);(refine jN (bts 36 2281701375) 26 rfl ?_);(refine jN (bts 36 2415919103) 27 rfl ?_);refine jT 6 [28] (bts 36 2684354559) ?_;(refine jN (bts 36 3221225471) 29 rfl ?_);(refine jN (bts 36 4294967295) 30 rfl ?_);(refine jN (bts 36 8589934591) 32 rfl ?_);refine jT 2 [33] (bts 36 17179869183) ?_;(refine jN (bts 36 34359738367) 34 rfl ?_);(refine jG (bts 36 68719476735) 35 rfl (g_pickT rfl rfl rfl) ?_);refine jQ ?_)
   repeat' (first | (refine jR ?_) | (refine k_tt rfl rfl ?_))
   all_goals refine jZ (vs:=[_,_,_]) rfl ⟨rfl,rfl,rfl,trivial⟩ rfl ⟨hgq,rfl,?_⟩
   all_goals exact hnone (flds_none hno) rfl
  | true =>
   simp only [Bool.and_eq_true] at hb16
   obtain ⟨hb1,hb2⟩:=hb16
   obtain ⟨m0,hm⟩:=Option.isSome_iff_exists.1 hb1
   obtain ⟨d,hd⟩:=Option.isSome_iff_exists.1 hb2
   have hnm:=hnt m0 hm
   subst hnm
   rw [hd]
   simp only [Option.getD_some]
   have hdm : d ∈ x.2.fields:=List.mem_of_find?_eq_some hd
   have hdt : d.tag = nt:=by have:=List.find?_some hd;simpa using this
   have hwl:=while_len isDg t
   cases hdw : t.dropWhile isDg with
   | nil =>
    have hno : rdField (rd (tys vs) n) x.2 t = none:=field_noeq hm (fun s2 h=>by rw [hdw] at h;cases h)
    (refine k_any (s_any (id:=5) _ (fun _ h=>h) mixed ?_);refine jT 33 [0,1,2] (bts 36 7) ?_;(try (refine Nx.re (d:=43) (v':=Bo false) rfl (congrArg Value.bool rfl) ?_));refine jT 31 [3,4] (bts 36 31) ?_;(refine jG (bts 36 63) 5 rfl (g_pickF rfl rfl rfl) ?_);refine jT 29 [6] (bts 36 127) ?_;(try (refine Nx.re (d:=47) (v':=Bo true) rfl (congrArg Value.bool rfl) ?_));refine jT 26 [7,8,9] (bts 36 1023) ?_;(refine jG (bts 36 2047) 10 rfl (g_pickT rfl rfl rfl) ?_);refine jT 24 [11] (bts 36 4095) ?_;(try (refine Nx.re (d:=52) (v':=Bo true) rfl (congrArg Value.bool rfl) ?_));refine jT 21 [12,13,14] (bts 36 32767) ?_;(refine jN (bts 36 65535) 15 rfl ?_);(refine jN (bts 36 131071) 16 rfl ?_);refine jT 17 [17,18] (bts 36 524287) ?_;(try (fail));refine jT 10 [19,20,21,23,24,25,31] (bts 36 2210398207) ?_;(refine jN (bts 36 2214592511) 22 rfl ?_);(refine jN (bts 36 2281701375) 26 rfl ?_);(refine jN (bts 36 2415919103) 27 rfl ?_);refine jT 6 [28] (bts 36 2684354559) ?_;(refine jN (bts 36 3221225471) 29 rfl ?_);(refine jN (bts 36 4294967295) 30 rfl ?_);(refine jN (bts 36 8589934591) 32 rfl ?_);refine jT 2 [33] (bts 36 17179869183) ?_;(refine jN (bts 36 34359738367) 34 rfl ?_);(refine jG (bts 36 68719476735) 35 rfl (g_pickT rfl rfl rfl) ?_);refine jQ ?_)
    repeat' (first | (refine jR ?_) | (refine k_tt rfl rfl ?_))
    all_goals refine jZ (vs:=[_,_,_]) rfl ⟨rfl,rfl,rfl,trivial⟩ rfl ⟨hgq,rfl,?_⟩
    all_goals exact hnone (flds_none hno) rfl
   | cons e r2 =>
    have he0 : bt (e :: r2) (Int.toNat 0) = e.toNat:=bt_zero e r2
    have hel : (e :: r2).length = r2.length + 1:=rfl
    by_cases h61 : e.toNat = 61
    case neg =>
     have hno : rdField (rd (tys vs) n) x.2 t = none:=field_noeq hm (fun s2 h=>by rw [hdw] at h;simp only [List.cons.injEq] at h;exact h61 (by rw [h.1];rfl))
     (refine k_any (s_any (id:=5) _ (fun _ h=>h) mixed ?_);refine jT 33 [0,1,2] (bts 36 7) ?_;(try (refine Nx.re (d:=43) (v':=Bo false) rfl (congrArg Value.bool rfl) ?_));refine jT 31 [3,4] (bts 36 31) ?_;(refine jG (bts 36 63) 5 rfl (g_pickF rfl rfl rfl) ?_);refine jT 29 [6] (bts 36 127) ?_;(try (refine Nx.re (d:=47) (v':=Bo false) rfl (congrArg Value.bool rfl) ?_));refine jW 26 [7,8,9] (bts 36 1023) ?_;(refine jG (bts 36 2047) 10 rfl (g_pickF rfl rfl rfl) ?_);refine jT 24 [11] (bts 36 4095) ?_;(try ((refine Nx.re (d:=52) (v':=Bo true) rfl (congrArg Value.bool (dTt oM)) ?_)));refine jT 21 [12,13,14] (bts 36 32767) ?_;(refine jN (bts 36 65535) 15 rfl ?_);(refine jN (bts 36 131071) 16 rfl ?_);refine jT 17 [17,18] (bts 36 524287) ?_;(try (fail));refine jT 10 [19,20,21,23,24,25,31] (bts 36 2210398207) ?_;(refine jN (bts 36 2214592511) 22 rfl ?_);(refine jN (bts 36 2281701375) 26 rfl ?_);(refine jN (bts 36 2415919103) 27 rfl ?_);refine jT 6 [28] (bts 36 2684354559) ?_;(refine jN (bts 36 3221225471) 29 rfl ?_);(refine jN (bts 36 4294967295) 30 rfl ?_);(refine jN (bts 36 8589934591) 32 rfl ?_);refine jT 2 [33] (bts 36 17179869183) ?_;(refine jN (bts 36 34359738367) 34 rfl ?_);(refine jG (bts 36 68719476735) 35 rfl (g_pickT rfl rfl rfl) ?_);refine jQ ?_)
     repeat' (first | (refine jR ?_) | (refine k_tt rfl rfl ?_))
     all_goals refine jZ (vs:=[_,_,_]) rfl ⟨rfl,rfl,rfl,trivial⟩ rfl ⟨hgq,rfl,?_⟩
     all_goals exact hnone (flds_none hno) rfl
    have he61 : e = 61:=UInt8.toNat_inj.1 h61
    have hfs:=field_some (f:=rd (tys vs) n) (t:=x.2) (s:=t) hm hd (by rw [hdw,he61])
    have hm0 : 0 < m:=oM
    have hflt : (fs.map fun p : Fld × V=>p.1.tag).length = fs.length:=by simp
    have hdt1:=((hTW.fld d hdm).tag).1
    have hlast0 : fs.length = 0 → lastT fs = 0:=fun h0=>by rw [List.length_eq_zero_iff.1 h0];rfl
    have hlast1 : 0 < fs.length → nth (fs.map fun p : Fld × V=>p.1.tag) (((fs.length : Nat) : Int) - 1).toNat = lastT fs:=fun h0=>by
     have e1 : (((fs.length : Nat) : Int) - 1).toNat = fs.length - 1:=oM
     rw [e1,nth_eq (by rw [hflt];omega)]
     unfold lastT
     rw [List.getLast?_eq_getElem?,List.getElem?_eq_getElem oM]
     simp
    rename_i x14
    have hf0 : fs.length = 0 ∨ 0 < fs.length:=oM
    by_cases hlt : d.tag ≤ lastT fs
    ·have hpos : 0 < fs.length:=by
      rcases hf0 with h0 | h0
      ·have:=hlast0 h0;omega
      ·exact h0
     have hyl:=hlast1 hpos
     have hno : rdFlds (tys vs) (rd (tys vs) n) x.2 m (lastT fs) t (nd61 fs) = none:=by
      cases hy : rd (tys vs) n d.kind r2 with
      | none=>exact flds_none (by rw [hfs,hy];rfl)
      | some y =>
       obtain ⟨w,r3⟩:=y
       rw [flds_step (d:=d) (v:=w) (r:=r3) (by rw [hfs,hy];rfl) hm0,if_pos (.inl hlt)]
     refine Nx.shp (v:=.slice a1 fs.length c1) (.tail _ (.tail _ (.head _))) fun hsh=>?_
     obtain ⟨tb1,tc1,e1⟩:=hsh.pos oM
     simp only [Value.slice.injEq] at e1
     obtain ⟨rfl,-,rfl⟩:=e1
     (refine k_any (s_any (id:=5) _ (fun _ h=>h) mixed ?_);refine jT 33 [0,1,2] (bts 36 7) ?_;(try (refine Nx.re (d:=43) (v':=Bo false) rfl (congrArg Value.bool rfl) ?_));refine jT 31 [3,4] (bts 36 31) ?_;(refine jG (bts 36 63) 5 rfl (g_pickF rfl rfl rfl) ?_);refine jT 29 [6] (bts 36 127) ?_;(try (refine Nx.re (d:=47) (v':=Bo false) rfl (congrArg Value.bool rfl) ?_));refine jW 26 [7,8,9] (bts 36 1023) ?_;(refine jG (bts 36 2047) 10 rfl (g_pickF rfl rfl rfl) ?_);refine jT 24 [11] (bts 36 4095) ?_;(try ((refine Nx.re (d:=52) (v':=Bo false) rfl (congrArg Value.bool (dFf oM)) ?_)));refine jT 21 [12,13,14] (bts 36 32767) ?_;(refine jG (bts 36 65535) 15 rfl (g_ld rfl rfl rfl) ?_);(refine jG (bts 36 131071) 16 rfl (g_lenL rfl) ?_);refine jT 17 [17,18] (bts 36 524287) ?_;(try ((refine Nx.re (d:=59) (v':=Bo true) rfl (congrArg Value.bool (dTt oM)) ?_)));refine jT 10 [19,20,21,23,24,25,31] (bts 36 2210398207) ?_;(refine jG (bts 36 2214592511) 22 rfl (g_ld rfl rfl rfl) ?_);(refine jG (bts 36 2281701375) 26 rfl (g_ld rfl rfl rfl) ?_);(refine jG (bts 36 2415919103) 27 rfl (g_lenL rfl) ?_);refine jW 6 [28] (bts 36 2684354559) ?_;(refine jG (bts 36 3221225471) 29 rfl (g_iaddr rfl rfl oM) ?_);((refine jG (bts 36 4294967295) 30 rfl (g_ldB1 rfl rfl rfl ?_ aS) ?_;(focus ((omega);done))));(refine jG (bts 36 8589934591) 32 rfl (g_ld rfl rfl rfl) ?_);refine jT 2 [33] (bts 36 17179869183) ?_;(refine jG (bts 36 34359738367) 34 rfl (g_pickT rfl rfl rfl) ?_);(refine jG (bts 36 68719476735) 35 rfl (g_pickF rfl rfl rfl) ?_);refine jQ ?_)
     repeat' (first | (refine jR ?_) | (refine k_tt rfl (dTt ‹_›) ?_))
     all_goals refine jZ (vs:=[_,_,_]) rfl ⟨rfl,rfl,rfl,trivial⟩ rfl ⟨hgq,rfl,?_⟩
     all_goals exact hnone hno rfl
    have hSq:=h.mono hgq
    have hdk : kindIn (tys vs) d.kind = true:=kind_in hw hxt oM hdm
    rw [hdw,List.length_cons] at hwl
    have cx_rd:=hR Gq d.kind r2 hSq hdk oM
    rw [← edn] at cx_rd
    rcases hf0 with hf0 | hf0
    rotate_left
    have hyl:=hlast1 hf0
    refine Nx.shp (v:=.slice a1 fs.length c1) (.tail _ (.tail _ (.head _))) fun hsh=>?_
    obtain ⟨tb1,tc1,e1⟩:=hsh.pos oM
    simp only [Value.slice.injEq] at e1
    obtain ⟨rfl,-,rfl⟩:=e1
    all_goals
     (refine k_any (s_any (id:=5) _ (fun _ h=>h) mixed ?_);refine jT 33 [0,1,2] (bts 36 7) ?_;(try (refine Nx.re (d:=43) (v':=Bo false) rfl (congrArg Value.bool rfl) ?_));refine jT 31 [3,4] (bts 36 31) ?_;(refine jG (bts 36 63) 5 rfl (g_pickF rfl rfl rfl) ?_);refine jT 29 [6] (bts 36 127) ?_;(try (refine Nx.re (d:=47) (v':=Bo false) rfl (congrArg Value.bool rfl) ?_));refine jW 26 [7,8,9] (bts 36 1023) ?_;(refine jG (bts 36 2047) 10 rfl (g_pickF rfl rfl rfl) ?_);refine jT 24 [11] (bts 36 4095) ?_;(try ((refine Nx.re (d:=52) (v':=Bo false) rfl (congrArg Value.bool (dFf oM)) ?_)));refine jT 21 [12,13,14] (bts 36 32767) ?_;(refine jG (bts 36 65535) 15 rfl (g_ld rfl rfl rfl) ?_);(refine jG (bts 36 131071) 16 rfl (g_lenL rfl) ?_);refine jT 17 [17,18] (bts 36 524287) ?_;(try (first | (refine Nx.re (d:=59) (v':=Bo true) rfl (congrArg Value.bool (dTt oM)) ?_) | (refine Nx.re (d:=59) (v':=Bo false) rfl (congrArg Value.bool (dFf oM)) ?_)));refine jT 10 [19,20,21,23,24,25,31] (bts 36 2210398207) ?_;(first | refine jG (bts 36 2214592511) 22 rfl (g_ld rfl rfl rfl) ?_ | refine jN (bts 36 2214592511) 22 rfl ?_);(first | refine jG (bts 36 2281701375) 26 rfl (g_ld rfl rfl rfl) ?_ | refine jN (bts 36 2281701375) 26 rfl ?_);(first | refine jG (bts 36 2415919103) 27 rfl (g_lenL rfl) ?_ | refine jN (bts 36 2415919103) 27 rfl ?_);refine jW 6 [28] (bts 36 2684354559) ?_;(first | (refine jG (bts 36 3221225471) 29 rfl (g_iaddr rfl rfl oM) ?_) | refine jN (bts 36 3221225471) 29 rfl ?_);(first | (refine jG (bts 36 4294967295) 30 rfl (g_ldB1 rfl rfl rfl ?_ aS) ?_;(focus ((omega);done))) | refine jN (bts 36 4294967295) 30 rfl ?_);(first | refine jG (bts 36 8589934591) 32 rfl (g_ld rfl rfl rfl) ?_ | refine jN (bts 36 8589934591) 32 rfl ?_);refine jT 2 [33] (bts 36 17179869183) ?_;(first | (refine jG (bts 36 34359738367) 34 rfl (g_pickT rfl rfl rfl) ?_) | (refine jG (bts 36 34359738367) 34 rfl (g_pickF rfl rfl rfl) ?_));(refine jG (bts 36 68719476735) 35 rfl (g_pickF rfl rfl rfl) ?_);refine jQ ?_)
     repeat' (first | (refine jR ?_) | (refine k_ff rfl (by first | rfl | (refine decide_eq_false ?_;(assumption))) ?_))
     (refine k_any (s_any (id:=7) _ (fun _ h=>h) mixed ?_);refine jW 10 [1,2,3,5,6] (bts 15 110) ?_;(refine jG (bts 15 111) 0 rfl (g_ldA rfl rfl rfl rfl) ?_);(refine jG (bts 15 127) 4 rfl (g_ld rfl rfl rfl) ?_);refine jA 7 rfl ?_;(refine c_fns rfl rfl rfl cx_rd rfl ?_;rintro _ G hle ⟨q1,r1,ok1,rfl,hyes,hno⟩;skip);refine jS (bts 15 255) ?_;refine jT 0 [8,9,10,11,12,13,14] (bts 15 32767) ?_;refine jQ ?_)
     repeat' (refine jR ?_)
     have hgl:=hgq.trans hle
     cases ok1 with
     | false =>
      have hno2 : rdField (rd (tys vs) n) x.2 t = none:=by rw [hfs,hno rfl];rfl
      (refine k_any (s_any (id:=8) _ (fun _ h=>h) mixed ?_);refine jT 22 [0,1,2] (bts 25 7) ?_;(try (refine Nx.re (d:=92) (v':=Bo true) rfl (congrArg Value.bool rfl) ?_));refine jT 20 [3,5] (bts 25 47) ?_;(refine jN (bts 25 111) 6 rfl ?_);(refine jN (bts 25 239) 7 rfl ?_);(refine jN (bts 25 255) 4 rfl ?_);(refine jN (bts 25 511) 8 rfl ?_);refine jT 15 [9] (bts 25 1023) ?_;(refine jG (bts 25 2047) 10 rfl (g_pickT rfl rfl rfl) ?_);refine jT 13 [11] (bts 25 4095) ?_;(try (refine Nx.re (d:=101) (v':=Bo true) rfl (congrArg Value.bool rfl) ?_));refine jT 11 [12,13] (bts 25 16383) ?_;(refine jG (bts 25 32767) 14 rfl (g_pickT rfl rfl rfl) ?_);refine jT 9 [15] (bts 25 65535) ?_;(try (refine Nx.re (d:=105) (v':=Bo true) rfl (congrArg Value.bool rfl) ?_));refine jT 5 [16,17,18,19] (bts 25 1048575) ?_;(try (fail));refine jT 2 [20,21,22] (bts 25 8388607) ?_;(refine jN (bts 25 16777215) 23 rfl ?_);(refine jG (bts 25 33554431) 24 rfl (g_pickT rfl rfl rfl) ?_);refine jQ ?_)
      repeat' (first | (refine jR ?_) | (refine k_tt rfl rfl ?_))
      all_goals refine jZ (vs:=[_,_,_]) rfl ⟨rfl,rfl,rfl,trivial⟩ rfl ⟨hgl,rfl,?_⟩
      all_goals exact hnone (flds_none hno2) rfl
     | true =>
      obtain ⟨w,wb,rfl,hf,hrep⟩:=hyes rfl
      have hsh:=rd_short hf
      have htt:=rd_tot _ _ _ _ hf
      dsimp only at htt hsh
      have hob:=outR hw hrep
      unfold OutB at hob
      have cx_out:=c_outS hw hrep oM
      have cx_sta:=c_standS (f:=d) (h.mono hgl) hw hdk
      have hfd : rdField (rd (tys vs) n) x.2 t = some ((d,w),r1):=by rw [hfs,hf];rfl
      have hst:=flds_step (ts:=tys vs) (vs:=nd61 fs) (last:=lastT fs) hfd hm0
      by_cases heq : w.out = standF (tys vs) d
      ·rw [if_pos (.inr heq)] at hst
       (refine k_any (s_any (id:=8) _ (fun _ h=>h) mixed ?_);refine jT 22 [0,1,2] (bts 25 7) ?_;(try (refine Nx.re (d:=92) (v':=Bo false) rfl (congrArg Value.bool rfl) ?_));refine jT 20 [3,5] (bts 25 47) ?_;(refine jG (bts 25 111) 6 rfl (g_ld rfl rfl rfl) ?_);(refine jG (bts 25 239) 7 rfl (g_ldA rfl rfl rfl rfl) ?_);(refine jA 4 rfl ?_;(refine c_rt rfl rfl rfl cx_out rfl ?_);refine jS (bts 25 255) ?_);(refine jA 8 rfl ?_;(refine c_rt rfl rfl rfl cx_sta rfl ?_);refine jS (bts 25 511) ?_);refine jT 15 [9] (bts 25 1023) ?_;(refine jG (bts 25 2047) 10 rfl (g_pickF rfl rfl rfl) ?_);refine jT 13 [11] (bts 25 4095) ?_;(try (refine Nx.re (d:=101) (v':=Bo true) rfl (congrArg Value.bool (dTt ‹_›)) ?_));refine jT 11 [12,13] (bts 25 16383) ?_;(refine jG (bts 25 32767) 14 rfl (g_pickT rfl rfl rfl) ?_);refine jT 9 [15] (bts 25 65535) ?_;(try (refine Nx.re (d:=105) (v':=Bo true) rfl (congrArg Value.bool rfl) ?_));refine jT 5 [16,17,18,19] (bts 25 1048575) ?_;(try (fail));refine jT 2 [20,21,22] (bts 25 8388607) ?_;(refine jN (bts 25 16777215) 23 rfl ?_);(refine jG (bts 25 33554431) 24 rfl (g_pickT rfl rfl rfl) ?_);refine jQ ?_)
       repeat' (first | (refine jR ?_) | (refine k_tt rfl rfl ?_))
       all_goals refine jZ (vs:=[_,_,_]) rfl ⟨rfl,rfl,rfl,trivial⟩ rfl ⟨hgl,rfl,?_⟩
       all_goals exact hnone hst rfl
      rw [if_neg (fun h=>by rcases h with h | h;exact hlt h;exact heq h)] at hst
      cases r1 with
      | nil =>
       (refine k_any (s_any (id:=8) _ (fun _ h=>h) mixed ?_);refine jT 22 [0,1,2] (bts 25 7) ?_;(try (refine Nx.re (d:=92) (v':=Bo false) rfl (congrArg Value.bool rfl) ?_));refine jT 20 [3,5] (bts 25 47) ?_;(refine jG (bts 25 111) 6 rfl (g_ld rfl rfl rfl) ?_);(refine jG (bts 25 239) 7 rfl (g_ldA rfl rfl rfl rfl) ?_);(refine jA 4 rfl ?_;(refine c_rt rfl rfl rfl cx_out rfl ?_);refine jS (bts 25 255) ?_);(refine jA 8 rfl ?_;(refine c_rt rfl rfl rfl cx_sta rfl ?_);refine jS (bts 25 511) ?_);refine jT 15 [9] (bts 25 1023) ?_;(refine jG (bts 25 2047) 10 rfl (g_pickF rfl rfl rfl) ?_);refine jT 13 [11] (bts 25 4095) ?_;(try (refine Nx.re (d:=101) (v':=Bo false) rfl (congrArg Value.bool (dFf ‹_›)) ?_));refine jT 11 [12,13] (bts 25 16383) ?_;(refine jG (bts 25 32767) 14 rfl (g_pickF rfl rfl rfl) ?_);refine jT 9 [15] (bts 25 65535) ?_;(try (refine Nx.re (d:=105) (v':=Bo true) rfl (congrArg Value.bool rfl) ?_));refine jT 5 [16,17,18,19] (bts 25 1048575) ?_;(try (fail));refine jT 2 [20,21,22] (bts 25 8388607) ?_;(refine jN (bts 25 16777215) 23 rfl ?_);(refine jG (bts 25 33554431) 24 rfl (g_pickT rfl rfl rfl) ?_);refine jQ ?_)
       repeat' (first | (refine jR ?_) | (refine k_tt rfl rfl ?_))
       all_goals refine jZ (vs:=[_,_,_]) rfl ⟨rfl,rfl,rfl,trivial⟩ rfl ⟨hgl,rfl,?_⟩
       all_goals exact hnone hst rfl
      | cons e2 r3 =>
       have he20 : bt (e2 :: r3) (Int.toNat 0) = e2.toNat:=bt_zero e2 r3
       have hel2 : (e2 :: r3).length = r3.length + 1:=rfl
       have hl' : (fs ++ [(d,w)]).length = fs.length + 1:=by simp
       have hbl' : (bs ++ [wb]).length = (fs ++ [(d,w)]).length:=by simp [hbl]
       have hnth : ∀ i,i < (fs ++ [(d,w)]).length → (i < fs.length ∧ nth (fs ++ [(d,w)]) i = nth fs i ∧ nth (bs ++ [wb]) i = nth bs i) ∨ (nth (fs ++ [(d,w)]) i = (d,w) ∧ nth (bs ++ [wb]) i = wb):=fun i hi=>by
        by_cases h1 : i < fs.length
        ·exact .inl ⟨h1,by rw [nth_eq hi,nth_eq h1,List.getElem_append_left h1],by rw [nth_eq oM,nth_eq oM,List.getElem_append_left oM]⟩
        ·have h2 : i = fs.length:=oM
         exact .inr ⟨by rw [nth_eq hi];simp [h2],by rw [nth_eq oM];simp [h2,hbl]⟩
       have hfm' : ∀ i,i < (fs ++ [(d,w)]).length → (nth (fs ++ [(d,w)]) i).1 ∈ x.2.fields:=fun i hi=>by
        rcases hnth i hi with ⟨h1,h2,_⟩ | ⟨h2,_⟩
        ·rw [h2];exact hfm i h1
        ·rw [h2];exact hdm
       have hreps' : ∀ i,i < (fs ++ [(d,w)]).length → RepR G (tys vs) (nth (fs ++ [(d,w)]) i).2 (nth (fs ++ [(d,w)]) i).1.kind (nth (bs ++ [wb]) i):=fun i hi=>by
        rcases hnth i hi with ⟨h1,h2,h3⟩ | ⟨h2,h3⟩
        ·rw [h2,h3];exact (hreps i h1).mono hle
        ·rw [h2,h3];exact hrep
       have hrow1 : rows inR (fs.map fun p=>p.1.tag) ++ [I d.tag] = rows inR ((fs ++ [(d,w)]).map fun p=>p.1.tag):=by rw [List.map_append];exact (rows_snoc inR _ d.tag).symm
       have hrow2 : rows ptR bs ++ [Pt wb 0] = rows ptR (bs ++ [wb]):=(rows_snoc ptR bs wb).symm
       have hnd : nd61 (fs ++ [(d,w)]) = nd61 fs ++ [.nd 61 [] d.tag [w]]:=by simp [nd61]
       dsimp only at hst
       by_cases h44 : e2.toNat = 44
       ·rw [if_pos h44] at hst
        have hn93 : ¬ e2.toNat = 125:=oM
        (refine k_any (s_any (id:=8) _ (fun _ h=>h) mixed ?_);refine jT 22 [0,1,2] (bts 25 7) ?_;(try (refine Nx.re (d:=92) (v':=Bo false) rfl (congrArg Value.bool rfl) ?_));refine jT 20 [3,5] (bts 25 47) ?_;(refine jG (bts 25 111) 6 rfl (g_ld rfl rfl rfl) ?_);(refine jG (bts 25 239) 7 rfl (g_ldA rfl rfl rfl rfl) ?_);(refine jA 4 rfl ?_;(refine c_rt rfl rfl rfl cx_out rfl ?_);refine jS (bts 25 255) ?_);(refine jA 8 rfl ?_;(refine c_rt rfl rfl rfl cx_sta rfl ?_);refine jS (bts 25 511) ?_);refine jT 15 [9] (bts 25 1023) ?_;(refine jG (bts 25 2047) 10 rfl (g_pickF rfl rfl rfl) ?_);refine jT 13 [11] (bts 25 4095) ?_;(try (refine Nx.re (d:=101) (v':=Bo false) rfl (congrArg Value.bool (dFf ‹_›)) ?_));refine jT 11 [12,13] (bts 25 16383) ?_;(refine jG (bts 25 32767) 14 rfl (g_pickF rfl rfl rfl) ?_);refine jT 9 [15] (bts 25 65535) ?_;(try (refine Nx.re (d:=105) (v':=Bo false) rfl (congrArg Value.bool rfl) ?_));refine jW 5 [16,17,18,19] (bts 25 1048575) ?_;(try ((refine Nx.re (d:=109) (v':=Bo false) rfl (congrArg Value.bool (dFf oM)) ?_)));refine jT 2 [20,21,22] (bts 25 8388607) ?_;(refine jG (bts 25 16777215) 23 rfl (g_pickF rfl rfl rfl) ?_);(refine jG (bts 25 33554431) 24 rfl (g_pickF rfl rfl rfl) ?_);refine jQ ?_)
        repeat' (first | (refine jR ?_) | (refine k_ff rfl rfl ?_))
        (refine k_any (s_any (id:=10) [.blk x14 (.cells (List.toArray [I d.tag,S d.name,S d.kind,S d.stand]) tFd (0,0))] (by intro y hy;simp only [List.mem_cons,List.not_mem_nil,or_false] at hy ⊢;simp [hy]) mixed ?_);refine jW 7 [0,1,2,3,5] (bts 12 47) ?_;(refine jG (bts 12 111) 6 rfl (g_ld rfl rfl rfl) ?_);refine x_all [4,7] kR dC ⟨?_,?_,trivial⟩;(focus (refine x_opg rfl rfl ?_;(refine jAl rfl ?_);refine jK (bts 12 127) ?_;refine jA 7 rfl ?_;(refine jF fun _=>?_);refine jK (bts 12 255) ?_;refine jA 8 rfl ?_;((refine c_apX rfl rfl rfl rfl rfl rfl rfl rfl rfl ?_ fun _ _=>?_;(focus ((omega);done))));refine jK (bts 12 511) ?_;refine jW 1 [9,10] (bts 12 2047) ?_;refine jA 11 rfl ?_;(refine jD rfl rfl rfl ?_);refine jK (bts 12 4095) ?_;refine jQ ?_));rotate_left 1;(focus (refine x_opg rfl rfl ?_;(refine jF fun _=>?_);refine jK (bts 12 239) ?_;refine jA 4 rfl ?_;(refine jAl rfl ?_);refine jK (bts 12 255) ?_;refine jA 8 rfl ?_;((refine c_apX rfl rfl rfl rfl rfl rfl rfl rfl rfl ?_ fun _ _=>?_;(focus ((omega);done))));refine jK (bts 12 511) ?_;refine jW 1 [9,10] (bts 12 2047) ?_;refine jA 11 rfl ?_;(refine jD rfl rfl rfl ?_);refine jK (bts 12 4095) ?_;refine jQ ?_));rotate_left 1)
        all_goals repeat' (first | refine jM ?_ | (refine jo ?_;first | refine jAl rfl ?_ | refine jD rfl rfl rfl ?_ | refine jF fun _=>?_ | (refine c_apX rfl rfl rfl rfl rfl rfl rfl rfl rfl oM fun _ _=>?_)) | (refine k_ff rfl (dFf oM) ?_))
        all_goals
         rename_i _ y1 yc1 _ y2 yc2
         rw [hrow1,hrow2]
         exact k_rd (fs ++ [(d,w)],bs ++ [wb],some ⟨y1,0,none⟩,yc1,some ⟨y2,0,none⟩,yc2,r3,m - 1,G) ⟨⟨⟨hbl',hfm',hreps'⟩,hgl⟩,⟨(by dsimp only;rw [hit,hst,lastT_snoc,hnd]),(by dsimp only;omega)⟩,(by dsimp only;omega),(by dsimp only;omega)⟩ (by dsimp only;omega) tU rfl (by rw [hl'];repeat (first | exact List.Sublist.refl _ | apply List.Sublist.cons_cons | apply List.Sublist.cons))
       ·rw [if_neg h44] at hst
        by_cases h125' : e2.toNat = 125
        ·rw [if_pos h125'] at hst
         (refine k_any (s_any (id:=8) _ (fun _ h=>h) mixed ?_);refine jT 22 [0,1,2] (bts 25 7) ?_;(try (refine Nx.re (d:=92) (v':=Bo false) rfl (congrArg Value.bool rfl) ?_));refine jT 20 [3,5] (bts 25 47) ?_;(refine jG (bts 25 111) 6 rfl (g_ld rfl rfl rfl) ?_);(refine jG (bts 25 239) 7 rfl (g_ldA rfl rfl rfl rfl) ?_);(refine jA 4 rfl ?_;(refine c_rt rfl rfl rfl cx_out rfl ?_);refine jS (bts 25 255) ?_);(refine jA 8 rfl ?_;(refine c_rt rfl rfl rfl cx_sta rfl ?_);refine jS (bts 25 511) ?_);refine jT 15 [9] (bts 25 1023) ?_;(refine jG (bts 25 2047) 10 rfl (g_pickF rfl rfl rfl) ?_);refine jT 13 [11] (bts 25 4095) ?_;(try (refine Nx.re (d:=101) (v':=Bo false) rfl (congrArg Value.bool (dFf ‹_›)) ?_));refine jT 11 [12,13] (bts 25 16383) ?_;(refine jG (bts 25 32767) 14 rfl (g_pickF rfl rfl rfl) ?_);refine jT 9 [15] (bts 25 65535) ?_;(try (refine Nx.re (d:=105) (v':=Bo false) rfl (congrArg Value.bool rfl) ?_));refine jW 5 [16,17,18,19] (bts 25 1048575) ?_;(try ((refine Nx.re (d:=109) (v':=Bo true) rfl (congrArg Value.bool (dTt oM)) ?_)));refine jW 2 [20,21,22] (bts 25 8388607) ?_;(refine jG (bts 25 16777215) 23 rfl (g_pickT rfl rfl rfl) ?_);(refine jG (bts 25 33554431) 24 rfl (g_pickF rfl rfl rfl) ?_);refine jQ ?_)
         repeat' (first | (refine jR ?_) | (refine k_ff rfl (dFf oM) ?_))
         (refine k_any (s_any (id:=10) [.blk x14 (.cells (List.toArray [I d.tag,S d.name,S d.kind,S d.stand]) tFd (0,0))] (by intro y hy;simp only [List.mem_cons,List.not_mem_nil,or_false] at hy ⊢;simp [hy]) mixed ?_);refine jW 7 [0,1,2,3,5] (bts 12 47) ?_;(refine jG (bts 12 111) 6 rfl (g_ld rfl rfl rfl) ?_);refine x_all [4,7] kR dC ⟨?_,?_,trivial⟩;(focus (refine x_opg rfl rfl ?_;(refine jAl rfl ?_);refine jK (bts 12 127) ?_;refine jA 7 rfl ?_;(refine jF fun _=>?_);refine jK (bts 12 255) ?_;refine jA 8 rfl ?_;((refine c_apX rfl rfl rfl rfl rfl rfl rfl rfl rfl ?_ fun _ _=>?_;(focus ((omega);done))));refine jK (bts 12 511) ?_;refine jW 1 [9,10] (bts 12 2047) ?_;refine jA 11 rfl ?_;(refine jD rfl rfl rfl ?_);refine jK (bts 12 4095) ?_;refine jQ ?_));rotate_left 1;(focus (refine x_opg rfl rfl ?_;(refine jF fun _=>?_);refine jK (bts 12 239) ?_;refine jA 4 rfl ?_;(refine jAl rfl ?_);refine jK (bts 12 255) ?_;refine jA 8 rfl ?_;((refine c_apX rfl rfl rfl rfl rfl rfl rfl rfl rfl ?_ fun _ _=>?_;(focus ((omega);done))));refine jK (bts 12 511) ?_;refine jW 1 [9,10] (bts 12 2047) ?_;refine jA 11 rfl ?_;(refine jD rfl rfl rfl ?_);refine jK (bts 12 4095) ?_;refine jQ ?_));rotate_left 1)
         all_goals repeat' (first | refine jM ?_ | (refine jo ?_;first | refine jAl rfl ?_ | refine jD rfl rfl rfl ?_ | refine jF fun _=>?_ | (refine c_apX rfl rfl rfl rfl rfl rfl rfl rfl rfl oM fun _ _=>?_)) | (refine k_tt rfl (dTt oM) ?_))
         all_goals
          rename_i _ y1 yc1 _ y2 yc2
          rw [hrow1,hrow2]
          refine Nx.sealS (v:=.slice (some ⟨y1,0,none⟩) (fs.length + 1) yc1) fun G2 hG2 hs1=>?_
          refine Nx.sealS (v:=.slice (some ⟨y2,0,none⟩) (fs.length + 1) yc2) fun G3 hG3 hs2=>?_
          refine Nx.sealC (b:=x13) fun G4 hG4 hsg=>?_
          refine jZ (vs:=[_,_,_]) rfl ⟨rfl,rfl,rfl,trivial⟩ rfl ⟨(((hgl.trans hG2).trans hG3).trans hG4),rfl,?_⟩
          rw [oneOf_three]
          exact ⟨_,_,_,rfl,fun _=>⟨.nd 82 [] 0 (nd61 (fs ++ [(d,w)])),x13,rfl,(by rw [hRl,hit,hst,hnd];rfl),.recd k x13 x.2 (fs ++ [(d,w)]) (bs ++ [wb]) (some ⟨y1,0,none⟩) (some ⟨y2,0,none⟩) yc1 yc2 ⟨hrf,hso⟩ (by rw [hl'];exact hsg) (by rw [hl'];exact (hs1.mono hG3).mono hG4) (by rw [hl'];exact hs2.mono hG4) hbl' hfm' (fun i hi=>(hreps' i hi).mono ((hG2.trans hG3).trans hG4))⟩,fun h=>(by cases h)⟩
        ·rw [if_neg h125'] at hst
         (refine k_any (s_any (id:=8) _ (fun _ h=>h) mixed ?_);refine jT 22 [0,1,2] (bts 25 7) ?_;(try (refine Nx.re (d:=92) (v':=Bo false) rfl (congrArg Value.bool rfl) ?_));refine jT 20 [3,5] (bts 25 47) ?_;(refine jG (bts 25 111) 6 rfl (g_ld rfl rfl rfl) ?_);(refine jG (bts 25 239) 7 rfl (g_ldA rfl rfl rfl rfl) ?_);(refine jA 4 rfl ?_;(refine c_rt rfl rfl rfl cx_out rfl ?_);refine jS (bts 25 255) ?_);(refine jA 8 rfl ?_;(refine c_rt rfl rfl rfl cx_sta rfl ?_);refine jS (bts 25 511) ?_);refine jT 15 [9] (bts 25 1023) ?_;(refine jG (bts 25 2047) 10 rfl (g_pickF rfl rfl rfl) ?_);refine jT 13 [11] (bts 25 4095) ?_;(try (refine Nx.re (d:=101) (v':=Bo false) rfl (congrArg Value.bool (dFf ‹_›)) ?_));refine jT 11 [12,13] (bts 25 16383) ?_;(refine jG (bts 25 32767) 14 rfl (g_pickF rfl rfl rfl) ?_);refine jT 9 [15] (bts 25 65535) ?_;(try (refine Nx.re (d:=105) (v':=Bo false) rfl (congrArg Value.bool rfl) ?_));refine jW 5 [16,17,18,19] (bts 25 1048575) ?_;(try ((refine Nx.re (d:=109) (v':=Bo true) rfl (congrArg Value.bool (dTt oM)) ?_)));refine jW 2 [20,21,22] (bts 25 8388607) ?_;(refine jG (bts 25 16777215) 23 rfl (g_pickT rfl rfl rfl) ?_);(refine jG (bts 25 33554431) 24 rfl (g_pickF rfl rfl rfl) ?_);refine jQ ?_)
         repeat' (first | (refine jR ?_) | (refine k_tt rfl (dTt oM) ?_))
         all_goals refine jZ (vs:=[_,_,_]) rfl ⟨rfl,rfl,rfl,trivial⟩ rfl ⟨hgl,rfl,?_⟩
         all_goals exact hnone hst rfl
theorem typed_none {ts : List Ty} {f : List UInt8 → List UInt8 → Option (V × List UInt8)} {t : Ty} {e : UInt8} {s : List UInt8} (h : t.sort = 82 ∧ ¬ e.toNat = 123 ∨ t.sort = 69 ∧ ¬ e.toNat = 35 ∨ t.sort = 85 ∧ ¬ e.toNat = 60) : rdTyped ts f t (e :: s) = none:=by
 unfold rdTyped
 dsimp only
 rcases h with ⟨h1,h2⟩ | ⟨h1,h2⟩ | ⟨h1,h2⟩
 ·rw [if_pos h1,if_neg h2]
 ·rw [if_neg oM,if_pos h1,if_neg h2]
 ·rw [if_neg oM,if_neg oM,if_neg h2]
theorem c_namX {n : Nat} {u : Value} {vs : List TyX} {x : TyX} {k s : List UInt8} {e : UInt8} (hu : u.oneCell' = true) (cx_rf : PuG Tryz.prog 98 [u,S k] G (· = Tu [Ag [U8 x.2.sort,S x.2.name,slX x],Bo true])) (hso : x.2.sort = 82 ∧ ¬ e.toNat = 123 ∨ x.2.sort = 69 ∧ ¬ e.toNat = 35 ∨ x.2.sort = 85 ∧ ¬ e.toNat = 60) (hs : s.length ≤ 2000000) (hn : n ≤ 1000) :
  FnS Tryz.prog 62 [Ag [u],S (e :: s),S k,I (n + 1 : Nat)] G (ReadP (tys vs) (rdTyped (tys vs) (rd (tys vs) n) x.2 (e :: s)) k):=by
 have hno:=typed_none (ts:=tys vs) (f:=rd (tys vs) n) (s:=s) hso
 have he0 : bt (e :: s) (Int.toNat 0) = e.toNat:=bt_zero e s
 have hel : (e :: s).length = s.length + 1:=rfl
 rcases hso with ⟨h1,h2⟩ | ⟨h1,h2⟩ | ⟨h1,h2⟩
 all_goals
  have h1' : (x.2.sort : Int) = 82 ∨ (x.2.sort : Int) = 69 ∨ (x.2.sort : Int) = 85:=oM
  refine jB [(0,_),(1,_),(2,_),(3,_)] Tryz.func62 Tryz.ntmps62 fun B hok hB hW=>?_
  repeat' (first | refine jM ?_ | (refine jo ?_;first | refine jO fun _=>?_ | refine jAl rfl ?_ | refine jL fun _=>?_ | refine jC rfl rfl rfl ?_ | (refine jAt rfl ?_) | (refine jAf rfl ?_) | (refine c_rt rfl rfl rfl cx_rf rfl ?_)) | (refine k_gt rfl rfl (dTt oM) ?_) | (refine k_gf rfl rfl (dFf oM) ?_) | (refine k_ff rfl (by first | rfl | (refine decide_eq_false ?_;(omega))) ?_))
  all_goals refine jZ (vs:=[_,_,_]) rfl ⟨rfl,rfl,rfl,trivial⟩ rfl ⟨Gh.le.refl _,rfl,?_⟩
  all_goals (rw [oneOf_three];exact ⟨_,_,_,rfl,fun h=>(by cases h),fun _=>hno⟩)
theorem c_namR {n : Nat} {u : Value} {vs : List TyX} {x : TyX} {k s : List UInt8} (hR : ReadC n u vs) (h : SchR G u vs) (hw : SchW (tys vs)) (hx : x ∈ vs) (hrf : refT (tys vs) k = some x.2) (cx_rf : PuG Tryz.prog 98 [u,S k] G (· = Tu [Ag [U8 x.2.sort,S x.2.name,slX x],Bo true])) (hso : x.2.sort = 82) (hs : s.length ≤ 1999999) (hn : n ≤ 1000) (hkl : k.length ≤ 1000) :
  FnS Tryz.prog 62 [Ag [u],S (123 :: s),S k,I (n + 1 : Nat)] G (ReadP (tys vs) (rdTyped (tys vs) (rd (tys vs) n) x.2 (123 :: s)) k):=by
 have cx_rc:=c_recordS (s:=s) hR h hw hx hrf hso oM hn hkl
 have he0 : bt (123 :: s) (Int.toNat 0) = 123:=bt_zero 123 s
 have hel : (123 :: s).length = s.length + 1:=rfl
 have h1' : (x.2.sort : Int) = 82:=oM
 refine jB [(0,_),(1,_),(2,_),(3,_)] Tryz.func62 Tryz.ntmps62 fun B hok hB hW=>?_
 repeat' (first | refine jM ?_ | (refine jo ?_;first | refine jO fun _=>?_ | refine jAl rfl ?_ | refine jL fun _=>?_ | refine jC rfl rfl rfl ?_ | (refine jAt rfl ?_) | (refine c_rt rfl rfl rfl cx_rf rfl ?_)) | (refine k_gt rfl rfl (dTt ‹_›) ?_) | (refine k_tt rfl rfl ?_) | (refine k_any (s_any (id:=3) _ (fun _ h=>h) mixed ?_);refine jW 9 [1,2,3,5] (bts 13 46) ?_;(refine jG (bts 13 47) 0 rfl (g_ldA rfl rfl rfl rfl) ?_);(refine jG (bts 13 63) 4 rfl (g_ldA rfl rfl rfl rfl) ?_);refine jA 6 rfl ?_;(refine c_fns rfl rfl rfl cx_rc rfl ?_;rintro _ G hle ⟨q1,r1,ok1,rfl,hyes,hno⟩;skip);refine jS (bts 13 127) ?_;refine jT 0 [7,8,9,10,11,12] (bts 13 8191) ?_;refine jQ ?_))
 refine jZ (vs:=[_,_,_]) rfl ⟨rfl,rfl,rfl,trivial⟩ rfl ⟨hle,rfl,?_⟩
 rw [oneOf_three]
 exact ⟨_,_,_,rfl,hyes,hno⟩
theorem c_namE {n : Nat} {u : Value} {vs : List TyX} {x : TyX} {k s : List UInt8} (h : SchR G u vs) (hw : SchW (tys vs)) (hx : x ∈ vs) (hrf : refT (tys vs) k = some x.2) (cx_rf : PuG Tryz.prog 98 [u,S k] G (· = Tu [Ag [U8 x.2.sort,S x.2.name,slX x],Bo true])) (hso : x.2.sort = 69) (hs : s.length ≤ 1999999) (hn : n ≤ 1000) :
  FnS Tryz.prog 62 [Ag [u],S (35 :: s),S k,I (n + 1 : Nat)] G (ReadP (tys vs) (rdTyped (tys vs) (rd (tys vs) n) x.2 (35 :: s)) k):=by
 have hxt : x.2 ∈ tys vs:=List.mem_map_of_mem hx
 have hTW:=hw.ty _ hxt
 have hfl:=hTW.len
 have cx_tg:=c_tag (G:=G) (u:=u) (x:=x) (s:=s) oM h.sl.one (h.fl x hx) oM
 have he0 : bt (35 :: s) (Int.toNat 0) = 35:=bt_zero 35 s
 have hel : (35 :: s).length = s.length + 1:=rfl
 have h1' : (x.2.sort : Int) = 69:=oM
 have hRT : rdTyped (tys vs) (rd (tys vs) n) x.2 (35 :: s) = match rdNum 200 s with
   | none=>none
   | some (n,r)=>if (fldT x.2.fields n).isSome = true then some (.nd 69 [] n [],r) else none:=by
  unfold rdTyped
  dsimp only
  rw [if_neg oM,if_pos hso,if_pos (show (35 : UInt8).toNat = 35 from rfl)]
  cases rdNum 200 s <;> rfl
 unfold rdNum at hRT
 simp only [tyF] at cx_tg
 refine jB [(0,_),(1,_),(2,_),(3,_)] Tryz.func62 Tryz.ntmps62 fun B hok hB hW=>?_
 repeat' (first | refine jM ?_ | (refine jo ?_;first | refine jO fun _=>?_ | refine jAl rfl ?_ | refine jL fun _=>?_ | refine jC rfl rfl rfl ?_ | (refine jAt rfl ?_) | (refine jAf rfl ?_) | refine jF fun _=>?_ | refine jV (g_bld rfl rfl) ?_ | (refine c_rt rfl rfl rfl cx_rf rfl ?_)) | (refine k_gt rfl rfl (dTt ‹_›) ?_) | (refine k_gf rfl rfl (dFf oM) ?_) | (refine k_tt rfl rfl ?_) | (refine k_ff rfl rfl ?_) | (refine k_any (s_any (id:=5) _ (fun _ h=>h) mixed ?_);refine jW 11 [1,2] (bts 13 6) ?_;(refine jG (bts 13 7) 0 rfl (g_ldA rfl rfl rfl rfl) ?_);(refine jG (bts 13 15) 3 rfl (g_ldA rfl rfl rfl rfl) ?_);refine x_all [4,9] kR dC ⟨?_,?_,trivial⟩;(focus (refine x_opg rfl rfl ?_;(refine c_pu rfl rfl rfl cx_tg rfl ?_;rintro _ ⟨nt,rfl,hnt⟩);refine jK (bts 13 31) ?_;refine jW 4 [5,6,7,8] (bts 13 511) ?_;refine jA 9 rfl ?_;(refine jL fun _=>?_);refine jK (bts 13 1023) ?_;refine jA 10 rfl ?_;(refine jC rfl rfl rfl ?_);refine jK (bts 13 2047) ?_;refine jW 0 [11,12] (bts 13 8191) ?_;refine jQ ?_));rotate_left 1;(focus (refine x_opg rfl rfl ?_;(refine jL fun _=>?_);refine jK (bts 13 527) ?_;refine jA 4 rfl ?_;(refine c_pu rfl rfl rfl cx_tg rfl ?_;rintro _ ⟨nt,rfl,hnt⟩);refine jK (bts 13 543) ?_;refine jW 3 [5,6,7,8] (bts 13 1023) ?_;refine jA 10 rfl ?_;(refine jC rfl rfl rfl ?_);refine jK (bts 13 2047) ?_;refine jW 0 [11,12] (bts 13 8191) ?_;refine jQ ?_));rotate_left 1))
 all_goals
  rename_i y y8
  refine Nx.sealC (b:=y) fun G2 hG2 hsy=>?_
  refine Nx.sealC (b:=y8) fun G3 hG3 hsg=>?_
  refine jZ (vs:=[_,_,_]) rfl ⟨rfl,rfl,rfl,trivial⟩ rfl ⟨(hG2.trans hG3),rfl,?_⟩
  rw [oneOf_three]
  refine ⟨_,_,_,rfl,fun hb=>?_,fun hb=>?_⟩
  ·simp only [Bool.and_eq_true] at hb
   obtain ⟨hb1,hb2⟩:=hb
   obtain ⟨m0,hm⟩:=Option.isSome_iff_exists.1 hb1
   obtain ⟨d,hd⟩:=Option.isSome_iff_exists.1 hb2
   have hnm:=hnt m0 hm
   subst hnm
   rw [hd] at hsy
   simp only [Option.getD_some] at hsy
   have hdm : d ∈ x.2.fields:=List.mem_of_find?_eq_some hd
   have hdt : d.tag = nt:=by have:=List.find?_some hd;simpa using this
   exact ⟨.nd 69 [] d.tag [],y8,rfl,by rw [hRT,hm];dsimp only [Option.map_some];rw [hd,hdt];rfl,.enm k y8 y x.2 d ⟨hrf,hso⟩ hdm hsg (hsy.mono hG3)⟩
  ·rw [hRT]
   cases hm : numOf (s.takeWhile isDg) 200 with
   | none=>rfl
   | some m0 =>
    have hnm:=hnt m0 hm
    subst hnm
    rw [hm] at hb
    dsimp only [Option.map_some]
    rw [if_neg]
    intro h2
    rw [h2] at hb;cases hb
end Go.E
namespace Go.E
set_option maxRecDepth 20000
set_option maxHeartbeats 2000000
open Go.Proofs
variable {G : Gh}
theorem c_namU {n : Nat} {u : Value} {vs : List TyX} {x : TyX} {k s : List UInt8} (hR : ReadC n u vs) (h : SchR G u vs) (hw : SchW (tys vs)) (hx : x ∈ vs) (hrf : refT (tys vs) k = some x.2) (cx_rf : PuG Tryz.prog 98 [u,S k] G (· = Tu [Ag [U8 x.2.sort,S x.2.name,slX x],Bo true])) (hso : x.2.sort = 85) (hs : s.length ≤ 1999999) (hn : n ≤ 1000) :
  FnS Tryz.prog 62 [Ag [u],S (60 :: s),S k,I (n + 1 : Nat)] G (ReadP (tys vs) (rdTyped (tys vs) (rd (tys vs) n) x.2 (60 :: s)) k):=by
 have edn : ((n + 1 : Nat) : Int) - 1 = (n : Nat):=oM
 have hxt : x.2 ∈ tys vs:=List.mem_map_of_mem hx
 have hTW:=hw.ty _ hxt
 have hfl:=hTW.len
 have cx_tg:=c_tag (G:=G) (u:=u) (x:=x) (s:=s) oM h.sl.one (h.fl x hx) oM
 have he0 : bt (60 :: s) (Int.toNat 0) = 60:=bt_zero 60 s
 have hel : (60 :: s).length = s.length + 1:=rfl
 have h1' : (x.2.sort : Int) = 85:=oM
 have hRT : rdTyped (tys vs) (rd (tys vs) n) x.2 (60 :: s) = match rdField (rd (tys vs) n) x.2 s with
   | none=>none
   | some ((d,v),r)=>match r with
    | []=>none
    | c' :: r'=>if c'.toNat = 62 then some (.nd 85 [] d.tag [v],r') else none:=by
  unfold rdTyped
  dsimp only
  rw [if_neg oM,if_neg oM,if_pos (show (60 : UInt8).toNat = 60 from rfl)]
  cases rdField (rd (tys vs) n) x.2 s <;> rfl
 simp only [tyF] at cx_tg
 refine jB [(0,_),(1,_),(2,_),(3,_)] Tryz.func62 Tryz.ntmps62 fun B hok hB hW=>?_
 repeat' (first | refine jM ?_ | (refine jo ?_;first | refine jO fun _=>?_ | refine jAl rfl ?_ | refine jL fun _=>?_ | refine jC rfl rfl rfl ?_ | (refine jAt rfl ?_) | (refine jAf rfl ?_) | (refine c_rt rfl rfl rfl cx_rf rfl ?_)) | (refine k_gt rfl rfl (dTt ‹_›) ?_) | (refine k_gf rfl rfl (dFf oM) ?_) | (refine k_tt rfl rfl ?_) | (refine k_ff rfl rfl ?_))
 (refine k_any (s_any (id:=8) _ (fun _ h=>h) mixed ?_);refine jW 11 [1,2] (bts 13 6) ?_;(refine jG (bts 13 7) 0 rfl (g_ldA rfl rfl rfl rfl) ?_);(refine jG (bts 13 15) 3 rfl (g_ldA rfl rfl rfl rfl) ?_);refine x_all [4,9] kR dC ⟨?_,?_,trivial⟩;(focus (refine x_opg rfl rfl ?_;(refine c_pu rfl rfl rfl cx_tg rfl ?_;rintro _ ⟨nt,rfl,hnt⟩);refine jK (bts 13 31) ?_;refine jW 4 [5,6,7,8] (bts 13 511) ?_;refine jA 9 rfl ?_;(refine jL fun _=>?_);refine jK (bts 13 1023) ?_;refine jA 10 rfl ?_;(refine jC rfl rfl rfl ?_);refine jK (bts 13 2047) ?_;refine jW 0 [11,12] (bts 13 8191) ?_;refine jQ ?_));rotate_left 1;(focus (refine x_opg rfl rfl ?_;(refine jL fun _=>?_);refine jK (bts 13 527) ?_;refine jA 4 rfl ?_;(refine c_pu rfl rfl rfl cx_tg rfl ?_;rintro _ ⟨nt,rfl,hnt⟩);refine jK (bts 13 543) ?_;refine jW 3 [5,6,7,8] (bts 13 1023) ?_;refine jA 10 rfl ?_;(refine jC rfl rfl rfl ?_);refine jK (bts 13 2047) ?_;refine jW 0 [11,12] (bts 13 8191) ?_;refine jQ ?_));rotate_left 1)
 all_goals
  have hnone : ∀ {v : Value} {G' : Gh} {r : List UInt8},rdField (rd (tys vs) n) x.2 s = none → v = Tu [.pointer none,S r,Bo false] → ReadP (tys vs) (rdTyped (tys vs) (rd (tys vs) n) x.2 (60 :: s)) k v G':=fun h1 h2=>⟨_,_,_,h2,fun h=>(by cases h),fun _=>by rw [hRT,h1]⟩
  cases hb16 : (numOf (s.takeWhile isDg) 200).isSome && (fldT x.2.fields nt).isSome with
  | false =>
   have hno : rdField (rd (tys vs) n) x.2 s = none:=by
    cases hm : numOf (s.takeWhile isDg) 200 with
    | none=>exact field_none (.inl hm)
    | some m0 =>
     refine field_none (.inr ⟨m0,hm,?_⟩)
     rw [hm] at hb16
     rw [← hnt m0 hm]
     cases hf : fldT x.2.fields nt with
     | none=>rfl
     | some d=>rw [hf] at hb16;cases hb16
   repeat' (first | (refine jR ?_) | (refine jo ?_;(refine jAt rfl ?_)) | (refine k_gt rfl rfl rfl ?_) | (refine k_tt rfl rfl ?_))
   all_goals refine jZ (vs:=[_,_,_]) rfl ⟨rfl,rfl,rfl,trivial⟩ rfl ⟨Gh.le.refl _,rfl,?_⟩
   all_goals exact hnone hno rfl
  | true =>
   simp only [Bool.and_eq_true] at hb16
   obtain ⟨hb1,hb2⟩:=hb16
   obtain ⟨m0,hm⟩:=Option.isSome_iff_exists.1 hb1
   obtain ⟨d,hd⟩:=Option.isSome_iff_exists.1 hb2
   have hnm:=hnt m0 hm
   subst hnm
   rw [hd]
   simp only [Option.getD_some]
   have hdm : d ∈ x.2.fields:=List.mem_of_find?_eq_some hd
   have hwl:=while_len isDg s
   cases hdw : s.dropWhile isDg with
   | nil =>
    have hno : rdField (rd (tys vs) n) x.2 s = none:=field_noeq hm (fun s2 h=>by rw [hdw] at h;cases h)
    repeat' (first | (refine jR ?_) | (refine jo ?_;first | (refine jAt rfl ?_) | (refine jAf rfl ?_)) | (refine k_gt rfl rfl rfl ?_) | (refine k_gf rfl rfl rfl ?_) | (refine k_tt rfl rfl ?_))
    all_goals refine jZ (vs:=[_,_,_]) rfl ⟨rfl,rfl,rfl,trivial⟩ rfl ⟨Gh.le.refl _,rfl,?_⟩
    all_goals exact hnone hno rfl
   | cons e r2 =>
    have he20 : bt (e :: r2) (Int.toNat 0) = e.toNat:=bt_zero e r2
    have hel2 : (e :: r2).length = r2.length + 1:=rfl
    by_cases h61 : e.toNat = 61
    case neg =>
     have hno : rdField (rd (tys vs) n) x.2 s = none:=field_noeq hm (fun s2 h=>by rw [hdw] at h;simp only [List.cons.injEq] at h;exact h61 (by rw [h.1];rfl))
     repeat' (first | refine jM ?_ | (refine jo ?_;(refine jAf rfl ?_)) | (refine k_gf rfl rfl rfl ?_) | (refine k_tt rfl (dTt oM) ?_))
     all_goals refine jZ (vs:=[_,_,_]) rfl ⟨rfl,rfl,rfl,trivial⟩ rfl ⟨Gh.le.refl _,rfl,?_⟩
     all_goals exact hnone hno rfl
    have he61 : e = 61:=UInt8.toNat_inj.1 h61
    have hfs:=field_some (f:=rd (tys vs) n) (t:=x.2) (s:=s) hm hd (by rw [hdw,he61])
    have hdk : kindIn (tys vs) d.kind = true:=kind_in hw hxt oM hdm
    rw [hdw,List.length_cons] at hwl
    have cx_rd:=hR G d.kind r2 h hdk oM
    rw [← edn] at cx_rd
    repeat' (first | refine jM ?_ | (refine jo ?_;(refine jAf rfl ?_)) | (refine k_gf rfl rfl rfl ?_) | (refine k_ff rfl (dFf oM) ?_))
    (refine k_any (s_any (id:=11) _ (fun _ h=>h) mixed ?_);refine jW 10 [1,2,3,5,6] (bts 15 110) ?_;(refine jG (bts 15 111) 0 rfl (g_ldA rfl rfl rfl rfl) ?_);(refine jG (bts 15 127) 4 rfl (g_ld rfl rfl rfl) ?_);refine jA 7 rfl ?_;(refine c_fns rfl rfl rfl cx_rd rfl ?_;rintro _ G hle ⟨q1,r1,ok1,rfl,hyes,hno⟩;skip);refine jS (bts 15 255) ?_;refine jT 0 [8,9,10,11,12,13,14] (bts 15 32767) ?_;refine jQ ?_)
    cases ok1 with
    | false =>
     have hno2 : rdField (rd (tys vs) n) x.2 s = none:=by rw [hfs,hno rfl];rfl
     repeat' (first | (refine jR ?_) | (refine jo ?_;(refine jAt rfl ?_)) | (refine k_gt rfl rfl rfl ?_) | (refine k_tt rfl rfl ?_))
     all_goals refine jZ (vs:=[_,_,_]) rfl ⟨rfl,rfl,rfl,trivial⟩ rfl ⟨hle,rfl,?_⟩
     all_goals exact hnone hno2 rfl
    | true =>
     obtain ⟨w,wb,rfl,hf,hrep⟩:=hyes rfl
     have hfd : rdField (rd (tys vs) n) x.2 s = some ((d,w),r1):=by rw [hfs,hf];rfl
     rw [hfd] at hRT
     dsimp only at hRT
     cases r1 with
     | nil =>
      repeat' (first | (refine jR ?_) | (refine jo ?_;first | (refine jAt rfl ?_) | (refine jAf rfl ?_)) | (refine k_gt rfl rfl rfl ?_) | (refine k_gf rfl rfl rfl ?_) | (refine k_tt rfl rfl ?_))
      all_goals refine jZ (vs:=[_,_,_]) rfl ⟨rfl,rfl,rfl,trivial⟩ rfl ⟨hle,rfl,?_⟩
      all_goals (rw [oneOf_three];exact ⟨_,_,_,rfl,fun h=>(by cases h),fun _=>hRT⟩)
     | cons e3 r3 =>
      have he30 : bt (e3 :: r3) (Int.toNat 0) = e3.toNat:=bt_zero e3 r3
      have hel3 : (e3 :: r3).length = r3.length + 1:=rfl
      dsimp only at hRT
      by_cases h62 : e3.toNat = 62
      case neg =>
       rw [if_neg h62] at hRT
       repeat' (first | refine jM ?_ | (refine jo ?_;(refine jAf rfl ?_)) | (refine k_gf rfl rfl rfl ?_) | (refine k_tt rfl (dTt oM) ?_))
       all_goals refine jZ (vs:=[_,_,_]) rfl ⟨rfl,rfl,rfl,trivial⟩ rfl ⟨hle,rfl,?_⟩
       all_goals (rw [oneOf_three];exact ⟨_,_,_,rfl,fun h=>(by cases h),fun _=>hRT⟩)
      rw [if_pos h62] at hRT
      repeat' (first | refine jM ?_ | (refine jo ?_;(refine jAf rfl ?_)) | (refine k_gf rfl rfl rfl ?_) | (refine k_ff rfl (dFf oM) ?_))
      (refine k_any (s_any (id:=14) _ (fun _ h=>h) mixed ?_);refine jW 8 [0,1,4,8,9] (bts 13 787) ?_;(refine jG (bts 13 791) 2 rfl (g_ld rfl rfl rfl) ?_);refine x_all [3,5] kR dC ⟨?_,?_,trivial⟩;(focus (refine x_opg rfl rfl ?_;(refine jF fun _=>?_);refine jS (bts 13 799) ?_;refine jA 5 rfl ?_;(refine jF fun _=>?_);refine jS (bts 13 831) ?_;(refine jG (bts 13 895) 6 rfl (g_bld rfl rfl) ?_);refine jA 7 rfl ?_;(refine jO fun _=>?_);refine jS (bts 13 1023) ?_;refine jW 0 [10,11,12] (bts 13 8191) ?_;refine jQ ?_));rotate_left 1;(focus (refine x_opg rfl rfl ?_;(refine jF fun _=>?_);refine jS (bts 13 823) ?_;refine jA 3 rfl ?_;(refine jF fun _=>?_);refine jS (bts 13 831) ?_;(refine jG (bts 13 895) 6 rfl (g_bld rfl rfl) ?_);refine jA 7 rfl ?_;(refine jO fun _=>?_);refine jS (bts 13 1023) ?_;refine jW 0 [10,11,12] (bts 13 8191) ?_;refine jQ ?_));rotate_left 1)
      all_goals repeat' (refine jR ?_)
      all_goals
       rename_i y1 y2 y8
       refine Nx.sealC (b:=y1) fun G2 hG2 hs1=>?_
       refine Nx.sealC (b:=y2) fun G3 hG3 hs2=>?_
       refine Nx.sealC (b:=y8) fun G4 hG4 hsg=>?_
       refine jZ (vs:=[_,_,_]) rfl ⟨rfl,rfl,rfl,trivial⟩ rfl ⟨(((hle.trans hG2).trans hG3).trans hG4),rfl,?_⟩
       rw [oneOf_three]
       first | exact ⟨_,_,_,rfl,fun _=>⟨.nd 85 [] d.tag [w],y8,rfl,hRT,.uni k y8 y1 y2 wb 1 x.2 d w (Nat.le_refl _) ⟨hrf,hso⟩ hdm hsg (hs1.mono (hG3.trans hG4)) (hs2.mono hG4) (hrep.mono ((hG2.trans hG3).trans hG4))⟩,fun h=>(by cases h)⟩ | exact ⟨_,_,_,rfl,fun _=>⟨.nd 85 [] d.tag [w],y8,rfl,hRT,.uni k y8 y2 y1 wb 1 x.2 d w (Nat.le_refl _) ⟨hrf,hso⟩ hdm hsg (hs2.mono hG4) (hs1.mono (hG3.trans hG4)) (hrep.mono ((hG2.trans hG3).trans hG4))⟩,fun h=>(by cases h)⟩
theorem rd_nil {ts : List Ty} {n : Nat} {k : List UInt8} : rd ts n k [] = none:=by
 cases h : rd ts n k [] with
 | none=>rfl
 | some x=>have:=rd_short h;simp at this
theorem c_read0 {n : Nat} {u : Value} {vs : List TyX} {k s : List UInt8} (hc : s = [] ∨ n = 0) (hn : n ≤ 1000) : FnS Tryz.prog 34 [Ag [u],S s,S k,I (n : Nat)] G (ReadP (tys vs) (rd (tys vs) n k s) k):=by
 have hno : rd (tys vs) n k s = none:=by
  rcases hc with rfl | rfl
  ·exact rd_nil
  ·rfl
 by_cases hs : s = []
 ·refine jB [(0,_),(1,_),(2,_),(3,_)] Tryz.func34 Tryz.ntmps34 fun B hok hB hW=>?_
  repeat' (first | (refine jR ?_) | (refine jo ?_;first | refine jO fun _=>?_ | (refine jAt rfl ?_)) | (refine k_gt rfl rfl (dTt ‹_›) ?_) | (refine k_tt rfl rfl ?_))
  refine jZ (vs:=[_,_,_]) rfl ⟨rfl,rfl,rfl,trivial⟩ rfl ⟨Gh.le.refl _,rfl,?_⟩
  rw [oneOf_three]
  exact ⟨_,_,_,rfl,fun h=>(by cases h),fun _=>hno⟩
 ·have hn0 : n = 0:=by
   rcases hc with h | h
   ·exact absurd h hs
   ·exact h
  refine jB [(0,_),(1,_),(2,_),(3,_)] Tryz.func34 Tryz.ntmps34 fun B hok hB hW=>?_
  repeat' (first | (refine jR ?_) | (refine jo ?_;first | refine jO fun _=>?_ | (refine jAf rfl ?_)) | (refine k_gf rfl rfl (dFf ‹_›) ?_) | (refine k_tt rfl (dTt oM) ?_))
  refine jZ (vs:=[_,_,_]) rfl ⟨rfl,rfl,rfl,trivial⟩ rfl ⟨Gh.le.refl _,rfl,?_⟩
  rw [oneOf_three]
  exact ⟨_,_,_,rfl,fun h=>(by cases h),fun _=>hno⟩
theorem c_readL {n : Nat} {u : Value} {vs : List TyX} {k s : List UInt8} {e : UInt8} (hR : ReadC n u vs) (h : SchR G u vs) (hk : kindIn (tys vs) (91 :: k) = true) (hs : s.length ≤ 1999999) (hn : n ≤ 999) :
  FnS Tryz.prog 34 [Ag [u],S (e :: s),S (91 :: k),I (n + 1 : Nat)] G (ReadP (tys vs) (rd (tys vs) (n + 1) (91 :: k) (e :: s)) (91 :: k)):=by
 have hrd : rd (tys vs) (n + 1) (91 :: k) (e :: s) = rdList (rd (tys vs) n k) (e :: s):=by rw [rd];exact rdK_list rfl
 have he0 : bt (e :: s) (Int.toNat 0) = e.toNat:=bt_zero e s
 have hel : (e :: s).length = s.length + 1:=rfl
 have hk0 : bt (91 :: k) (Int.toNat 0) = 91:=bt_zero 91 k
 have hkl2 : (91 :: k).length = k.length + 1:=rfl
 by_cases h91 : e.toNat = 91
 ·obtain rfl:=u8_eq h91 dC
  have cx_ls:=c_listS (s:=s) hR h (kindIn_tail (.inl rfl) hk) oM oM
  refine jB [(0,_),(1,_),(2,_),(3,_)] Tryz.func34 Tryz.ntmps34 fun B hok hB hW=>?_
  repeat' (first | refine jM ?_ | (refine jo ?_;first | refine jO fun _=>?_ | (refine jAf rfl ?_)) | (refine k_gf rfl rfl rfl ?_) | (refine k_tt rfl rfl ?_) | (refine k_ff rfl rfl ?_) | (refine k_any (s_any (id:=7) _ (fun _ h=>h) mixed ?_);refine jW 8 [1,2,3,4] (bts 12 30) ?_;(refine jG (bts 12 31) 0 rfl (g_ldA rfl rfl rfl rfl) ?_);refine jA 5 rfl ?_;(refine c_fns rfl rfl rfl cx_ls rfl ?_;rintro _ G hle ⟨q1,r1,ok1,rfl,hyes,hno⟩;skip);refine jS (bts 12 63) ?_;refine jT 0 [6,7,8,9,10,11] (bts 12 4095) ?_;refine jQ ?_))
  refine jZ (vs:=[_,_,_]) rfl ⟨rfl,rfl,rfl,trivial⟩ rfl ⟨hle,rfl,?_⟩
  rw [oneOf_three,hrd]
  exact ⟨_,_,_,rfl,hyes,hno⟩
 ·have hno : rdList (rd (tys vs) n k) (e :: s) = none:=by unfold rdList;dsimp only;rw [if_neg h91]
  refine jB [(0,_),(1,_),(2,_),(3,_)] Tryz.func34 Tryz.ntmps34 fun B hok hB hW=>?_
  repeat' (first | refine jM ?_ | (refine jo ?_;first | refine jO fun _=>?_ | (refine jAf rfl ?_)) | (refine k_gf rfl rfl rfl ?_) | (refine k_tt rfl (by first | rfl | (refine decide_eq_true ?_;(omega))) ?_) | (refine k_ff rfl rfl ?_))
  refine jZ (vs:=[_,_,_]) rfl ⟨rfl,rfl,rfl,trivial⟩ rfl ⟨Gh.le.refl _,rfl,?_⟩
  rw [oneOf_three,hrd]
  exact ⟨_,_,_,rfl,fun h=>(by cases h),fun _=>hno⟩
theorem c_readO {n : Nat} {u : Value} {vs : List TyX} {k s : List UInt8} {e : UInt8} (hR : ReadC n u vs) (h : SchR G u vs) (hk : kindIn (tys vs) (63 :: k) = true) (hs : s.length ≤ 1999999) (hn : n ≤ 999) :
  FnS Tryz.prog 34 [Ag [u],S (e :: s),S (63 :: k),I (n + 1 : Nat)] G (ReadP (tys vs) (rd (tys vs) (n + 1) (63 :: k) (e :: s)) (63 :: k)):=by
 have edn : ((n + 1 : Nat) : Int) - 1 = (n : Nat):=oM
 have hrd : rd (tys vs) (n + 1) (63 :: k) (e :: s) = if e.toNat = 45 then some (.nd 63 [] 0 [],s) else if e.toNat = 43 then (rd (tys vs) n k s).map fun x=>(.nd 63 [] 0 [x.1],x.2) else none:=by
  rw [rd];unfold rdK
  dsimp only
  rw [if_neg (show ¬ (63 : UInt8).toNat = 91 by decide),if_pos (show (63 : UInt8).toNat = 63 from rfl)]
 have he0 : bt (e :: s) (Int.toNat 0) = e.toNat:=bt_zero e s
 have hel : (e :: s).length = s.length + 1:=rfl
 have hk0 : bt (63 :: k) (Int.toNat 0) = 63:=bt_zero 63 k
 have hkl2 : (63 :: k).length = k.length + 1:=rfl
 rw [hrd]
 by_cases h45 : e.toNat = 45
 ·rw [if_pos h45]
  refine jB [(0,_),(1,_),(2,_),(3,_)] Tryz.func34 Tryz.ntmps34 fun B hok hB hW=>?_
  repeat' (first | refine jM ?_ | (refine jo ?_;first | refine jO fun _=>?_ | (refine jAf rfl ?_)) | (refine k_gf rfl rfl rfl ?_) | (refine k_tt rfl (by first | rfl | (refine decide_eq_true ?_;(omega))) ?_) | (refine k_ff rfl rfl ?_) | (refine k_any (s_any (id:=10) _ (fun _ h=>h) mixed ?_);refine jW 5 [0,3,4] (bts 8 25) ?_;(refine jG (bts 8 27) 1 rfl (g_bld rfl rfl) ?_);refine jA 2 rfl ?_;(refine jO fun _=>?_);refine jS (bts 8 31) ?_;refine jT 0 [5,6,7] (bts 8 255) ?_;refine jQ ?_))
  rename_i y
  refine Nx.sealC (b:=y) fun G2 hG2 hsy=>?_
  refine jZ (vs:=[_,_,_]) rfl ⟨rfl,rfl,rfl,trivial⟩ rfl ⟨hG2,rfl,?_⟩
  rw [oneOf_three]
  exact ⟨_,_,_,rfl,fun _=>⟨_,y,rfl,rfl,.non k y hsy⟩,fun h=>(by cases h)⟩
 rw [if_neg h45]
 by_cases h43 : e.toNat = 43
 ·rw [if_pos h43]
  have cx_rd:=hR G k s h (kindIn_tail (.inr rfl) hk) oM
  rw [← edn] at cx_rd
  refine jB [(0,_),(1,_),(2,_),(3,_)] Tryz.func34 Tryz.ntmps34 fun B hok hB hW=>?_
  repeat' (first | refine jM ?_ | (refine jo ?_;first | refine jO fun _=>?_ | (refine jAf rfl ?_) | refine jV (g_bld rfl rfl) ?_ | refine jF fun _=>?_) | (refine k_gf rfl rfl rfl ?_) | (refine k_tt rfl rfl ?_) | (refine k_ff rfl (by first | rfl | (refine decide_eq_false ?_;(omega))) ?_) | (refine k_any (s_any (id:=13) _ (fun _ h=>h) mixed ?_);refine jW 9 [1,2,3,4,5,6] (bts 15 126) ?_;(refine jG (bts 15 127) 0 rfl (g_ldA rfl rfl rfl rfl) ?_);refine jA 7 rfl ?_;(refine c_fns rfl rfl rfl cx_rd rfl ?_;rintro _ G hle ⟨q1,r1,ok1,rfl,hyes,hno⟩;skip);refine jS (bts 15 255) ?_;refine jT 0 [8,9,10,11,12,13,14] (bts 15 32767) ?_;refine jQ ?_))
  rename_i y1 y8
  refine Nx.sealC (b:=y1) fun G2 hG2 hs1=>?_
  refine Nx.sealC (b:=y8) fun G3 hG3 hsg=>?_
  refine jZ (vs:=[_,_,_]) rfl ⟨rfl,rfl,rfl,trivial⟩ rfl ⟨((hle.trans hG2).trans hG3),rfl,?_⟩
  rw [oneOf_three]
  refine ⟨_,_,_,rfl,fun hb=>?_,fun hb=>by rw [hno hb];rfl⟩
  obtain ⟨w,wb,rfl,hf,hrep⟩:=hyes hb
  exact ⟨.nd 63 [] 0 [w],y8,rfl,by rw [hf];rfl,.opt k y8 y1 wb 1 w (Nat.le_refl _) hsg (hs1.mono hG3) (hrep.mono (hG2.trans hG3))⟩
 ·rw [if_neg h43]
  refine jB [(0,_),(1,_),(2,_),(3,_)] Tryz.func34 Tryz.ntmps34 fun B hok hB hW=>?_
  repeat' (first | refine jM ?_ | (refine jo ?_;first | refine jO fun _=>?_ | (refine jAf rfl ?_)) | (refine k_gf rfl rfl rfl ?_) | (refine k_tt rfl (by first | rfl | (refine decide_eq_true ?_;(omega))) ?_) | (refine k_ff rfl (by first | rfl | (refine decide_eq_false ?_;(omega))) ?_))
  refine jZ (vs:=[_,_,_]) rfl ⟨rfl,rfl,rfl,trivial⟩ rfl ⟨Gh.le.refl _,rfl,?_⟩
  rw [oneOf_three]
  exact ⟨_,_,_,rfl,fun h=>(by cases h),fun _=>rfl⟩
theorem c_readA {n : Nat} {u : Value} {vs : List TyX} {k s : List UInt8} {e : UInt8} {t : Ty} (hR : ReadC n u vs) (h : SchR G u vs) (hw : SchW (tys vs)) (hk : kindIn (tys vs) k = true) (hrf : refT (tys vs) k = some t) (hs : s.length ≤ 1999999) (hn : n ≤ 999) :
  FnS Tryz.prog 34 [Ag [u],S (e :: s),S k,I (n + 1 : Nat)] G (ReadP (tys vs) (rd (tys vs) (n + 1) k (e :: s)) k):=by
 obtain ⟨r,rfl⟩:=refT_64 hrf
 have hkk:=kindOk_kOk (kindIn_ok hk)
 have hrd : rd (tys vs) (n + 1) (64 :: r) (e :: s) = rdTyped (tys vs) (rd (tys vs) n) t (e :: s):=by
  rw [rd];unfold rdK
  dsimp only
  rw [if_neg (show ¬ (64 : UInt8).toNat = 91 by decide),if_neg (show ¬ (64 : UInt8).toNat = 63 by decide),hrf]
 have hvl : vs.length ≤ 8:=by have:=hw.len;unfold tys at this;simpa using this
 have href:=refV_ty vs (64 :: r)
 have cx_rf:=c_ref (k:=64 :: r) h oM hkk.1 oM
 rcases hr : refV vs (64 :: r) with _ | x
 ·rw [hr,hrf] at href;cases href
 rw [hr] at href cx_rf
 have htx : x.2 = t:=by rw [hrf] at href;exact Option.some.inj href
 subst htx
 have hx:=refV_mem hr
 have cx_na : FnS Tryz.prog 62 [Ag [u],S (e :: s),S (64 :: r),I (n + 1 : Nat)] G (ReadP (tys vs) (rdTyped (tys vs) (rd (tys vs) n) x.2 (e :: s)) (64 :: r)):=by
  have hso:=(hw.ty _ (List.mem_map_of_mem hx)).sort
  by_cases h1 : x.2.sort = 82 ∧ e.toNat = 123
  ·obtain rfl:=u8_eq h1.2 dC
   exact c_namR hR h hw hx hrf cx_rf h1.1 hs oM oM
  by_cases h2 : x.2.sort = 69 ∧ e.toNat = 35
  ·obtain rfl:=u8_eq h2.2 dC
   exact c_namE h hw hx hrf cx_rf h2.1 hs oM
  by_cases h3 : x.2.sort = 85 ∧ e.toNat = 60
  ·obtain rfl:=u8_eq h3.2 dC
   exact c_namU hR h hw hx hrf cx_rf h3.1 hs oM
  refine c_namX h.sl.one cx_rf ?_ oM oM
  rcases hso with h4 | h4 | h4 <;> omega
 have hel : (e :: s).length = s.length + 1:=rfl
 have hk0 : bt (64 :: r) (Int.toNat 0) = 64:=bt_zero 64 r
 have hkl2 : (64 :: r).length = r.length + 1:=rfl
 refine jB [(0,_),(1,_),(2,_),(3,_)] Tryz.func34 Tryz.ntmps34 fun B hok hB hW=>?_
 repeat' (first | refine jM ?_ | (refine jo ?_;first | refine jO fun _=>?_ | (refine jAf rfl ?_) | refine jAm rfl ?_ | (refine c_fns rfl rfl rfl cx_na rfl ?_;rintro _ G hle ⟨q1,r1,ok1,rfl,hyes,hno⟩;skip)) | (refine k_gf rfl rfl rfl ?_) | (refine k_tt rfl rfl ?_) | (refine k_ff rfl rfl ?_))
 refine jZ (vs:=[_,_,_]) rfl ⟨rfl,rfl,rfl,trivial⟩ rfl ⟨hle,rfl,?_⟩
 rw [oneOf_three,hrd]
 exact ⟨_,_,_,rfl,hyes,hno⟩
theorem c_readP {n : Nat} {u : Value} {vs : List TyX} {s : List UInt8} {c e : UInt8} (hu : u.oneCell' = true) (hc : c = 110 ∨ c = 116 ∨ c = 102) (hr : refT (tys vs) [c] = none) (hs : s.length ≤ 1999999) (hn : n ≤ 999) :
  FnS Tryz.prog 34 [Ag [u],S (e :: s),S [c],I (n + 1 : Nat)] G (ReadP (tys vs) (rd (tys vs) (n + 1) [c] (e :: s)) [c]):=by
 have hrd:=rd_plain (ts:=tys vs) (n:=n) (s:=e :: s) hc hr
 have hel : (e :: s).length = s.length + 1:=rfl
 have cx_pl : FnS Tryz.prog 63 [Ag [u],S (e :: s),S [c]] G (ReadP (tys vs) (rd (tys vs) (n + 1) [c] (e :: s)) [c]):=by
  rw [hrd]
  rcases hc with rfl | rfl | rfl
  ·rw [if_pos rfl];exact c_plainN hu oM
  ·rw [if_neg dC,if_pos rfl];exact c_plainT hu oM (by simp)
  ·rw [if_neg dC,if_neg dC];exact c_plainF hu oM
 clear hrd
 rcases hc with rfl | rfl | rfl
 all_goals
  refine jB [(0,_),(1,_),(2,_),(3,_)] Tryz.func34 Tryz.ntmps34 fun B hok hB hW=>?_
  repeat' (first | (refine jX ?_) | (refine jo ?_;first | refine jO fun _=>?_ | (refine jAf rfl ?_) | refine jAm rfl ?_ | (refine c_fns rfl rfl rfl cx_pl rfl ?_;rintro _ G hle ⟨q1,r1,ok1,rfl,hyes,hno⟩;skip)) | (refine k_gf rfl rfl rfl ?_) | (refine k_ff rfl rfl ?_))
  refine jZ (vs:=[_,_,_]) rfl ⟨rfl,rfl,rfl,trivial⟩ rfl ⟨hle,rfl,?_⟩
  rw [oneOf_three]
  exact ⟨_,_,_,rfl,hyes,hno⟩
theorem readC_all {u : Value} {vs : List TyX} (hw : SchW (tys vs)) : ∀ n,n ≤ 1000 → ReadC n u vs
 | 0,_=>fun G k s _ _ _=>c_read0 (.inr rfl) oM
 | n + 1,hn=>fun G k s h hk hs=>by
  have hR:=readC_all (u:=u) (vs:=vs) hw n oM
  match s,hs with
  | [],_=>exact c_read0 (.inl rfl) hn
  | e :: s,hs =>
   simp only [List.length_cons] at hs
   match k,hk with
   | [],hk=>cases hk
   | c :: k,hk =>
    by_cases h1 : c.toNat = 91
    ·obtain rfl:=u8_eq h1 dC
     exact c_readL hR h hk oM oM
    by_cases h2 : c.toNat = 63
    ·obtain rfl:=u8_eq h2 dC
     exact c_readO hR h hk oM oM
    have h91 : ¬ (c.toNat = 91 ∨ c.toNat = 63):=fun h=>by rcases h with h | h <;> omega
    cases hr : refT (tys vs) (c :: k) with
    | some t=>exact c_readA hR h hw hk hr oM oM
    | none =>
     rcases plain_kinds hk h91 hr with e1 | e1 | e1
     all_goals
      simp only [List.cons.injEq] at e1
      obtain ⟨rfl,rfl⟩:=e1
      exact c_readP h.sl.one (by simp) hr oM oM
theorem c_l4Of0 {s k w : List UInt8} (h : s.length ≤ 1048576 ∧ k.length ≤ 1048576 ∧ w.length ≤ 1048576) (hno : givenV s k w = none) : FnS Tryz.prog 31 [S s,S k,S w] G (fun v _=>∃ u q,v = Tu [u,.pointer q,Bo false]):=by
 by_cases hk : kindS s k = true
 case neg =>
  have hk2 : kindS s k = false:=by simpa using hk
  have cx_lk1 : ∀ G,FnS Tryz.prog 48 [S s,S k] G (fun v _=>∃ u,v = Tu [u,Bo false]):=fun G=>by
   refine (c_l3Kind (G:=G) (s:=s) (k:=k) oM oM).mono ?_
   rintro v G' L' ⟨h1,h2,u,vs,rfl,_⟩
   exact ⟨h1,h2,u,by rw [hk2]⟩
  refine jB [(0,_),(1,_),(2,_)] Tryz.func31 Tryz.ntmps31 fun B hok hB hW=>?_
  repeat' (first | (refine jR ?_) | (refine jo ?_;first | (refine jAt rfl ?_) | (refine c_fns rfl rfl rfl (cx_lk1 _) rfl ?_;rintro _ G hle ⟨u1,rfl⟩;skip)) | (refine k_gt rfl rfl rfl ?_) | (refine k_tt rfl rfl ?_))
  all_goals refine jZ (vs:=[_,_,_]) rfl ⟨rfl,rfl,rfl,trivial⟩ rfl ⟨hle,rfl,?_⟩
  all_goals exact ⟨_,_,rfl⟩
 obtain ⟨ts,hs,hki,hw⟩:=kindS_some2 hk
 have hvo : valOf ts k w = none:=by unfold givenV at hno;rw [hs] at hno;dsimp only at hno;rwa [if_pos hki] at hno
 have cx_lka : ∀ G,FnS Tryz.prog 48 [S s,S k] G (fun v G'=>∃ a c vs,v = Tu [.slice a vs.length c,Bo true] ∧ SchR G' (.slice a vs.length c) vs ∧ tys vs = ts):=fun G=>by
  refine (c_l3Kind (G:=G) (s:=s) (k:=k) oM oM).mono ?_
  rintro v G' L' ⟨h1,h2,u,vs,rfl,h4,_,h6⟩
  obtain ⟨_,⟨rfl,h0⟩ | ⟨b,o,cap,rfl,_,_⟩⟩:=h4.sl
  ·exact ⟨h1,h2,none,0,vs,by rw [hk,h0],by rw [h0];exact h4,h6 ts hs hki⟩
  ·exact ⟨h1,h2,_,cap,vs,by rw [hk],h4,h6 ts hs hki⟩
 by_cases hl : w.length ≤ 400
 case neg =>
  refine jB [(0,_),(1,_),(2,_)] Tryz.func31 Tryz.ntmps31 fun B hok hB hW=>?_
  repeat' (first | (refine jR ?_) | (refine jo ?_;first | (refine jAf rfl ?_) | (refine c_fns rfl rfl rfl (cx_lka _) rfl ?_;rintro _ G hle ⟨av1,cv1,vs1,rfl,hR1,hT1⟩;skip)) | (refine k_gf rfl rfl rfl ?_) | (refine k_tt rfl (dTt oM) ?_))
  all_goals refine jZ (vs:=[_,_,_]) rfl ⟨rfl,rfl,rfl,trivial⟩ rfl ⟨hle,rfl,?_⟩
  all_goals exact ⟨_,_,rfl⟩
 refine jB [(0,_),(1,_),(2,_)] Tryz.func31 Tryz.ntmps31 fun B hok hB hW=>?_
 repeat' (first | (refine jR ?_) | (refine jo ?_;first | (refine jAf rfl ?_) | refine jV (g_bld rfl rfl) ?_ | (refine c_fns rfl rfl rfl (cx_lka _) rfl ?_;rintro _ G hle ⟨av1,cv1,vs1,rfl,hR1,hT1⟩;skip)) | (refine k_gf rfl rfl rfl ?_) | (refine k_ff rfl (dFf oM) ?_))
 have hR:=readC_all (u:=.slice av1 vs1.length cv1) (vs:=vs1) (by rw [hT1];exact hw) 12 oM G k w hR1 (by rw [hT1];exact hki) oM
 obtain ⟨f,hf⟩ : ∃ f,f = rd (tys vs1) 12 k w:=⟨_,rfl⟩
 rw [← hf] at hR
 have cx_rd:=hR
 clear hR
 repeat' (first | (refine jR ?_) | (refine jo ?_;first | (refine jAt rfl ?_) | (refine jAf rfl ?_) | (refine c_fns rfl rfl rfl cx_rd rfl ?_;rintro _ G hle ⟨q1,r1,ok1,rfl,hyes,hno⟩;skip)) | refine k_gb rfl rfl (fun _=>?_) (fun _=>?_))
 all_goals rename_i hok
 ·have hr : decide (r1 = []) = false:=decide_eq_false fun h=>by
   obtain ⟨v,b,_,h2,_⟩:=hyes hok
   unfold valOf at hvo
   rw [if_pos hl,← hT1,← hf,h2,h] at hvo
   cases hvo
  refine jZ (vs:=[_,_,_]) rfl ⟨rfl,rfl,rfl,trivial⟩ rfl ⟨(Gh.le.trans aS hle),rfl,?_⟩
  exact ⟨_,_,by rw [hr];rfl⟩
 ·refine jZ (vs:=[_,_,_]) rfl ⟨rfl,rfl,rfl,trivial⟩ rfl ⟨(Gh.le.trans aS hle),rfl,?_⟩
  exact ⟨_,_,rfl⟩
abbrev tTxL : TypeId:=9
def LvC (G : Gh) (b : Nat) (v : V) : Prop:=∀ (q : List Int) (a : Option Addr) (m cap : Nat) (out : List (List UInt8)),m = out.length → m + v.tot ≤ 100000 → (∀ n ∈ q,0 ≤ n ∧ n ≤ 999999) → q.length + v.tot ≤ 100000 →
 FnG Tryz.prog 44 [Pt b 0,S (pathText q),.slice a m cap] G [.acc (.slice a m cap) tTxL 1 m (rows strF out)]
  (fun r L'=>∃ a' cap',r = .slice a' (m + v.size) cap' ∧ L' = [.acc (.slice a' (m + v.size) cap') tTxL 1 (m + v.size) (rows strF (out ++ lvT q v))])
theorem c_leavesS {ts : List Ty} (hw : SchW ts) {v : V} {k : List UInt8} {b : Nat} (h : RepR G ts v k b) : LvC G b v:=by
 induction h with
 | leaf w x k tx b h1 h2 =>
  intro q a m cap out hm hto hqn hql
  have hn82 : ¬ tx = [82]:=by
   rcases h2 with ⟨_,_,rfl,h⟩ | ⟨_,_,rfl⟩ | ⟨_,_,rfl,h⟩
   ·rintro rfl;exact absurd (h 82 (by simp)) dC
   ·simp
   ·rcases h with rfl | rfl <;> decide
  have hrow : rows strF out ++ [S (pathText q)] = rows strF (out ++ [pathText q]):=(rows_snoc strF out (pathText q)).symm
  have key : FnG Tryz.prog 44 [Pt b 0,S (pathText q),.slice a m cap] G [.acc (.slice a m cap) tTxL 1 m (rows strF out)]
    (fun r L'=>∃ a' cap',r = .slice a' (m + 1) cap' ∧ L' = [.acc (.slice a' (m + 1) cap') tTxL 1 (m + 1) (rows strF (out ++ [pathText q]))]):=by
   rcases h2 with ⟨rfl,rfl,_⟩ | ⟨rfl,rfl,_⟩ | ⟨rfl,rfl,_⟩
   all_goals
    refine jH [(0,_),(1,_),(2,_)] Tryz.func44 Tryz.ntmps44 fun B hB hW=>?_
    repeat' (first | (refine jX ?_) | (refine jo ?_;first | refine jV (g_ldS rfl rfl aS rfl rfl) ?_ | refine jV (g_lenL rfl) ?_ | (refine jAf rfl ?_) | refine jF fun _=>?_ | (refine c_apX rfl rfl rfl rfl rfl rfl rfl rfl rfl oM fun _ _=>?_)) | (refine k_gf rfl rfl (by first | rfl | (refine decide_eq_false ?_;(assumption))) ?_) | (refine k_tt rfl rfl ?_) | (refine k_ff rfl rfl ?_))
    rw [hrow]
    refine k_rr (vs:=[_]) rfl ⟨rfl,trivial⟩ rfl sB ⟨rfl,_,_,rfl,rfl⟩
  have hwl : leafW w true = true:=by rcases h2 with ⟨rfl,_⟩ | ⟨rfl,_⟩ | ⟨rfl,_⟩ <;> rfl
  have hsz : V.size (.nd w x 0 []) = 1:=size_leaf hwl
  rw [hsz,lvT_leaf hwl]
  exact key
 | lst k b ks bs a' c h1 h2 h3 hk ih =>
  intro q a m cap out hm hto hqn hql
  rw [nd_tot] at hto hql
  have hsz : V.size (.nd 91 [] 0 ks) = V.sizes ks:=by rw [V.size,if_neg (by unfold leafW;simp)]
  have hst:=sizes_totL ks
  have hkl:=tots_len ks
  rw [hsz,lvT_nd (leafW_91) dC]
  have hk0 : bt (91 :: k) (Int.toNat 0) = 91:=bt_zero 91 k
  have hkl2 : (91 :: k).length = k.length + 1:=rfl
  by_cases hne : ks.length = 0
  ·obtain rfl : ks = []:=List.length_eq_zero_iff.1 hne
   rw [lvS_nil,List.append_nil]
   refine jH [(0,_),(1,_),(2,_)] Tryz.func44 Tryz.ntmps44 fun B hB hW=>?_
   repeat' (first | refine jM ?_ | (refine jo ?_;first | refine jV (g_ldS rfl rfl aS rfl rfl) ?_ | refine jV (g_lenL rfl) ?_ | (refine jAt rfl ?_)) | (refine k_gt rfl rfl rfl ?_) | (refine k_tt rfl rfl ?_))
   refine k_rr (vs:=[_]) rfl ⟨rfl,trivial⟩ rfl sRr ⟨rfl,_,_,rfl,rfl⟩
  obtain ⟨kb,ko,kc,e,hs⟩:=h2.expl oM
  simp only [Value.slice.injEq] at e
  obtain ⟨rfl,-,rfl⟩:=e
  refine jH [(0,_),(1,_),(2,_)] Tryz.func44 Tryz.ntmps44 fun B hB hW=>?_
  repeat' (first | (refine jR ?_) | (refine jo ?_;first | refine jV (g_ldS rfl rfl aS rfl rfl) ?_ | refine jV (g_lenL rfl) ?_) | (refine k_ff rfl (dFf oM) ?_))
  rw [show rows strF out = rows strF (out ++ lvS q (ks.take 0) 91 0) by rw [List.take_zero,lvS_nil,List.append_nil]]
  refine k_loop (ι:=Nat × Option Addr × Nat) (fun i=>i.1 ≤ ks.length) (fun i=>[(0,Pt b 0),(1,S (pathText q)),(2,.slice i.2.1 (m + V.sizes (ks.take i.1)) i.2.2),(7,I i.1)]) (fun _=>G) (fun i=>[.acc (.slice i.2.1 (m + V.sizes (ks.take i.1)) i.2.2) tTxL 1 (m + V.sizes (ks.take i.1)) (rows strF (out ++ lvS q (ks.take i.1) 91 0))]) (fun i=>ks.length - i.1) (0,a,cap) ?_ tU rfl sRr (fun i Hi=>?_)
  ·exact Nat.zero_le _
  obtain ⟨i,a,cap⟩:=i
  dsimp only at Hi ⊢
  by_cases hi : i < ks.length
  ·have hti:=tot_nth (ks:=ks) hi
   have hsn : m + V.sizes (ks.take (i + 1)) = m + V.sizes (ks.take i) + (nth ks i).size:=by rw [take_nth oM,sizes_snocL,Nat.add_assoc]
   have hls : out ++ lvS q (ks.take (i + 1)) 91 0 = out ++ lvS q (ks.take i) 91 0 ++ lvT (q ++ [(i : Int)]) (nth ks i):=by rw [take_nth oM,lvS_snoc,show stepNo 91 0 (ks.take i).length (nth ks i) = (i : Int) by rw [List.length_take,Nat.min_eq_left oM];rfl,List.append_assoc]
   have hlen : m + V.sizes (ks.take i) = (out ++ lvS q (ks.take i) 91 0).length:=by rw [List.length_append,lvS_len,hm]
   have hs1:=sizes_totL (ks.take i)
   have htk:=tots_take ks i
   have htk1:=tots_take ks (i + 1)
   rw [take_nth (by (omega)),tots_app] at htk1
   simp only [V.tots] at htk1
   have hxi : nth bs i = nth bs i:=rfl
   have hpl:=pathText_len hqn
   have hq2 : ∀ n ∈ q ++ [(i : Int)],0 ≤ n ∧ n ≤ 999999:=snoc_in hqn ⟨oM,oM⟩
   have hdl:=decI_6 (hq2 (i : Int) (by simp)).2
   by_cases hq : q = []
   ·have hp : pathText q = []:=path_nil.2 hq
    have cx_lv : FnG Tryz.prog 44 [Pt (nth bs i) 0,S (decI (i : Int)),.slice a (m + V.sizes (ks.take i)) cap] G [.acc (.slice a (m + V.sizes (ks.take i)) cap) tTxL 1 (m + V.sizes (ks.take i)) (rows strF (out ++ lvS q (ks.take i) 91 0))]
      (fun r L'=>∃ a' cap',r = .slice a' (m + V.sizes (ks.take i) + (nth ks i).size) cap' ∧ L' = [.acc (.slice a' (m + V.sizes (ks.take i) + (nth ks i).size) cap') tTxL 1 (m + V.sizes (ks.take i) + (nth ks i).size) (rows strF (out ++ lvS q (ks.take i) 91 0 ++ lvT (q ++ [(i : Int)]) (nth ks i)))]):=by
     subst hq
     exact ih i hi [(i : Int)] a (m + V.sizes (ks.take i)) cap _ hlen oM hq2 (by simp only [List.length_append,List.length_singleton];omega)
    clear hq
    repeat' (first | refine jM ?_ | (refine jo ?_;first | refine jV (g_ldS rfl rfl aS rfl rfl) ?_ | (refine jV (g_ldR1x rfl rfl aS ?_ aS rfl) ?_;(focus ((omega);done))) | refine jV (g_lenL rfl) ?_ | (refine jV (g_iaddrN rfl rfl oM) ?_) | (refine c_rt rfl rfl rfl (c_l6Dec oM) rfl ?_) | (refine c_accg rfl rfl rfl cx_lv rfl ?_;rintro _ _ ⟨av,cv,rfl,rfl⟩;dsimp only [zA,fA])) | (refine k_tt rfl (dTt oM) ?_) | (refine k_ff rfl ?_ ?_;(focus ((first | rfl | (simp [*];done));done))))
    exact k_rd (i + 1,av,cv) (by dsimp only;omega) (by dsimp only;omega) (by dsimp only;rw [hsn];repeat (first | exact trivial | refine ⟨rfl,?_⟩)) rfl (by dsimp only;rw [hsn,hls];repeat (exact List.Sublist.refl _))
   ·have hp : pathText q ≠ []:=fun h=>hq (path_nil.1 h)
    have cx_lv : FnG Tryz.prog 44 [Pt (nth bs i) 0,S (pathText q ++ [47] ++ decI (i : Int)),.slice a (m + V.sizes (ks.take i)) cap] G [.acc (.slice a (m + V.sizes (ks.take i)) cap) tTxL 1 (m + V.sizes (ks.take i)) (rows strF (out ++ lvS q (ks.take i) 91 0))]
      (fun r L'=>∃ a' cap',r = .slice a' (m + V.sizes (ks.take i) + (nth ks i).size) cap' ∧ L' = [.acc (.slice a' (m + V.sizes (ks.take i) + (nth ks i).size) cap') tTxL 1 (m + V.sizes (ks.take i) + (nth ks i).size) (rows strF (out ++ lvS q (ks.take i) 91 0 ++ lvT (q ++ [(i : Int)]) (nth ks i)))]):=by
     rw [path_snoc hq]
     exact ih i hi (q ++ [(i : Int)]) a (m + V.sizes (ks.take i)) cap _ hlen oM hq2 (by simp only [List.length_append,List.length_singleton];omega)
    clear hq
    repeat' (first | (refine jX ?_) | (refine jo ?_;first | refine jV (g_ldS rfl rfl aS rfl rfl) ?_ | (refine jV (g_ldR1x rfl rfl aS ?_ aS rfl) ?_;(focus ((omega);done))) | refine jV (g_lenL rfl) ?_ | (refine jV (g_iaddrN rfl rfl oM) ?_) | (refine c_rt rfl rfl rfl (c_l6Dec oM) rfl ?_) | (refine c_accg rfl rfl rfl cx_lv rfl ?_;rintro _ _ ⟨av,cv,rfl,rfl⟩;dsimp only [zA,fA])) | (refine k_tt rfl (by refine decide_eq_true ?_;first | assumption | omega) ?_) | (refine k_ff rfl rfl ?_))
    exact k_rd (i + 1,av,cv) (by dsimp only;omega) (by dsimp only;omega) (by dsimp only;rw [hsn];repeat (first | exact trivial | refine ⟨rfl,?_⟩)) rfl (by dsimp only;rw [hsn,hls];repeat (exact List.Sublist.refl _))
  ·obtain rfl : i = ks.length:=oM
   rw [show ks.take (ks.length) = ks from List.take_of_length_le oM]
   repeat' (first | (refine jR ?_) | (refine jo ?_;first | refine jV (g_ldS rfl rfl aS rfl rfl) ?_ | refine jV (g_lenL rfl) ?_) | (refine k_ff rfl (dFf oM) ?_))
   refine k_rr (vs:=[_]) rfl ⟨rfl,trivial⟩ rfl sRr ⟨rfl,_,_,rfl,rfl⟩
 | non k b h1 =>
  intro q a m cap out hm hto hqn hql
  have hk0 : bt (63 :: k) (Int.toNat 0) = 63:=bt_zero 63 k
  have hkl2 : (63 :: k).length = k.length + 1:=rfl
  have hrow : rows strF out ++ [S (pathText q)] = rows strF (out ++ [pathText q]):=(rows_snoc strF out (pathText q)).symm
  have hsz : V.size (.nd 63 [] 0 []) = 1:=size_leaf rfl
  rw [nd_tot] at hto hql
  rw [hsz,lvT_leaf rfl]
  refine jH [(0,_),(1,_),(2,_)] Tryz.func44 Tryz.ntmps44 fun B hB hW=>?_
  repeat' (first | refine jM ?_ | (refine jo ?_;first | refine jV (g_ldS rfl rfl aS rfl rfl) ?_ | refine jV (g_lenL rfl) ?_ | (refine jAf rfl ?_) | refine jF fun _=>?_ | (refine c_apX rfl rfl rfl rfl rfl rfl rfl rfl rfl oM fun _ _=>?_)) | (refine k_gf rfl rfl rfl ?_) | (refine k_tt rfl rfl ?_) | (refine k_ff rfl rfl ?_))
  rw [hrow]
  refine k_rr (vs:=[_]) rfl ⟨rfl,trivial⟩ rfl sB ⟨rfl,_,_,rfl,rfl⟩
 | opt k b kb b' cc v h0 h1 h2 h3 ih =>
  intro q a m cap out hm hto hqn hql
  simp only [nd_tot,V.tots] at hto hql
  have hk0 : bt (63 :: k) (Int.toNat 0) = 63:=bt_zero 63 k
  have hkl2 : (63 :: k).length = k.length + 1:=rfl
  have hsz : V.size (.nd 63 [] 0 [v]) = V.sizes [v]:=by rw [V.size,if_neg (by unfold leafW;simp)]
  rw [hsz,lvT_nd (by simp [leafW]) dC]
  refine jH [(0,_),(1,_),(2,_)] Tryz.func44 Tryz.ntmps44 fun B hB hW=>?_
  repeat' (first | (refine jR ?_) | (refine jo ?_;first | refine jV (g_ldS rfl rfl aS rfl rfl) ?_ | refine jV (g_lenL rfl) ?_) | (refine k_ff rfl rfl ?_))
  rw [show rows strF out = rows strF (out ++ lvS q ([v].take 0) 63 0) by rw [List.take_zero,lvS_nil,List.append_nil]]
  refine k_loop (ι:=Nat × Option Addr × Nat) (fun i=>i.1 ≤ 1) (fun i=>[(0,Pt b 0),(1,S (pathText q)),(2,.slice i.2.1 (m + V.sizes ([v].take i.1)) i.2.2),(7,I i.1)]) (fun _=>G) (fun i=>[.acc (.slice i.2.1 (m + V.sizes ([v].take i.1)) i.2.2) tTxL 1 (m + V.sizes ([v].take i.1)) (rows strF (out ++ lvS q ([v].take i.1) 63 0))]) (fun i=>1 - i.1) (0,a,cap) ?_ tU rfl sRr (fun i Hi=>?_)
  ·exact Nat.zero_le _
  obtain ⟨i,a,cap⟩:=i
  dsimp only at Hi ⊢
  by_cases hi : i < 1
  ·obtain rfl : i = 0:=oM
   have hsn : m + V.sizes ([v].take (0 + 1)) = m + V.sizes ([v].take 0) + (v).size:=by rw [take_nth oM,sizes_snocL,show nth [v] 0 = v from rfl,Nat.add_assoc]
   have hls : out ++ lvS q ([v].take (0 + 1)) 63 0 = out ++ lvS q ([v].take 0) 63 0 ++ lvT (q ++ [((0 : Nat) : Int)]) (v):=by rw [take_nth oM,lvS_snoc,show stepNo 63 0 (List.take 0 [v]).length (nth [v] 0) = ((0 : Nat) : Int) from rfl,show nth [v] 0 = v from rfl,List.append_assoc]
   have hlen : m + V.sizes ([v].take 0) = (out ++ lvS q ([v].take 0) 63 0).length:=by rw [List.length_append,lvS_len,hm]
   have hs1:=sizes_totL ([v].take 0)
   have htk:=tots_take [v] 0
   have htk1:=tots_take [v] (0 + 1)
   rw [take_nth (by (omega)),tots_app] at htk1
   simp only [V.tots] at htk1
   have hnv : (nth [v] 0).tot = v.tot:=rfl
   have htv : V.tots [v] = v.tot:=by simp [V.tots]
   have hpl:=pathText_len hqn
   have hq2 : ∀ n ∈ q ++ [((0 : Nat) : Int)],0 ≤ n ∧ n ≤ 999999:=snoc_in hqn ⟨oM,oM⟩
   have hdl:=decI_6 (hq2 ((0 : Nat) : Int) (by simp)).2
   by_cases hq : q = []
   ·have hp : pathText q = []:=path_nil.2 hq
    have cx_lv : FnG Tryz.prog 44 [Pt (b') 0,S (decI ((0 : Nat) : Int)),.slice a (m + V.sizes ([v].take 0)) cap] G [.acc (.slice a (m + V.sizes ([v].take 0)) cap) tTxL 1 (m + V.sizes ([v].take 0)) (rows strF (out ++ lvS q ([v].take 0) 63 0))]
      (fun r L'=>∃ a' cap',r = .slice a' (m + V.sizes ([v].take 0) + (v).size) cap' ∧ L' = [.acc (.slice a' (m + V.sizes ([v].take 0) + (v).size) cap') tTxL 1 (m + V.sizes ([v].take 0) + (v).size) (rows strF (out ++ lvS q ([v].take 0) 63 0 ++ lvT (q ++ [((0 : Nat) : Int)]) (v)))]):=by
     subst hq
     exact ih [((0 : Nat) : Int)] a (m + V.sizes ([v].take 0)) cap _ hlen oM hq2 (by simp only [List.length_append,List.length_singleton];omega)
    clear hq
    repeat' (first | refine jM ?_ | (refine jo ?_;first | refine jV (g_ldS rfl rfl aS rfl rfl) ?_ | refine jV (g_lenL rfl) ?_ | (refine jV (g_iaddrN rfl rfl oM) ?_) | (refine c_rt rfl rfl rfl (c_l6Dec oM) rfl ?_) | (refine c_accg rfl rfl rfl cx_lv rfl ?_;rintro _ _ ⟨av,cv,rfl,rfl⟩;dsimp only [zA,fA])) | (refine k_tt rfl rfl ?_) | (refine k_ff rfl ?_ ?_;(focus ((first | rfl | (simp [*];done));done))))
    exact k_rd (0 + 1,av,cv) (by dsimp only;omega) (by dsimp only;omega) (by dsimp only;rw [hsn];repeat (first | exact trivial | refine ⟨rfl,?_⟩)) rfl (by dsimp only;rw [hsn,hls];repeat (exact List.Sublist.refl _))
   ·have hp : pathText q ≠ []:=fun h=>hq (path_nil.1 h)
    have cx_lv : FnG Tryz.prog 44 [Pt (b') 0,S (pathText q ++ [47] ++ decI ((0 : Nat) : Int)),.slice a (m + V.sizes ([v].take 0)) cap] G [.acc (.slice a (m + V.sizes ([v].take 0)) cap) tTxL 1 (m + V.sizes ([v].take 0)) (rows strF (out ++ lvS q ([v].take 0) 63 0))]
      (fun r L'=>∃ a' cap',r = .slice a' (m + V.sizes ([v].take 0) + (v).size) cap' ∧ L' = [.acc (.slice a' (m + V.sizes ([v].take 0) + (v).size) cap') tTxL 1 (m + V.sizes ([v].take 0) + (v).size) (rows strF (out ++ lvS q ([v].take 0) 63 0 ++ lvT (q ++ [((0 : Nat) : Int)]) (v)))]):=by
     rw [path_snoc hq]
     exact ih (q ++ [((0 : Nat) : Int)]) a (m + V.sizes ([v].take 0)) cap _ hlen oM hq2 (by simp only [List.length_append,List.length_singleton];omega)
    clear hq
    repeat' (first | (refine jX ?_) | (refine jo ?_;first | refine jV (g_ldS rfl rfl aS rfl rfl) ?_ | refine jV (g_lenL rfl) ?_ | (refine jV (g_iaddrN rfl rfl oM) ?_) | (refine c_rt rfl rfl rfl (c_l6Dec oM) rfl ?_) | (refine c_accg rfl rfl rfl cx_lv rfl ?_;rintro _ _ ⟨av,cv,rfl,rfl⟩;dsimp only [zA,fA])) | (refine k_tt rfl (by first | rfl | (refine decide_eq_true ?_;(assumption))) ?_) | (refine k_ff rfl rfl ?_))
    exact k_rd (0 + 1,av,cv) (by dsimp only;omega) (by dsimp only;omega) (by dsimp only;rw [hsn];repeat (first | exact trivial | refine ⟨rfl,?_⟩)) rfl (by dsimp only;rw [hsn,hls];repeat (exact List.Sublist.refl _))
  ·obtain rfl : i = 1:=oM
   rw [show [v].take (1) = [v] from List.take_of_length_le (by simp)]
   repeat' (first | (refine jR ?_) | (refine jo ?_;first | refine jV (g_ldS rfl rfl aS rfl rfl) ?_ | refine jV (g_lenL rfl) ?_) | (refine k_ff rfl rfl ?_))
   refine k_rr (vs:=[_]) rfl ⟨rfl,trivial⟩ rfl sRr ⟨rfl,_,_,rfl,rfl⟩
 | recd k b t fs bs a1 a2 c c2 h0 h1 h2 h3 h4 h5 hk ih =>
  intro q a m cap out hm hto hqn hql
  obtain ⟨r,rfl⟩:=refT_64 h0.1
  rw [nd_tot] at hto hql
  have hml : (fs.map (fun p : Fld × V=>V.nd 61 [] p.1.tag [p.2])).length = fs.length:=by simp
  have hnt : ∀ i,i < fs.length → nth (fs.map (fun p : Fld × V=>V.nd 61 [] p.1.tag [p.2])) i = V.nd 61 [] (nth fs i).1.tag [(nth fs i).2]:=fun i hi=>by rw [nth_eq (by simpa using hi),nth_eq hi];simp
  generalize hKS : fs.map (fun p : Fld × V=>V.nd 61 [] p.1.tag [p.2]) = KS at *
  have hsz : V.size (.nd 82 [] 0 KS) = V.sizes KS:=by rw [V.size,if_neg (by unfold leafW;simp)]
  rw [hsz,lvT_nd leafW_82 dC]
  have hk0 : bt (64 :: r) (Int.toNat 0) = 64:=bt_zero 64 r
  have hkl2 : (64 :: r).length = r.length + 1:=rfl
  have hst:=sizes_totL KS
  have hkl:=tots_len KS
  by_cases hne : fs.length = 0
  ·obtain rfl : KS = []:=List.length_eq_zero_iff.1 oM
   rw [lvS_nil,List.append_nil]
   refine jH [(0,_),(1,_),(2,_)] Tryz.func44 Tryz.ntmps44 fun B hB hW=>?_
   repeat' (first | refine jM ?_ | (refine jo ?_;first | refine jV (g_ldS rfl rfl aS rfl rfl) ?_ | refine jV (g_lenL rfl) ?_ | (refine jAt rfl ?_) | (refine jAf rfl ?_)) | (refine k_gt rfl rfl rfl ?_) | (refine k_gf rfl rfl rfl ?_) | (refine k_tt rfl (by first | rfl | (refine decide_eq_true ?_;(omega))) ?_))
   refine k_rr (vs:=[_]) rfl ⟨rfl,trivial⟩ rfl sRr ⟨rfl,_,_,rfl,rfl⟩
  obtain ⟨kb,ko,kc,e,hs⟩:=h3.expl oM
  simp only [Value.slice.injEq] at e
  obtain ⟨rfl,-,rfl⟩:=e
  obtain ⟨tb2,to,tc,e,hts⟩:=h2.expl oM
  simp only [Value.slice.injEq] at e
  obtain ⟨rfl,-,rfl⟩:=e
  have hmt : (fs.map fun p : Fld × V=>p.1.tag).length = fs.length:=by simp
  have hnm : ∀ i,i < fs.length → nth (fs.map fun p : Fld × V=>p.1.tag) i = (nth fs i).1.tag:=fun i hi=>by rw [nth_eq (by simpa using hi),nth_eq hi];simp
  refine jH [(0,_),(1,_),(2,_)] Tryz.func44 Tryz.ntmps44 fun B hB hW=>?_
  repeat' (first | (refine jR ?_) | (refine jo ?_;first | refine jV (g_ldS rfl rfl aS rfl rfl) ?_ | refine jV (g_lenL rfl) ?_) | (refine k_ff rfl (dFf oM) ?_))
  rw [show rows strF out = rows strF (out ++ lvS q (KS.take 0) 82 0) by rw [List.take_zero,lvS_nil,List.append_nil]]
  refine k_loop (ι:=Nat × Option Addr × Nat) (fun i=>i.1 ≤ fs.length) (fun i=>[(0,Pt b 0),(1,S (pathText q)),(2,.slice i.2.1 (m + V.sizes (KS.take i.1)) i.2.2),(7,I i.1)]) (fun _=>G) (fun i=>[.acc (.slice i.2.1 (m + V.sizes (KS.take i.1)) i.2.2) tTxL 1 (m + V.sizes (KS.take i.1)) (rows strF (out ++ lvS q (KS.take i.1) 82 0))]) (fun i=>fs.length - i.1) (0,a,cap) ?_ tU rfl sRr (fun i Hi=>?_)
  ·exact Nat.zero_le _
  obtain ⟨i,a,cap⟩:=i
  dsimp only at Hi ⊢
  by_cases hi : i < fs.length
  ·have hti:=tot_nth (ks:=KS) (i:=i) oM
   have hxt:=hnm i hi
   have hti2 : (nth KS i).tot = 20 + (nth fs i).2.tot:=by rw [hnt i hi];simp [nd_tot,V.tots]
   have hsk : (nth KS i).size = (nth fs i).2.size:=by rw [hnt i hi,V.size,if_neg (by unfold leafW;simp),V.sizes,V.sizes];rfl
   have htg:=((hw.ty t (refT_mem h0.1)).fld _ (h5 i hi)).tag
   have hsn : m + V.sizes (KS.take (i + 1)) = m + V.sizes (KS.take i) + ((nth fs i).2).size:=by rw [take_nth oM,sizes_snocL,hsk,Nat.add_assoc]
   have hls : out ++ lvS q (KS.take (i + 1)) 82 0 = out ++ lvS q (KS.take i) 82 0 ++ lvT (q ++ [(nth fs i).1.tag]) ((nth fs i).2):=by rw [take_nth oM,lvS_snoc,show stepNo 82 0 (KS.take i).length (nth KS i) = (nth fs i).1.tag by rw [hnt i hi];rfl,hnt i hi,lvT_fld,List.append_assoc]
   have hlen : m + V.sizes (KS.take i) = (out ++ lvS q (KS.take i) 82 0).length:=by rw [List.length_append,lvS_len,hm]
   have hs1:=sizes_totL (KS.take i)
   have htk:=tots_take KS i
   have htk1:=tots_take KS (i + 1)
   rw [take_nth (by (omega)),tots_app] at htk1
   simp only [V.tots] at htk1
   have hxi : nth bs i = nth bs i:=rfl
   have hpl:=pathText_len hqn
   have hq2 : ∀ n ∈ q ++ [(nth fs i).1.tag],0 ≤ n ∧ n ≤ 999999:=snoc_in hqn ⟨oM,oM⟩
   have hdl:=decI_6 (hq2 ((nth fs i).1.tag) (by simp)).2
   by_cases hq : q = []
   ·have hp : pathText q = []:=path_nil.2 hq
    have cx_lv : FnG Tryz.prog 44 [Pt (nth bs i) 0,S (decI ((nth fs i).1.tag)),.slice a (m + V.sizes (KS.take i)) cap] G [.acc (.slice a (m + V.sizes (KS.take i)) cap) tTxL 1 (m + V.sizes (KS.take i)) (rows strF (out ++ lvS q (KS.take i) 82 0))]
      (fun r L'=>∃ a' cap',r = .slice a' (m + V.sizes (KS.take i) + ((nth fs i).2).size) cap' ∧ L' = [.acc (.slice a' (m + V.sizes (KS.take i) + ((nth fs i).2).size) cap') tTxL 1 (m + V.sizes (KS.take i) + ((nth fs i).2).size) (rows strF (out ++ lvS q (KS.take i) 82 0 ++ lvT (q ++ [(nth fs i).1.tag]) ((nth fs i).2)))]):=by
     subst hq
     exact ih i hi [(nth fs i).1.tag] a (m + V.sizes (KS.take i)) cap _ hlen oM hq2 (by simp only [List.length_append,List.length_singleton];omega)
    clear hq
    repeat' (first | refine jM ?_ | (refine jo ?_;first | refine jV (g_ldS rfl rfl aS rfl rfl) ?_ | (refine jV (g_ldR1x rfl rfl aS ?_ aS rfl) ?_;(focus ((omega);done))) | refine jV (g_lenL rfl) ?_ | (refine jV (g_iaddrN rfl rfl oM) ?_) | (refine c_rt rfl rfl rfl (c_l6Dec oM) rfl ?_) | (refine c_accg rfl rfl rfl cx_lv rfl ?_;rintro _ _ ⟨av,cv,rfl,rfl⟩;dsimp only [zA,fA])) | (refine k_tt rfl (by first | rfl | (refine decide_eq_true ?_;(omega))) ?_) | (refine k_ff rfl ?_ ?_;(focus ((simp [*];done);done))))
    exact k_rd (i + 1,av,cv) (by dsimp only;omega) (by dsimp only;omega) (by dsimp only;rw [hsn];repeat (first | exact trivial | refine ⟨rfl,?_⟩)) rfl (by dsimp only;rw [hsn,hls];repeat (exact List.Sublist.refl _))
   ·have hp : pathText q ≠ []:=fun h=>hq (path_nil.1 h)
    have cx_lv : FnG Tryz.prog 44 [Pt (nth bs i) 0,S (pathText q ++ [47] ++ decI ((nth fs i).1.tag)),.slice a (m + V.sizes (KS.take i)) cap] G [.acc (.slice a (m + V.sizes (KS.take i)) cap) tTxL 1 (m + V.sizes (KS.take i)) (rows strF (out ++ lvS q (KS.take i) 82 0))]
      (fun r L'=>∃ a' cap',r = .slice a' (m + V.sizes (KS.take i) + ((nth fs i).2).size) cap' ∧ L' = [.acc (.slice a' (m + V.sizes (KS.take i) + ((nth fs i).2).size) cap') tTxL 1 (m + V.sizes (KS.take i) + ((nth fs i).2).size) (rows strF (out ++ lvS q (KS.take i) 82 0 ++ lvT (q ++ [(nth fs i).1.tag]) ((nth fs i).2)))]):=by
     rw [path_snoc hq]
     exact ih i hi (q ++ [(nth fs i).1.tag]) a (m + V.sizes (KS.take i)) cap _ hlen oM hq2 (by simp only [List.length_append,List.length_singleton];omega)
    clear hq
    repeat' (first | (refine jX ?_) | (refine jo ?_;first | refine jV (g_ldS rfl rfl aS rfl rfl) ?_ | (refine jV (g_ldR1x rfl rfl aS ?_ aS rfl) ?_;(focus ((omega);done))) | refine jV (g_lenL rfl) ?_ | (refine jV (g_iaddrN rfl rfl oM) ?_) | (refine c_rt rfl rfl rfl (c_l6Dec oM) rfl ?_) | (refine c_accg rfl rfl rfl cx_lv rfl ?_;rintro _ _ ⟨av,cv,rfl,rfl⟩;dsimp only [zA,fA])) | (refine k_tt rfl (by first | rfl | (refine decide_eq_true ?_;first | assumption | omega)) ?_))
    exact k_rd (i + 1,av,cv) (by dsimp only;omega) (by dsimp only;omega) (by dsimp only;rw [hsn];repeat (first | exact trivial | refine ⟨rfl,?_⟩)) rfl (by dsimp only;rw [hsn,hls];repeat (exact List.Sublist.refl _))
  ·obtain rfl : i = fs.length:=oM
   rw [show KS.take (fs.length) = KS from List.take_of_length_le oM]
   repeat' (first | (refine jR ?_) | (refine jo ?_;first | refine jV (g_ldS rfl rfl aS rfl rfl) ?_ | refine jV (g_lenL rfl) ?_) | (refine k_ff rfl (dFf oM) ?_))
   refine k_rr (vs:=[_]) rfl ⟨rfl,trivial⟩ rfl sRr ⟨rfl,_,_,rfl,rfl⟩
 | enm k b tgb t d h0 h1 h2 h3 =>
  intro q a m cap out hm hto hqn hql
  obtain ⟨r,rfl⟩:=refT_64 h0.1
  have hk0 : bt (64 :: r) (Int.toNat 0) = 64:=bt_zero 64 r
  have hkl2 : (64 :: r).length = r.length + 1:=rfl
  have hrow : rows strF out ++ [S (pathText q)] = rows strF (out ++ [pathText q]):=(rows_snoc strF out (pathText q)).symm
  have hsz : V.size (.nd 69 [] d.tag []) = 1:=size_leaf rfl
  rw [nd_tot] at hto hql
  rw [hsz,lvT_leaf rfl]
  refine jH [(0,_),(1,_),(2,_)] Tryz.func44 Tryz.ntmps44 fun B hB hW=>?_
  repeat' (first | refine jM ?_ | (refine jo ?_;first | refine jV (g_ldS rfl rfl aS rfl rfl) ?_ | refine jV (g_lenL rfl) ?_ | (refine jAf rfl ?_) | refine jF fun _=>?_ | (refine c_apX rfl rfl rfl rfl rfl rfl rfl rfl rfl oM fun _ _=>?_)) | (refine k_gf rfl rfl rfl ?_) | (refine k_tt rfl rfl ?_) | (refine k_ff rfl rfl ?_))
  rw [hrow]
  refine k_rr (vs:=[_]) rfl ⟨rfl,trivial⟩ rfl sB ⟨rfl,_,_,rfl,rfl⟩
 | uni k b tgb kb b' cc t d v hcc h0 h1 h2 h3 h4 hk ih =>
  intro q a m cap out hm hto hqn hql
  obtain ⟨r,rfl⟩:=refT_64 h0.1
  simp only [nd_tot,V.tots] at hto hql
  have hk0 : bt (64 :: r) (Int.toNat 0) = 64:=bt_zero 64 r
  have hkl2 : (64 :: r).length = r.length + 1:=rfl
  have htg:=((hw.ty t (refT_mem h0.1)).fld _ h1).tag
  have hsz : V.size (.nd 85 [] d.tag [v]) = V.sizes [v]:=by rw [V.size,if_neg (by unfold leafW;simp)]
  rw [hsz,lvT_nd leafW_85 dC]
  refine jH [(0,_),(1,_),(2,_)] Tryz.func44 Tryz.ntmps44 fun B hB hW=>?_
  repeat' (first | (refine jR ?_) | (refine jo ?_;first | refine jV (g_ldS rfl rfl aS rfl rfl) ?_ | refine jV (g_lenL rfl) ?_) | (refine k_ff rfl rfl ?_))
  rw [show rows strF out = rows strF (out ++ lvS q ([v].take 0) 85 d.tag) by rw [List.take_zero,lvS_nil,List.append_nil]]
  refine k_loop (ι:=Nat × Option Addr × Nat) (fun i=>i.1 ≤ 1) (fun i=>[(0,Pt b 0),(1,S (pathText q)),(2,.slice i.2.1 (m + V.sizes ([v].take i.1)) i.2.2),(7,I i.1)]) (fun _=>G) (fun i=>[.acc (.slice i.2.1 (m + V.sizes ([v].take i.1)) i.2.2) tTxL 1 (m + V.sizes ([v].take i.1)) (rows strF (out ++ lvS q ([v].take i.1) 85 d.tag))]) (fun i=>1 - i.1) (0,a,cap) ?_ tU rfl sRr (fun i Hi=>?_)
  ·exact Nat.zero_le _
  obtain ⟨i,a,cap⟩:=i
  dsimp only at Hi ⊢
  by_cases hi : i < 1
  ·obtain rfl : i = 0:=oM
   have hsn : m + V.sizes ([v].take (0 + 1)) = m + V.sizes ([v].take 0) + (v).size:=by rw [take_nth oM,sizes_snocL,show nth [v] 0 = v from rfl,Nat.add_assoc]
   have hls : out ++ lvS q ([v].take (0 + 1)) 85 d.tag = out ++ lvS q ([v].take 0) 85 d.tag ++ lvT (q ++ [d.tag]) (v):=by rw [take_nth oM,lvS_snoc,show stepNo 85 d.tag (List.take 0 [v]).length (nth [v] 0) = d.tag from rfl,show nth [v] 0 = v from rfl,List.append_assoc]
   have hlen : m + V.sizes ([v].take 0) = (out ++ lvS q ([v].take 0) 85 d.tag).length:=by rw [List.length_append,lvS_len,hm]
   have hs1:=sizes_totL ([v].take 0)
   have htk:=tots_take [v] 0
   have htk1:=tots_take [v] (0 + 1)
   rw [take_nth (by (omega)),tots_app] at htk1
   simp only [V.tots] at htk1
   have hnv : (nth [v] 0).tot = v.tot:=rfl
   have htv : V.tots [v] = v.tot:=by simp [V.tots]
   have hpl:=pathText_len hqn
   have hq2 : ∀ n ∈ q ++ [d.tag],0 ≤ n ∧ n ≤ 999999:=snoc_in hqn ⟨oM,oM⟩
   have hdl:=decI_6 (hq2 (d.tag) (by simp)).2
   by_cases hq : q = []
   ·have hp : pathText q = []:=path_nil.2 hq
    have cx_lv : FnG Tryz.prog 44 [Pt (b') 0,S (decI (d.tag)),.slice a (m + V.sizes ([v].take 0)) cap] G [.acc (.slice a (m + V.sizes ([v].take 0)) cap) tTxL 1 (m + V.sizes ([v].take 0)) (rows strF (out ++ lvS q ([v].take 0) 85 d.tag))]
      (fun r L'=>∃ a' cap',r = .slice a' (m + V.sizes ([v].take 0) + (v).size) cap' ∧ L' = [.acc (.slice a' (m + V.sizes ([v].take 0) + (v).size) cap') tTxL 1 (m + V.sizes ([v].take 0) + (v).size) (rows strF (out ++ lvS q ([v].take 0) 85 d.tag ++ lvT (q ++ [d.tag]) (v)))]):=by
     subst hq
     exact ih [d.tag] a (m + V.sizes ([v].take 0)) cap _ hlen oM hq2 (by simp only [List.length_append,List.length_singleton];omega)
    clear hq
    repeat' (first | refine jM ?_ | (refine jo ?_;first | refine jV (g_ldS rfl rfl aS rfl rfl) ?_ | refine jV (g_lenL rfl) ?_ | (refine jV (g_iaddrN rfl rfl oM) ?_) | (refine c_rt rfl rfl rfl (c_l6Dec oM) rfl ?_) | (refine c_accg rfl rfl rfl cx_lv rfl ?_;rintro _ _ ⟨av,cv,rfl,rfl⟩;dsimp only [zA,fA])) | (refine k_tt rfl rfl ?_) | (refine k_ff rfl ?_ ?_;(focus ((simp [*];done);done))))
    exact k_rd (0 + 1,av,cv) (by dsimp only;omega) (by dsimp only;omega) (by dsimp only;rw [hsn];repeat (first | exact trivial | refine ⟨rfl,?_⟩)) rfl (by dsimp only;rw [hsn,hls];repeat (exact List.Sublist.refl _))
   ·have hp : pathText q ≠ []:=fun h=>hq (path_nil.1 h)
    have cx_lv : FnG Tryz.prog 44 [Pt (b') 0,S (pathText q ++ [47] ++ decI (d.tag)),.slice a (m + V.sizes ([v].take 0)) cap] G [.acc (.slice a (m + V.sizes ([v].take 0)) cap) tTxL 1 (m + V.sizes ([v].take 0)) (rows strF (out ++ lvS q ([v].take 0) 85 d.tag))]
      (fun r L'=>∃ a' cap',r = .slice a' (m + V.sizes ([v].take 0) + (v).size) cap' ∧ L' = [.acc (.slice a' (m + V.sizes ([v].take 0) + (v).size) cap') tTxL 1 (m + V.sizes ([v].take 0) + (v).size) (rows strF (out ++ lvS q ([v].take 0) 85 d.tag ++ lvT (q ++ [d.tag]) (v)))]):=by
     rw [path_snoc hq]
     exact ih (q ++ [d.tag]) a (m + V.sizes ([v].take 0)) cap _ hlen oM hq2 (by simp only [List.length_append,List.length_singleton];omega)
    clear hq
    repeat' (first | (refine jX ?_) | (refine jo ?_;first | refine jV (g_ldS rfl rfl aS rfl rfl) ?_ | refine jV (g_lenL rfl) ?_ | (refine jV (g_iaddrN rfl rfl oM) ?_) | (refine c_rt rfl rfl rfl (c_l6Dec oM) rfl ?_) | (refine c_accg rfl rfl rfl cx_lv rfl ?_;rintro _ _ ⟨av,cv,rfl,rfl⟩;dsimp only [zA,fA])) | (refine k_tt rfl (by first | rfl | (refine decide_eq_true ?_;(assumption))) ?_))
    exact k_rd (0 + 1,av,cv) (by dsimp only;omega) (by dsimp only;omega) (by dsimp only;rw [hsn];repeat (first | exact trivial | refine ⟨rfl,?_⟩)) rfl (by dsimp only;rw [hsn,hls];repeat (exact List.Sublist.refl _))
  ·obtain rfl : i = 1:=oM
   rw [show [v].take (1) = [v] from List.take_of_length_le (by simp)]
   repeat' (first | (refine jR ?_) | (refine jo ?_;first | refine jV (g_ldS rfl rfl aS rfl rfl) ?_ | refine jV (g_lenL rfl) ?_) | (refine k_ff rfl rfl ?_))
   refine k_rr (vs:=[_]) rfl ⟨rfl,trivial⟩ rfl sRr ⟨rfl,_,_,rfl,rfl⟩
end Go.E
