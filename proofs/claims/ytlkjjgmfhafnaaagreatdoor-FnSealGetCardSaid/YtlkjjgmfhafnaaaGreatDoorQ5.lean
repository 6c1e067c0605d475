/- Contracts and plain laws that the statement rests on, part 5. Conditions: as each says. -/
import Derived.Test.YtlkjjgmfhafnaaaGreatDoorQ4
set_option linter.unusedVariables false
set_option linter.unusedSimpArgs false
namespace Go.E
set_option maxRecDepth 20000
set_option maxHeartbeats 2000000
theorem oe {f : act → Option (V × act)} {r : act} : ∀ (ks : List V) (acc : List V),(∀ v ∈ ks,∀ r,f (v.bys ++ r) = some (v,r)) → bA f ks.length ((V.byss ks).flatten ++ r) acc = some (acc ++ ks,r)
 | [],acc,_=>by simp [bA,V.byss]
 | v :: ks,acc,h=>by
  rw [V.byss,List.flatten_cons,List.append_assoc,List.length_cons,bA,h v (by simp)]
  dsimp only
  rw [oe ks (acc ++ [v]) fun u hu=>h u (by simp [hu])]
  simp
theorem fZ {f : act → act → Option (V × act)} {k p : act} {v : V} (h : f k p = some (v,[])) : cP f k p = some v:=by unfold cP;rw [h]
theorem nQ (p : Fld × V) : (cY p).bys = aK p.1.tag ++ (aK p.2.bys.length ++ p.2.bys):=by
 show V.bys (.nd 61 [] p.1.tag [p.2]) = _
 rw [V.bys];simp [V.byss,f9]
theorem zE (r : act) : bj (0 :: r) = some (0,r):=by rw [bj,if_pos dC];rfl
theorem pM {ts : List Ty} {f : act → act → Option (V × act)} {t : Ty} (hw : TyW t) {r : act} : ∀ (fs : List (Fld × V)) (m : Nat) (last : Int) (acc : List V),fs.length < m → (∀ p ∈ fs,p.1 ∈ t.fields ∧ p.2.out ≠ cT ts p.1 ∧ last < p.1.tag ∧ p.2.bys.length ≤ 999999 ∧ f p.1.kind p.2.bys = some (p.2,[])) → fs.Pairwise (fun a b=>a.1.tag < b.1.tag) →
  bH ts f t m last ((V.byss (fs.map cY)).flatten ++ 0 :: r) acc = some (acc ++ fs.map cY,r)
 | [],m,last,acc,hm,_,_=>by
  obtain ⟨m,rfl⟩ : ∃ n,m = n + 1:=⟨m - 1,by simp at hm;omega⟩
  simp only [List.map_nil,V.byss,List.flatten_nil,List.nil_append,bH,zE,if_pos,List.append_nil]
 | p :: fs,m,last,acc,hm,hf,hp=>by
  obtain ⟨m,rfl⟩ : ∃ n,m = n + 1:=⟨m - 1,by simp at hm;omega⟩
  obtain ⟨h1,h2,h3,h4,h5⟩:=hf p (by simp)
  have ht:=(hw.fld _ h1).tag
  rw [List.pairwise_cons] at hp
  have ih:=pM (ts:=ts) (f:=f) hw (r:=r) fs m p.1.tag (acc ++ [cY p]) (by simp at hm;omega) (fun q hq=>⟨(hf q (by simp [hq])).1,(hf q (by simp [hq])).2.1,hp.1 q hq,(hf q (by simp [hq])).2.2.2⟩) hp.2
  rw [List.map_cons,V.byss,List.flatten_cons,nQ,bH]
  simp only [List.append_assoc]
  rw [fF oM oM]
  dsimp only
  rw [if_neg oM,lU h4]
  dsimp only
  rw [if_neg oM,jc hw h1]
  dsimp only
  rw [fZ h5]
  dsimp only
  rw [if_neg h2]
  show bH ts f t m p.1.tag _ (acc ++ [cY p]) = _
  rw [ih];simp
theorem sm {ks : List V} {v : V} (h : v ∈ ks) : v.bys.length ≤ (V.byss ks).flatten.length:=by
 rw [lz]
 induction ks with
 | nil=>cases h
 | cons u ks ih =>
  simp only [List.map_cons,List.flatten_cons,List.length_append]
  rcases List.mem_cons.1 h with rfl | h
  ·omega
  ·have:=ih h;omega
theorem tJ : ∀ {fs : List (Fld × V)},fs.length ≤ (V.byss (fs.map cY)).flatten.length
 | []=>by simp [V.byss]
 | p :: fs=>by
  have:=tJ (fs:=fs)
  have h2:=eT p.1.tag
  rw [List.map_cons,V.byss,List.flatten_cons,List.length_append,nQ]
  simp only [List.length_append,List.length_cons]
  omega
theorem pf {ts : List Ty} {k : act} {t : Ty} (h : aX ts k = some t) : ∃ k',k = 64 :: k':=by
 cases k with
 | nil=>simp [aX,bE] at h
 | cons c k' =>
  by_cases h64 : c.toNat = 64
  ·exact ⟨k',by rw [show c = 64 from UInt8.toNat_inj.1 h64]⟩
  ·exact (e9 h F h64).elim
theorem kU {ts : List Ty} (hw : SchW ts) : ∀ (n : Nat) {k : act} {v : V},OfK ts k v → v.deep ≤ n → v.bys.length ≤ 999999 → ∀ r,rb ts n k (v.bys ++ r) = some (v,r)
 | 0,k,v,h,hd,_,r=>by
  obtain ⟨w,x,t,ks⟩:=v
  have hne : w ≠ 61:=by cases h <;> decide
  rw [cO hne] at hd;omega
 | n + 1,k,v,h,hd,hl,r=>by
  have ih:=fun {k : act} {v : V}=>kU hw n (k:=k) (v:=v)
  show ff ts (rb ts n) k (v.bys ++ r) = some (v,r)
  cases h with
  | num k m h1 h2 =>
   have e : V.bys (.nd 110 (br m) 0 []) = aK m:=by rw [V.bys];unfold f9;rw [if_pos rfl,oo h1 h2 dC];rfl
   have hrf : aX ts (110 :: k) = none:=by cases h : aX ts (110 :: k) with | none=>rfl | some t=>exact (e9 h F dC).elim
   rw [e]
   unfold ff
   try dsimp only
   rw [if_neg dC,if_neg dC,hrf]
   try dsimp only
   rw [if_pos dC,fF h1 h2];rfl
  | txt k x h1 =>
   have e : V.bys (.nd 116 x 0 []) = aK x.length ++ x:=by rw [V.bys];rfl
   have hrf : aX ts (116 :: k) = none:=by cases h : aX ts (116 :: k) with | none=>rfl | some t=>exact (e9 h F dC).elim
   rw [e] at hl ⊢
   rw [List.length_append] at hl
   unfold ff
   try dsimp only
   rw [if_neg dC,if_neg dC,hrf]
   try dsimp only
   rw [if_neg dC,if_pos dC,List.append_assoc,lU oM]
   dsimp only
   rw [if_pos h1]
  | flg k x h1 =>
   have hrf : aX ts (102 :: k) = none:=by cases h : aX ts (102 :: k) with | none=>rfl | some t=>exact (e9 h F dC).elim
   unfold ff
   try dsimp only
   rw [if_neg dC,if_neg dC,hrf]
   try dsimp only
   rw [if_neg dC,if_neg dC,if_pos dC]
   rcases h1 with rfl | rfl
   ·rw [show V.bys (.nd 102 [121,101,115] 0 []) = [1] by rw [V.bys];rfl];rfl
   ·rw [show V.bys (.nd 102 [110,111] 0 []) = [0] by rw [V.bys];rfl];rfl
  | lst k ks h1 h2 =>
   rw [cO dC] at hd
   have e : V.bys (.nd 91 [] 0 ks) = aK ks.length ++ (V.byss ks).flatten:=by rw [V.bys];rfl
   rw [e] at hl ⊢
   rw [List.length_append] at hl
   have hI:=oe (f:=rb ts n k) (r:=r) ks [] fun v hv r=>ih (h2 v hv) (by have:=V.deep_mem hv;omega) (by have:=sm hv;omega) r
   unfold ff
   try dsimp only
   rw [if_pos dC,List.append_assoc,fF oM oM]
   dsimp only
   rw [if_pos oM,Int.toNat_natCast,hI];rfl
  | non k =>
   rw [show V.bys (.nd 63 [] 0 []) = [0] by rw [V.bys];rfl]
   unfold ff
   try dsimp only
   rw [if_neg dC,if_pos dC];rfl
  | opt k v h1 =>
   rw [cO dC] at hd
   have hd2 : v.deep ≤ n:=by have:=V.deep_mem (ks:=[v]) (v:=v) (by simp);omega
   have e : V.bys (.nd 63 [] 0 [v]) = 1 :: v.bys:=by rw [V.bys];simp [V.byss,f9]
   rw [e] at hl ⊢
   rw [List.length_cons] at hl
   unfold ff
   try dsimp only
   rw [if_neg dC,if_pos dC]
   rw [show cq (1 :: v.bys ++ r) = some (true,v.bys ++ r) from rfl]
   try dsimp only
   rw [ih h1 hd2 oM];rfl
  | recd k t fs h1 h2 h3 h4 h5 h6 =>
   rw [cO dC] at hd
   obtain ⟨k',rfl⟩:=pf h1
   have e : V.bys (.nd 82 [] 0 (fs.map cY)) = (V.byss (fs.map cY)).flatten ++ [0]:=by rw [V.bys];rfl
   have hg:=tJ (fs:=fs)
   rw [e] at hl ⊢
   rw [List.length_append] at hl
   have hW:=hw.ty t (b6 h1)
   have hF:=pM (ts:=ts) (f:=rb ts n) hW (r:=r) fs (((V.byss (fs.map cY)).flatten ++ 0 :: r).length + 1) 0 [] (by rw [List.length_append];omega) (fun p hp=>by
    have hdp : p.2.deep ≤ n:=by
     have h7:=V.deep_mem (List.mem_map_of_mem (f:=cY) hp)
     have h8 : (cY p).deep = p.2.deep:=by
      show V.deep (.nd 61 [] p.1.tag [p.2]) = _
      rw [V.deep,if_pos rfl];simp [V.deeps]
     omega
    have hbp : p.2.bys.length ≤ 999999:=by
     have h7:=sm (List.mem_map_of_mem (f:=cY) hp)
     rw [nQ] at h7
     simp only [List.length_append] at h7
     omega
    have ht:=(hW.fld _ (h3 p hp)).tag
    refine ⟨h3 p hp,h5 p hp,oM,hbp,?_⟩
    have:=ih (h4 p hp) hdp hbp []
    rwa [List.append_nil] at this) h6
   unfold ff
   try dsimp only
   rw [if_neg dC,if_neg dC,h1]
   try dsimp only
   unfold bS
   rw [if_pos h2,List.append_assoc,List.singleton_append,hF];rfl
  | enm k t d h1 h2 h3 =>
   obtain ⟨k',rfl⟩:=pf h1
   have hW:=hw.ty t (b6 h1)
   have ht:=(hW.fld _ h3).tag
   rw [show V.bys (.nd 69 [] d.tag []) = aK d.tag by rw [V.bys];rfl]
   unfold ff
   try dsimp only
   rw [if_neg dC,if_neg dC,h1]
   try dsimp only
   unfold bS
   rw [if_neg oM,fF oM oM]
   dsimp only
   rw [jc hW h3]
   dsimp only
   rw [if_pos h2]
  | uni k t d v h1 h2 h3 h4 h5 =>
   rw [cO dC] at hd
   have hd2 : v.deep ≤ n:=by have:=V.deep_mem (ks:=[v]) (v:=v) (by simp);omega
   obtain ⟨k',rfl⟩:=pf h1
   have hW:=hw.ty t (b6 h1)
   have ht:=(hW.fld _ h4).tag
   have e : V.bys (.nd 85 [] d.tag [v]) = aK d.tag ++ (aK v.bys.length ++ v.bys):=by rw [V.bys];simp [V.byss,f9]
   rw [e] at hl ⊢
   simp only [List.length_append] at hl
   unfold ff
   try dsimp only
   rw [if_neg dC,if_neg dC,h1]
   try dsimp only
   unfold bS
   simp only [List.append_assoc]
   rw [if_neg h2,fF oM oM]
   dsimp only
   rw [jc hW h4]
   dsimp only
   rw [if_neg h3,lU oM]
   dsimp only
   have:=ih h5 hd2 oM []
   rw [List.append_nil] at this
   rw [fZ this];rfl
theorem zD {n : Int} (h : n < 16384) : (aK n).length ≤ 2:=pe _ 1 oM
def ji (ts : List Ty) (k b : act) : Option V:=match rb ts 12 k b with
 | some (v,[])=>if v.bys = b ∧ v.out.length ≤ 400 then some v else none
 | _=>none
theorem lk {ts : List Ty} (hw : SchW ts) {k b : act} (hb : b.length ≤ 999999) {v : V} : ji ts k b = some v ↔ OfK ts k v ∧ v.deep ≤ 12 ∧ v.out.length ≤ 400 ∧ v.bys = b:=by
 constructor
 ·intro h
  unfold ji at h
  split at h
  ·rename_i u hu
   obtain ⟨g1,g2⟩:=kT _ _ _ _ hu
   split at h
   ·rename_i hc
    simp only [Option.some.injEq] at h;subst h
    exact ⟨g1,g2,hc.2,hc.1⟩
   ·cases h
  ·cases h
 ·rintro ⟨h1,h2,h3,rfl⟩
  have:=kU hw 12 h1 h2 hb []
  rw [List.append_nil] at this
  unfold ji
  rw [this]
  dsimp only
  rw [if_pos ⟨rfl,h3⟩]
theorem rJ {ts : List Ty} (hw : SchW ts) {k b : act} (hb : b.length ≤ 999999) {v : V} : ji ts k b = some v ↔ rb ts 13 k b = some (v,[]) ∧ v.deep ≤ 12 ∧ v.out.length ≤ 400 ∧ v.bys = b:=by
 rw [lk hw hb]
 constructor
 ·rintro ⟨h1,h2,h3,rfl⟩
  have:=kU hw 13 h1 oM hb []
  rw [List.append_nil] at this
  exact ⟨this,h2,h3,F⟩
 ·rintro ⟨h1,h2,h3,h4⟩
  exact ⟨(kT _ _ _ _ h1).1,h2,h3,h4⟩
theorem eS {s r : act} {b : Bool} (h : cq s = some (b,r)) : s = (if b = true then 1 else 0) :: r:=by
 unfold cq at h
 split at h
 ·cases h
 ·rename_i c q
  split at h
  ·rename_i hc
   simp only [Option.some.injEq,Prod.mk.injEq] at h
   obtain ⟨rfl,rfl⟩:=h
   rw [bn hc dC];rfl
  ·split at h
   ·rename_i hc
    simp only [Option.some.injEq,Prod.mk.injEq] at h
    obtain ⟨rfl,rfl⟩:=h
    rw [bn hc dC];rfl
   ·cases h
theorem wv (r : act) : cq (0 :: r) = some (false,r):=by rw [cq,if_pos dC]
theorem wu (r : act) : cq (1 :: r) = some (true,r):=by rw [cq,if_neg dC,if_pos dC]
section
variable {ts : List Ty}
end
variable {ts : List Ty}
inductive LoK (ts : List Ty) : act → V → Prop
 | num (k : act) (n : Int) : 0 ≤ n → LoK ts (110 :: k) (.nd 110 (br n) 0 [])
 | txt (k x : act) : db (39 :: (x ++ [39])) = true → LoK ts (116 :: k) (.nd 116 x 0 [])
 | flg (k x : act) : x = [121,101,115] ∨ x = [110,111] → LoK ts (102 :: k) (.nd 102 x 0 [])
 | lst (k : act) (ks : List V) : (∀ v ∈ ks,LoK ts k v) → LoK ts (91 :: k) (.nd 91 [] 0 ks)
 | non (k : act) : LoK ts (63 :: k) (.nd 63 [] 0 [])
 | opt (k : act) (v : V) : LoK ts k v → LoK ts (63 :: k) (.nd 63 [] 0 [v])
 | recd (k : act) (t : Ty) (fs : List (Fld × V)) : aX ts k = some t → t.sort = 82 → (∀ p ∈ fs,p.1 ∈ t.fields) → (∀ p ∈ fs,LoK ts p.1.kind p.2) → LoK ts k (.nd 82 [] 0 (fs.map cY))
 | enm (k : act) (t : Ty) (d : Fld) : aX ts k = some t → t.sort = 69 → d ∈ t.fields → LoK ts k (.nd 69 [] d.tag [])
 | uni (k : act) (t : Ty) (d : Fld) (v : V) : aX ts k = some t → t.sort ≠ 82 → t.sort ≠ 69 → d ∈ t.fields → LoK ts d.kind v → LoK ts k (.nd 85 [] d.tag [v])
variable {ts : List Ty} {st : Bool}
theorem pN {e : UInt8} {t : act} (h0 : e.toNat ≠ 0) (h1 : e.toNat ≠ 1) : cq (e :: t) = none:=by rw [cq,if_neg h0,if_neg h1]
variable {ts : List Ty}
theorem mY {f : act → Option (V × act)} (h : ∀ s v r,f s = some (v,r) → r.length < s.length) : ∀ (m : Nat) (s : act) (acc : List V) {x : List V × act},bA f m s acc = some x → x.2.length + m ≤ s.length
 | 0,s,acc,x,e=>by simp only [bA,Option.some.injEq] at e;subst e;dsimp only;omega
 | m + 1,s,acc,x,e=>by
  unfold bA at e
  cases hf : f s with
  | none=>rw [hf] at e;cases e
  | some y =>
   rw [hf] at e
   obtain ⟨v,r⟩:=y
   have h1:=mY h m r _ e
   have h2:=h _ _ _ hf
   omega
theorem kX {f : act → act → Option (V × act)} {t : Ty} : ∀ (m : Nat) (last : Int) (s : act) (acc : List V) {x : List V × act},bH ts f t m last s acc = some x → x.2.length < s.length
 | 0,_,_,_,_,e=>by cases e
 | m + 1,last,s,acc,x,e=>by
  unfold bH at e
  cases hn : bj s with
  | none=>rw [hn] at e;cases e
  | some y =>
   rw [hn] at e
   obtain ⟨n,r⟩:=y
   have hl:=bT hn
   dsimp only at e
   split at e
   ·simp only [Option.some.injEq] at e;subst e;exact hl
   ·split at e
    ·cases e
    ·rename_i p r' hp
     have hl2:=dZ hp
     split at e
     ·cases e
     ·split at e
      ·have:=kX m n r' _ e;omega
      ·split at e
       ·cases e
       ·have:=kX m n r' _ e;omega
theorem sw {f : act → act → Option (V × act)} {t : Ty} {s r : act} {v : V} (e : bS ts f t s = some (v,r)) : r.length < s.length:=by
 unfold bS at e
 split at e
 ·cases hi : bH ts f t (s.length + 1) 0 s [] with
  | none=>rw [hi] at e;cases e
  | some y=>rw [hi] at e;cases e;exact kX _ _ _ _ hi
 ·split at e
  ·cases e
  ·rename_i n q hn
   have hl:=bT hn
   split at e
   ·cases e
   ·rename_i d hd
    split at e
    ·cases e;exact hl
    ·split at e
     ·cases e
     ·rename_i p r' hp
      have hl2:=dZ hp
      cases ha : cP f d.kind p with
      | none=>rw [ha] at e;cases e
      | some w=>rw [ha] at e;cases e;omega
theorem oc : ∀ (n : Nat) (k s : act) (v : V) (r : act),rb ts n k s = some (v,r) → r.length < s.length
 | 0,_,_,_,_,e=>by cases e
 | n + 1,k,s,v,r,e=>by
  have ih:=oc n
  replace e : ff ts (rb ts n) k s = some (v,r):=e
  cases k with
  | nil=>cases e
  | cons c k =>
   unfold ff at e
   dsimp only at e
   split at e
   ·split at e
    ·cases e
    ·rename_i q1 q hn
     have hl:=bT hn
     split at e
     ·cases hi : bA (rb ts n k) q1.toNat q [] with
      | none=>rw [hi] at e;cases e
      | some y=>rw [hi] at e;cases e;have:=mY (ih k) _ _ _ hi;omega
     ·cases e
   ·split at e
    ·cases hb : cq s with
     | none=>rw [hb] at e;cases e
     | some y =>
      rw [hb] at e
      obtain ⟨b,q⟩:=y
      have hl : s.length = q.length + 1:=by rw [eS hb];rfl
      cases b with
      | false=>cases e;omega
      | true =>
       dsimp only at e
       cases hf : rb ts n k q with
       | none=>rw [hf] at e;cases e
       | some y=>rw [hf] at e;obtain ⟨w,q2⟩:=y;cases e;have:=ih _ _ _ _ hf;dsimp only;omega
    ·split at e
     ·exact sw e
     ·split at e
      ·cases hn : bj s with
       | none=>rw [hn] at e;cases e
       | some y=>rw [hn] at e;obtain ⟨a,q⟩:=y;cases e;exact bT hn
      ·split at e
       ·split at e
        ·cases e
        ·rename_i p q hp
         have hl2:=dZ hp
         split at e
         ·cases e;omega
         ·cases e
       ·split at e
        ·cases hb : cq s with
         | none=>rw [hb] at e;cases e
         | some y=>rw [hb] at e;obtain ⟨b,q⟩:=y;have hl : s.length = q.length + 1:=by { rw [eS hb];rfl };cases e;dsimp only;omega
        ·cases e
theorem zy {n : Nat} {k : act} : rb ts n k [] = none:=by
 cases h : rb ts n k [] with
 | none=>rfl
 | some x=>have:=oc n k [] x.1 x.2 h;simp at this
theorem uX {n : Nat} {k s : act} : rb ts (n + 1) (91 :: k) s = match bj s with
      | none=>none
      | some (m,r)=>if m ≤ 20 then (bA (rb ts n k) m.toNat r []).map fun x=>(.nd 91 [] 0 x.1,x.2) else none:=by
  rw [rb];unfold ff;dsimp only;rw [if_pos dC]
  all_goals (rcases bj s with _ | ⟨b,r⟩)
  all_goals rfl
theorem uW {n : Nat} {k s : act} : rb ts (n + 1) (63 :: k) s = match cq s with
      | none=>none
      | some (false,r)=>some (.nd 63 [] 0 [],r)
      | some (true,r)=>(rb ts n k r).map fun x=>(.nd 63 [] 0 [x.1],x.2):=by
  rw [rb];unfold ff;dsimp only;rw [if_neg dC,if_pos dC]
  all_goals (rcases cq s with _ | ⟨b,r⟩)
  all_goals (try cases b)
  all_goals rfl
theorem wt {n : Nat} {r s : act} {t : Ty} (h : aX ts (64 :: r) = some t) : rb ts (n + 1) (64 :: r) s = bS ts (rb ts n) t s:=by
 rw [rb];unfold ff;dsimp only;rw [if_neg dC,if_neg dC,h]
theorem zz {n : Nat} {s : act} (h : aX ts [110] = none) : rb ts (n + 1) [110] s = (bj s).map fun x=>(.nd 110 (br x.1) 0 [],x.2):=by
 rw [rb];unfold ff;dsimp only;rw [if_neg dC,if_neg dC,h];dsimp only;rw [if_pos dC]
theorem zx {n : Nat} {s : act} (h : aX ts [116] = none) : rb ts (n + 1) [116] s = match cd s with
          | none=>none
          | some (p,r)=>if db (39 :: (p ++ [39])) = true then some (.nd 116 p 0 [],r) else none:=by
  rw [rb];unfold ff;dsimp only;rw [if_neg dC,if_neg dC,h];dsimp only;rw [if_neg dC,if_pos dC]
  all_goals (rcases cd s with _ | ⟨b,r⟩)
  all_goals rfl
theorem zB {n : Nat} {s : act} (h : aX ts [102] = none) : rb ts (n + 1) [102] s = (cq s).map fun x=>(.nd 102 (if x.1 = true then [121,101,115] else [110,111]) 0 [],x.2):=by
 rw [rb];unfold ff;dsimp only;rw [if_neg dC,if_neg dC,h];dsimp only;rw [if_neg dC,if_neg dC,if_pos dC]
theorem mX {f : act → Option (V × act)} (h : ∀ s v r,f s = some (v,r) → v.tot + 100 * r.length ≤ 100 * s.length) : ∀ (m : Nat) (s : act) (acc : List V) {x : List V × act},bA f m s acc = some x → V.tots x.1 + 100 * x.2.length ≤ V.tots acc + 100 * s.length
 | 0,s,acc,x,e=>by simp only [bA,Option.some.injEq] at e;subst e;exact Nat.le_refl _
 | m + 1,s,acc,x,e=>by
  unfold bA at e
  cases hf : f s with
  | none=>rw [hf] at e;cases e
  | some y =>
   rw [hf] at e
   obtain ⟨v,r⟩:=y
   have h1:=mX h m r _ e
   have h2:=h _ _ _ hf
   have e2 : V.tots (acc ++ [v]) = V.tots acc + v.tot:=by simp [eP,V.tots]
   omega
theorem kV {f : act → act → Option (V × act)} (h : ∀ k s v r,f k s = some (v,r) → v.tot + 100 * r.length ≤ 100 * s.length) {t : Ty} : ∀ (m : Nat) (last : Int) (s : act) (acc : List V) {x : List V × act},bH ts f t m last s acc = some x → V.tots x.1 + 100 * x.2.length + 100 ≤ V.tots acc + 100 * s.length
 | 0,_,_,_,_,e=>by cases e
 | m + 1,last,s,acc,x,e=>by
  unfold bH at e
  cases hn : bj s with
  | none=>rw [hn] at e;cases e
  | some y =>
   rw [hn] at e
   obtain ⟨n,r⟩:=y
   have hl:=bT hn
   dsimp only at e
   split at e
   ·simp only [Option.some.injEq] at e;subst e;dsimp only;omega
   ·split at e
    ·cases e
    ·rename_i p r' hp
     have hl2:=dZ hp
     split at e
     ·cases e
     ·split at e
      ·have:=kV h m n r' _ e;omega
      ·rename_i d hd
       split at e
       ·cases e
       ·rename_i v hv
        have h1:=kV h m n r' _ e
        have h2:=h _ _ _ _ (cN hv)
        have e2 : V.tots (acc ++ [V.nd 61 [] d.tag [v]]) = V.tots acc + (20 + v.tot):=by simp [eP,V.tots,V.tot]
        simp only [List.length_nil] at h2
        split at h1
        ·omega
        ·omega
theorem sv {f : act → act → Option (V × act)} (h : ∀ k s v r,f k s = some (v,r) → v.tot + 100 * r.length ≤ 100 * s.length) {t : Ty} {s r : act} {v : V} (e : bS ts f t s = some (v,r)) : v.tot + 100 * r.length ≤ 100 * s.length:=by
 unfold bS at e
 split at e
 ·cases hi : bH ts f t (s.length + 1) 0 s [] with
  | none=>rw [hi] at e;cases e
  | some y =>
   rw [hi] at e;cases e
   have:=kV h _ _ _ _ hi
   simp only [V.tot,V.tots,List.length_nil] at this ⊢;omega
 ·split at e
  ·cases e
  ·rename_i n q hn
   have hl:=bT hn
   split at e
   ·cases e
   ·rename_i d _
    split at e
    ·cases e;simp only [V.tot,V.tots,List.length_nil];omega
    ·split at e
     ·cases e
     ·rename_i p r' hp
      have hl2:=dZ hp
      cases ha : cP f d.kind p with
      | none=>rw [ha] at e;cases e
      | some w =>
       rw [ha] at e;cases e
       have:=h _ _ _ _ (cN ha)
       simp only [V.tot,V.tots,List.length_nil] at this ⊢;omega
theorem i7 : ∀ (n : Nat) (k s : act) (v : V) (r : act),rb ts n k s = some (v,r) → v.tot + 100 * r.length ≤ 100 * s.length
 | 0,_,_,_,_,e=>by cases e
 | n + 1,k,s,v,r,e=>by
  have ih:=i7 n
  replace e : ff ts (rb ts n) k s = some (v,r):=e
  cases k with
  | nil=>cases e
  | cons c k =>
   unfold ff at e
   dsimp only at e
   split at e
   ·split at e
    ·cases e
    ·rename_i q1 q hn
     have hl:=bT hn
     split at e
     ·cases hi : bA (rb ts n k) q1.toNat q [] with
      | none=>rw [hi] at e;cases e
      | some y =>
       rw [hi] at e;cases e
       have:=mX (ih k) _ _ _ hi
       simp only [V.tot,V.tots,List.length_nil] at this ⊢;omega
     ·cases e
   ·split at e
    ·cases hb : cq s with
     | none=>rw [hb] at e;cases e
     | some y =>
      rw [hb] at e
      obtain ⟨b,q⟩:=y
      have hl : s.length = q.length + 1:=by rw [eS hb];rfl
      cases b with
      | false=>cases e;simp only [V.tot,V.tots,List.length_nil];omega
      | true =>
       dsimp only at e
       cases hf : rb ts n k q with
       | none=>rw [hf] at e;cases e
       | some y=>rw [hf] at e;obtain ⟨w,q2⟩:=y;cases e;have:=ih _ _ _ _ hf;simp only [V.tot,V.tots,List.length_nil];omega
    ·split at e
     ·exact sv ih e
     ·split at e
      ·cases hn : bj s with
       | none=>rw [hn] at e;cases e
       | some y =>
        rw [hn] at e;obtain ⟨a,q⟩:=y;cases e
        have hl:=bT hn
        obtain ⟨h0,h1,_⟩:=cF hn
        have:=vx (m:=a) h1
        simp only [V.tot,V.tots];omega
      ·split at e
       ·split at e
        ·cases e
        ·rename_i p q hp
         have hl2:=dZ hp
         split at e
         ·cases e;simp only [V.tot,V.tots];omega
         ·cases e
       ·split at e
        ·cases hb : cq s with
         | none=>rw [hb] at e;cases e
         | some y =>
          rw [hb] at e;obtain ⟨b,q⟩:=y
          have hl : s.length = q.length + 1:=by rw [eS hb];rfl
          cases e
          cases b
          all_goals (simp [V.tot,V.tots];omega)
        ·cases e
theorem lV {f : act → Option (V × act)} {m : Nat} {t r : act} {acc : List V} {v : V} (hf : f t = some (v,r)) : bA f (m + 1) t acc = bA f m r (acc ++ [v]):=by
 rw [bA,hf]
theorem od {f : act → Option (V × act)} {m : Nat} {t : act} {acc : List V} (hf : f t = none) : bA f (m + 1) t acc = none:=by
 rw [bA,hf]
theorem qZ {f : act → act → Option (V × act)} {ty : Ty} {m : Nat} {la : Int} {t r : act} {acc : List V} (h : bj t = some (0,r)) : bH ts f ty (m + 1) la t acc = some (acc,r):=by rw [bH,h];dsimp only;rw [if_pos rfl]
theorem ol {f : act → act → Option (V × act)} {ty : Ty} {m : Nat} {la : Int} {t : act} {acc : List V} (h : bj t = none) : bH ts f ty (m + 1) la t acc = none:=by rw [bH,h]
theorem kW {f : act → act → Option (V × act)} {ty : Ty} {m : Nat} {la n : Int} {t r : act} {acc : List V} (h : bj t = some (n,r)) (h0 : n ≠ 0) (hp : cd r = none) : bH ts f ty (m + 1) la t acc = none:=by rw [bH,h];dsimp only;rw [if_neg h0,hp]
theorem oi {f : act → act → Option (V × act)} {ty : Ty} {m : Nat} {la n : Int} {t r p r' : act} {acc : List V} (h : bj t = some (n,r)) (h0 : n ≠ 0) (hp : cd r = some (p,r')) (hl : n ≤ la) : bH ts f ty (m + 1) la t acc = none:=by rw [bH,h];dsimp only;rw [if_neg h0,hp];dsimp only;rw [if_pos hl]
theorem m1 {f : act → act → Option (V × act)} {ty : Ty} {m : Nat} {la n : Int} {t r p r' : act} {acc : List V} (h : bj t = some (n,r)) (h0 : n ≠ 0) (hp : cd r = some (p,r')) (hl : ¬ n ≤ la) (hd : bK ty.fields n = none) : bH ts f ty (m + 1) la t acc = bH ts f ty m n r' acc:=by rw [bH,h];dsimp only;rw [if_neg h0,hp];dsimp only;rw [if_neg hl,hd]
theorem oh {f : act → act → Option (V × act)} {ty : Ty} {m : Nat} {la n : Int} {t r p r' : act} {acc : List V} {d : Fld} (h : bj t = some (n,r)) (h0 : n ≠ 0) (hp : cd r = some (p,r')) (hl : ¬ n ≤ la) (hd : bK ty.fields n = some d) (ha : cP f d.kind p = none) : bH ts f ty (m + 1) la t acc = none:=by rw [bH,h];dsimp only;rw [if_neg h0,hp];dsimp only;rw [if_neg hl,hd];dsimp only;rw [ha]
theorem og {f : act → act → Option (V × act)} {ty : Ty} {m : Nat} {la n : Int} {t r p r' : act} {acc : List V} {d : Fld} {v : V} (h : bj t = some (n,r)) (h0 : n ≠ 0) (hp : cd r = some (p,r')) (hl : ¬ n ≤ la) (hd : bK ty.fields n = some d) (ha : cP f d.kind p = some v) : bH ts f ty (m + 1) la t acc = bH ts f ty m n r' (if v.out = cT ts d then acc else acc ++ [.nd 61 [] d.tag [v]]):=by rw [bH,h];dsimp only;rw [if_neg h0,hp];dsimp only;rw [if_neg hl,hd];dsimp only;rw [ha]
open Go.Proofs
variable {G : Gh}
def kz (n : Int) : Value:=if 0 ≤ n ∧ n ≤ 999999 then Tu [S (aK n),Bo true] else Tu [S [],Bo false]
theorem v8 {n : Int} : av acs 78 [I n] G (· = kz n):=by
 refine jE [(0,_)] Tryz.func78 Tryz.ntmps78 fun B hB=>?_
 repeat' (first | refine jR ?_ | (refine jo ?_;first | refine aE F ?_ | refine aq F ?_) | refine dA F F (fun _=>?_) (fun _=>?_) | refine ac F F ?_ | refine cR F (fun _=>?_) (fun _=>?_))
 ·refine jY (vs:=[_,_]) ?_
  rw [dK,kz,if_neg oM]
 ·refine jY (vs:=[_,_]) ?_
  rw [dK,kz,if_neg oM]
 ·refine Nx.addNil 5 1 ?_
  refine aR (ι:=Value × act × Int) (fun i=>0 ≤ i.2.2 ∧ i.2.2 ≤ 999999 ∧ i.2.1 ++ aK i.2.2 = aK n ∧ i.2.1.length ≤ 100) (fun i=>[(0,I i.2.2),(4,i.1)]) (fun _=>G) (fun i=>[.acc i.1 5 1 i.2.1.length (bi i.2.1)]) (fun i=>i.2.2.toNat) (aH,[],n) ?_ tU F aW (fun i hI=>?_)
  ·dsimp only;refine ⟨?_,?_,?_,?_⟩ <;> first | omega | simp
  ·obtain ⟨v,l,m⟩:=i
   dsimp only at hI ⊢
   repeat' (first | refine jM ?_ | (refine jo ?_;first | refine jF fun _=>?_ | refine mJ F F F F F F F F oM fun _=>?_ | refine jV (abq F (by (repeat (first | exact BL.nil | apply BL.cons | apply BL.ap));done)) ?_) | refine cR F (fun _=>?_) (fun _=>?_))
   ·have h1:=gi (n:=m) oM
    (refine aY (_,l ++ [u8 (m % 128 + 128)],m / 128) ?_ ?_ tU F (by (dsimp only;simp only [wi,List.length_append,List.length_cons,List.length_nil,Nat.zero_add];repeat (first | exact List.nil_sublist _ | apply List.Sublist.cons_cons))))
    ·refine ⟨?_,?_,?_,?_⟩ <;> dsimp only
     ·omega
     ·omega
     ·rw [← hI.2.2.1,h1,Int.add_comm];simp
     ·have:=b8 (n:=n) oM
      rw [← hI.2.2.1,h1] at this
      simp at this ⊢;omega
    ·dsimp only;omega
   ·refine jY (vs:=[_,_]) ?_
    rw [dK,kz,if_pos oM,← hI.2.2.1,ec oM hI.1]
theorem fz {n : Int} (h : 0 ≤ n ∧ n ≤ 999999) : av acs 41 [I n] G (· = S (aK n)):=by
 have e : kz n = Tu [S (aK n),Bo true]:=by rw [kz,if_pos h]
 have cx_NumPut : av acs 78 [I n] G (· = Tu [S (aK n),Bo true]):=by rw [← e];exact v8
 refine jE [(0,_)] Tryz.func41 Tryz.ntmps41 fun B hB=>?_
 repeat' (first | refine jR ?_ | (refine jo ?_;refine ab F F F cx_NumPut F ?_))
 refine jY (vs:=[_]) ?_
 rfl
theorem py {s : act} (h : s.length ≤ 999999) : av acs 71 [S s] G (· = S (aK s.length ++ s)):=by
 have:=b8 (n:=s.length) oM
 refine jE [(0,_)] Tryz.func71 Tryz.ntmps71 fun B hB=>?_
 repeat' (first | refine jM ?_ | (refine jo ?_;refine ab F F F (fz oM) F ?_))
 refine jY (vs:=[_]) ?_
 rfl
theorem qD {s : act} (h : s.length ≤ 9000000000000000000) : av acs 33 [S s] G (· = I (bz s)):=by
 refine jE [(0,_)] Tryz.func33 Tryz.ntmps33 fun B hB=>?_
 repeat' (refine jR ?_)
 refine aR (ι:=Nat × Int) (fun i=>i.1 ≤ s.length ∧ 0 ≤ i.2 ∧ i.2 < 9973 ∧ gM i.2 (s.drop i.1) = bz s) (fun i=>[(0,S s),(3,I i.2),(6,I s.length),(7,I i.1)]) (fun _=>G) (fun i=>[]) (fun i=>s.length - i.1) (0,1) ?_ tU F aW (fun i hI=>?_)
 ·dsimp only;refine ⟨?_,?_,?_,?_⟩ <;> first | omega | rfl
 ·obtain ⟨i,m⟩:=i
  dsimp only at hI ⊢
  have:=gH s i
  repeat' (first | refine jX ?_ | refine cR F (fun _=>?_) (fun _=>?_))
  ·obtain ⟨c,h1,h2⟩:=fL (l:=s) (i:=i) oM
   refine aY (i + 1,(m * 31 + bt s i) % 9973) ?_ ?_ tU F aW
   ·refine ⟨?_,?_,?_,?_⟩ <;> dsimp only
    ·omega
    ·omega
    ·omega
    ·rw [← hI.2.2.2,h1,h2];rfl
   ·dsimp only;omega
  ·refine jY (vs:=[_]) ?_
   have : i = s.length:=oM
   rw [ax,← hI.2.2.2,this,List.drop_length];rfl
theorem fc {s : act} (h : s.length ≤ 9000000000000000000) : av acs 37 [S s] G (· = I (bz s)):=by
 refine jE [(0,_)] Tryz.func37 Tryz.ntmps37 fun B hB=>?_
 repeat' (refine jR ?_)
 refine aR (ι:=Nat × Int) (fun i=>i.1 ≤ s.length ∧ 0 ≤ i.2 ∧ i.2 < 9973 ∧ gM i.2 (s.drop i.1) = bz s) (fun i=>[(0,S s),(3,I i.2),(4,I i.1)]) (fun _=>G) (fun i=>[]) (fun i=>s.length - i.1) (0,1) ?_ tU F aW (fun i hI=>?_)
 ·dsimp only;refine ⟨?_,?_,?_,?_⟩ <;> first | omega | rfl
 ·obtain ⟨i,m⟩:=i
  dsimp only at hI ⊢
  have:=gH s i
  repeat' (first | refine jX ?_ | refine cR F (fun _=>?_) (fun _=>?_))
  ·obtain ⟨c,h1,h2⟩:=fL (l:=s) (i:=i) oM
   refine aY (i + 1,(31 * m + bt s i) % 9973) ?_ ?_ tU F aW
   ·refine ⟨?_,?_,?_,?_⟩ <;> dsimp only
    ·omega
    ·omega
    ·omega
    ·rw [← hI.2.2.2,h1,h2,Int.mul_comm];rfl
   ·dsimp only;omega
  ·refine jY (vs:=[_]) ?_
   have : i = s.length:=oM
   rw [ax,← hI.2.2.2,this,List.drop_length];rfl
theorem m7 {s : act} (h : s.length ≤ 9000000000000000000) : av acs 40 [S s] G (· = Tu [S (gJ s),Bo (oG s)]):=by
 have h1:=ch s
 have h2:=gN s
 have h3 : s.length ≤ 100 → (aK s.length).length ≤ 3:=fun h=>b8 oM
 refine jE [(0,_)] Tryz.func40 Tryz.ntmps40 fun B hB=>?_
 repeat' (first | refine jX ?_ | (refine jo ?_;first | refine ab F F F (py oM) F ?_ | refine ab F F F (qD ‹_›) F ?_ | refine ab F F F (fz oM) F ?_) | refine cR F (fun _=>?_) (fun _=>?_))
 ·refine jY (vs:=[_,_]) ?_
  exact xx oM
 ·refine jY (vs:=[_,_]) ?_
  rw [dK,← vn oM]
  simp [frame]
  rfl
theorem vM {s : act} (h : s.length ≤ 999999) : av acs 80 [S s] G (· = S (frame s)):=by
 have h1:=ch s
 have h2:=gN s
 have h3 : (aK s.length).length ≤ 3:=b8 oM
 refine jE [(0,_)] Tryz.func80 Tryz.ntmps80 fun B hB=>?_
 repeat' (first | refine jR ?_ | (refine aj (an (id:=1) _ (fun _ h=>h) ai ?_);refine jT 9 [2,3,6,8] (aa 13 332) ?_;refine cy [0,4] kR dC ⟨?_,?_,trivial⟩;(focus (refine a9 F F ?_;(refine jF fun _=>?_);refine jS (aa 13 333) ?_;((refine jG (aa 13 335) 1 F (dc F F (by (repeat (first | exact BL.nil | apply BL.lit rfl));done)) ?_));refine jA 4 F ?_;((refine ab F F F (dk ?_) F ?_;focus omega));refine jS (aa 13 351) ?_;refine jW 4 [5,7] (aa 13 511) ?_;refine jA 9 F ?_;((refine ab F F F (fc ?_) F ?_;focus omega));refine jS (aa 13 1023) ?_;refine jA 10 F ?_;((refine ab F F F (dk ?_) F ?_;focus omega));refine jS (aa 13 2047) ?_;refine jW 0 [11,12] (aa 13 8191) ?_;refine jQ ?_));rotate_left 1;(focus (refine a9 F F ?_;((refine ab F F F (dk ?_) F ?_;focus omega));refine jS (aa 13 348) ?_;refine cy [0,9] kR dC ⟨?_,?_,trivial⟩;(focus (refine a9 F F ?_;(refine jF fun _=>?_);refine jS (aa 13 349) ?_;((refine jG (aa 13 351) 1 F (dc F F (by (repeat (first | exact BL.nil | apply BL.lit rfl));done)) ?_));refine jW 4 [5,7] (aa 13 511) ?_;refine jA 9 F ?_;((refine ab F F F (fc ?_) F ?_;focus omega));refine jS (aa 13 1023) ?_;refine jA 10 F ?_;((refine ab F F F (dk ?_) F ?_;focus omega));refine jS (aa 13 2047) ?_;refine jW 0 [11,12] (aa 13 8191) ?_;refine jQ ?_));rotate_left 1;(focus (refine a9 F F ?_;((refine ab F F F (fc ?_) F ?_;focus omega));refine jS (aa 13 860) ?_;refine cy [0,10] kR dC ⟨?_,?_,trivial⟩;(focus (refine a9 F F ?_;(refine jF fun _=>?_);refine jS (aa 13 861) ?_;((refine jG (aa 13 863) 1 F (dc F F (by (repeat (first | exact BL.nil | apply BL.lit rfl));done)) ?_));refine jW 3 [5,7] (aa 13 1023) ?_;refine jA 10 F ?_;((refine ab F F F (dk ?_) F ?_;focus omega));refine jS (aa 13 2047) ?_;refine jW 0 [11,12] (aa 13 8191) ?_;refine jQ ?_));rotate_left 1;(focus (refine a9 F F ?_;((refine ab F F F (dk ?_) F ?_;focus omega));refine jS (aa 13 1884) ?_;refine jA 0 F ?_;(refine jF fun _=>?_);refine jS (aa 13 1885) ?_;((refine jG (aa 13 1887) 1 F (dc F F (by (repeat (first | exact BL.nil | apply BL.lit rfl));done)) ?_));refine jW 0 [5,7,11,12] (aa 13 8191) ?_;refine jQ ?_));rotate_left 1));rotate_left 2));rotate_left 3))
 all_goals refine jY (vs:=[_]) ?_
 all_goals (rw [ax];simp [frame])
theorem sG {s : act} (h : s.length ≤ 9000000000000000000) : av acs 44 [S s] G (· = Tu [S (gJ s),Bo (oG s)]):=by
 refine jE [(0,_)] Tryz.func44 Tryz.ntmps44 fun B hB=>?_
 repeat' (first | refine jR ?_ | (refine jo ?_;refine ab F F F (vM oM) F ?_) | refine cR F (fun _=>?_) (fun _=>?_))
 ·refine jY (vs:=[_,_]) ?_
  exact xx oM
 ·refine jY (vs:=[_,_]) ?_
  exact vn oM
def ngV (o : Option (Int × act)) : Value:=match o with
 | some (n,r)=>Tu [I n,S r,Bo true]
 | none=>Tu [I 0,S [],Bo false]
def tkV (o : Option (act × act)) : Value:=match o with
 | some (p,r)=>Tu [S p,S r,Bo true]
 | none=>Tu [S [],S [],Bo false]
def fE : Nat → Nat → act → Option (Int × act)
 | 0,_,s=>bj s
 | 1,m,s=>fV m s
 | 2,m,s=>fG m s
 | _,_,_=>none
theorem pQ : ∀ {i m : Nat},fE i m [] = none
 | 0,_=>rfl
 | 1,_=>rfl
 | 2,_=>rfl
 | _ + 3,_=>rfl
def dm : Nat → Int
 | 0=>1
 | 1=>128
 | 2=>16384
 | _=>2097152
def jm : Nat → Nat
 | 0=>1
 | 1=>128
 | 2=>16384
 | _=>2097152
theorem pT {m : Nat} {c : UInt8} {r : act} (h : c.toNat < 128) : fE 0 m (c :: r) = some ((c.toNat : Int),r):=by show bj (c :: r) = _;rw [bj,if_pos h]
theorem pW {m : Nat} {c : UInt8} {r : act} (h : ¬ c.toNat < 128) : fE 0 m (c :: r) = fE 1 (c.toNat % 128) r:=by show bj (c :: r) = fV (c.toNat % 128) r;rw [bj,if_neg h]
theorem mE {i m : Nat} {c : UInt8} {r : act} (h : c.toNat = 0) (hi : 1 ≤ i) : fE i m (c :: r) = none:=by
 match i,hi with
 | 1,_=>show fV m (c :: r) = none;rw [fV,if_pos oM,if_pos h]
 | 2,_=>show fG m (c :: r) = none;rw [fG,if_pos oM,if_pos (.inl h)]
 | _ + 3,_=>rfl
theorem pS {m : Nat} {c : UInt8} {r : act} (h : c.toNat < 128) (h0 : c.toNat ≠ 0) : fE 1 m (c :: r) = some (((m + c.toNat * 128 : Nat) : Int),r):=by show fV m (c :: r) = _;rw [fV,if_pos h,if_neg h0]
theorem pV {m : Nat} {c : UInt8} {r : act} (h : ¬ c.toNat < 128) : fE 1 m (c :: r) = fE 2 (m + c.toNat % 128 * 128) r:=by show fV m (c :: r) = fG (m + c.toNat % 128 * 128) r;rw [fV,if_neg h]
theorem pR {m : Nat} {c : UInt8} {r : act} (h : c.toNat < 128) (h0 : c.toNat ≠ 0) (hm : m + c.toNat * 16384 ≤ 999999) : fE 2 m (c :: r) = some (((m + c.toNat * 16384 : Nat) : Int),r):=by show fG m (c :: r) = _;rw [fG,if_pos h,if_neg oM]
theorem pX {m : Nat} {c : UInt8} {r : act} (h : c.toNat < 128) (hm : ¬ m + c.toNat * 16384 ≤ 999999) : fE 2 m (c :: r) = none:=by show fG m (c :: r) = _;rw [fG,if_pos h,if_pos oM]
theorem pU {m : Nat} {c : UInt8} {r : act} (h : ¬ c.toNat < 128) : fE 2 m (c :: r) = none:=by show fG m (c :: r) = _;rw [fG,if_neg h]
theorem eN {s : act} (hs : s.length ≤ 1000000) : av acs 106 [S s] G (· = ngV (bj s)):=by
 refine jE [(0,_)] Tryz.func106 Tryz.ntmps106 fun B hB=>?_
 repeat' (refine jR ?_)
 refine aR (ι:=Nat × Nat) (fun q=>(q.1 ≤ s.length ∧ q.1 ≤ 3) ∧ q.2 < jm q.1 ∧ bj s = fE q.1 q.2 (s.drop q.1)) (fun q=>[(0,S s),(5,I q.2),(6,I (dm q.1)),(7,I q.1)]) (fun _=>G) (fun q=>[]) (fun q=>s.length - q.1) (0,0) ?_ tU F aW (fun q Hq=>?_)
 ·exact ⟨⟨Nat.zero_le _,by decide⟩,by decide,F⟩
 obtain ⟨i,m⟩:=q
 dsimp only at Hq ⊢
 obtain ⟨⟨hi0,hi3⟩,hm,hng⟩:=Hq
 by_cases hi : i < s.length
 case neg =>
  have hno : bj s = none:=by rw [hng,List.drop_of_length_le oM];exact pQ
  rw [hno]
  repeat' (first | refine jR ?_ | (refine jo ?_;refine aq F ?_) | refine al F F (ay oM) ?_ | refine ad F F ?_)
  all_goals refine jY (vs:=[_,_,_]) ?_
  all_goals rfl
 by_cases h3 : i = 3
 ·subst h3
  have hno : bj s = none:=by rw [hng];rfl
  rw [hno]
  repeat' (first | refine jR ?_ | (refine jo ?_;refine aE F ?_) | refine aw F F (ar oM) ?_ | refine ad F F ?_)
  all_goals refine jY (vs:=[_,_,_]) ?_
  all_goals rfl
 obtain ⟨c,hc1,hc2⟩:=fL hi
 rw [hc1] at hng
 have hc3 : bt s ((i : Int).toNat) = c.toNat:=hc2
 have hcl:=c.toNat_lt
 have hdl : s.drop ((i : Int) + 1).toNat = s.drop (i + 1):=by congr 1
 obtain rfl | rfl | rfl : i = 0 ∨ i = 1 ∨ i = 2:=oM
 ·have hm : m < 1:=hm
  rw [show dm 0 = 1 from rfl]
  by_cases h1 : c.toNat < 128
  ·rw [pT h1] at hng
   rw [hng]
   repeat' (first | refine jM ?_ | (refine jo ?_;first | refine aE F ?_ | refine aq F ?_) | refine aw F F (ar oM) ?_ | refine al F F F ?_ | (refine ac F (by first | rfl | (refine decide_eq_true ?_;(omega))) ?_) | refine ad F (ay oM) ?_ | (refine aj (an (id:=11) _ (fun _ h=>h) ai ?_);refine jW 0 [0,1,2,3,4,5,6,7] (aa 8 255) ?_;refine jQ ?_))
   all_goals (try rw [hdl])
   all_goals refine jY (vs:=[_,_,_]) ?_
   all_goals (rw [hc3];exact (aB _ _ _).trans (congrArg (fun z : Int=>Tu [I z,S (s.drop (0 + 1)),Bo true]) oM))
  ·rw [pW h1] at hng
   repeat' (first | refine jM ?_ | (refine jo ?_;refine aE F ?_) | refine aw F F (ar oM) ?_ | refine ac F F ?_ | refine ad F (ay oM) ?_)
   refine Nx.re (d:=5) (v':=I ((c.toNat % 128 : Nat) : Int)) F (congrArg (Value.int .i64) (by rw [hc3];omega)) ?_
   refine Nx.re (d:=6) (v':=I (dm 1)) F (congrArg (Value.int .i64) F) ?_
   refine Nx.re (d:=7) (v':=I ((1 : Nat) : Int)) F (congrArg (Value.int .i64) F) ?_
   exact aY (1,c.toNat % 128) ⟨⟨oM,oM⟩,by show _ < _;simp only [jm];omega,hng⟩ oM tU rfl aW
 ·have hm : m < 128:=hm
  rw [show dm 1 = 128 from rfl]
  by_cases h1 : c.toNat < 128
  ·by_cases h0 : c.toNat = 0
   ·rw [mE h0 dC] at hng
    rw [hng]
    repeat' (first | refine jM ?_ | (refine jo ?_;refine aE F ?_) | (refine aw F F (by first | rfl | (refine decide_eq_true ?_;(omega))) ?_) | (refine ac F (by first | rfl | (refine decide_eq_true ?_;(omega))) ?_))
    all_goals refine jY (vs:=[_,_,_]) ?_
    all_goals rfl
   rw [pS h1 h0] at hng
   rw [hng]
   repeat' (first | refine jM ?_ | (refine jo ?_;first | refine aE F ?_ | refine aq F ?_) | (refine aw F F (by first | rfl | (refine decide_eq_true ?_;(omega))) ?_) | refine al F F (ay oM) ?_ | (refine ac F (by first | rfl | (refine decide_eq_true ?_;(omega))) ?_) | refine ad F (ay oM) ?_ | (refine aj (an (id:=11) _ (fun _ h=>h) ai ?_);refine jW 0 [0,1,2,3,4,5,6,7] (aa 8 255) ?_;refine jQ ?_))
   all_goals (try rw [hdl])
   all_goals refine jY (vs:=[_,_,_]) ?_
   all_goals (rw [hc3];exact (aB _ _ _).trans (congrArg (fun z : Int=>Tu [I z,S (s.drop (1 + 1)),Bo true]) oM))
  ·rw [pV h1] at hng
   repeat' (first | refine jM ?_ | (refine jo ?_;refine aE F ?_) | refine aw F F (ar oM) ?_ | refine ac F F ?_ | refine ad F (ay oM) ?_)
   refine Nx.re (d:=5) (v':=I ((m + c.toNat % 128 * 128 : Nat) : Int)) F (congrArg (Value.int .i64) (by rw [hc3];omega)) ?_
   refine Nx.re (d:=6) (v':=I (dm 2)) F (congrArg (Value.int .i64) (by show _ = (16384 : Int);omega)) ?_
   refine Nx.re (d:=7) (v':=I ((2 : Nat) : Int)) F (congrArg (Value.int .i64) F) ?_
   exact aY (2,m + c.toNat % 128 * 128) ⟨⟨oM,oM⟩,by show _ < _;simp only [jm];omega,hng⟩ oM tU rfl aW
 ·have hm : m < 16384:=hm
  rw [show dm 2 = 16384 from rfl]
  by_cases h1 : c.toNat < 128
  ·by_cases h0 : c.toNat = 0
   ·rw [mE h0 dC] at hng
    rw [hng]
    repeat' (first | refine jM ?_ | (refine jo ?_;refine aE F ?_) | (refine aw F F (by first | rfl | (refine decide_eq_true ?_;(omega))) ?_) | (refine ac F (by first | rfl | (refine decide_eq_true ?_;(omega))) ?_))
    all_goals refine jY (vs:=[_,_,_]) ?_
    all_goals rfl
   by_cases hbig : m + c.toNat * 16384 ≤ 999999
   case neg =>
    rw [pX h1 hbig] at hng
    rw [hng]
    repeat' (first | refine jM ?_ | (refine jo ?_;first | refine aE F ?_ | refine aq F ?_) | (refine aw F F (by first | rfl | (refine decide_eq_true ?_;(omega))) ?_) | refine al F F (ay oM) ?_ | (refine ac F (by first | rfl | (refine decide_eq_true ?_;(omega))) ?_))
    all_goals refine jY (vs:=[_,_,_]) ?_
    all_goals rfl
   rw [pR h1 h0 hbig] at hng
   rw [hng]
   repeat' (first | refine jM ?_ | (refine jo ?_;first | refine aE F ?_ | refine aq F ?_) | (refine aw F F (by first | rfl | (refine decide_eq_true ?_;(omega))) ?_) | refine al F F (ay oM) ?_ | (refine ac F (by first | rfl | (refine decide_eq_true ?_;(omega))) ?_) | refine ad F (ay oM) ?_ | (refine aj (an (id:=11) _ (fun _ h=>h) ai ?_);refine jW 0 [0,1,2,3,4,5,6,7] (aa 8 255) ?_;refine jQ ?_))
   all_goals (try rw [hdl])
   all_goals refine jY (vs:=[_,_,_]) ?_
   all_goals (rw [hc3];exact (aB _ _ _).trans (congrArg (fun z : Int=>Tu [I z,S (s.drop (2 + 1)),Bo true]) oM))
  ·rw [pU h1] at hng
   repeat' (first | refine jM ?_ | (refine jo ?_;refine aE F ?_) | refine aw F F (ar oM) ?_ | refine ac F F ?_ | refine ad F (ay oM) ?_)
   refine Nx.re (d:=5) (v':=I ((m + c.toNat % 128 * 16384 : Nat) : Int)) F (congrArg (Value.int .i64) (by rw [hc3];omega)) ?_
   refine Nx.re (d:=6) (v':=I (dm 3)) F (congrArg (Value.int .i64) (by show _ = (2097152 : Int);omega)) ?_
   refine Nx.re (d:=7) (v':=I ((3 : Nat) : Int)) F (congrArg (Value.int .i64) F) ?_
   exact aY (3,m + c.toNat % 128 * 16384) ⟨⟨oM,oM⟩,by show _ < _;simp only [jm];omega,hng⟩ oM tU rfl aW
theorem mn {s : act} (hs : s.length ≤ 1000000) : av acs 31 [S s] G (· = ngV (bj s)):=by
 refine jE [(0,_)] Tryz.func31 Tryz.ntmps31 fun B hB=>?_
 repeat' (refine jR ?_)
 refine aR (ι:=Nat × Nat) (fun q=>(q.1 ≤ s.length ∧ q.1 ≤ 3) ∧ q.2 < jm q.1 ∧ bj s = fE q.1 q.2 (s.drop q.1)) (fun q=>[(0,S s),(5,I q.2),(6,I (dm q.1)),(7,I q.1)]) (fun _=>G) (fun q=>[]) (fun q=>s.length - q.1) (0,0) ?_ tU F aW (fun q Hq=>?_)
 ·exact ⟨⟨Nat.zero_le _,by decide⟩,by decide,F⟩
 obtain ⟨i,m⟩:=q
 dsimp only at Hq ⊢
 obtain ⟨⟨hi0,hi3⟩,hm,hng⟩:=Hq
 by_cases hi : i < s.length
 case neg =>
  have hno : bj s = none:=by rw [hng,List.drop_of_length_le oM];exact pQ
  rw [hno]
  repeat' (first | refine jR ?_ | (refine jo ?_;refine aq F ?_) | refine al F F (ay oM) ?_ | refine ad F F ?_)
  all_goals refine jY (vs:=[_,_,_]) ?_
  all_goals rfl
 by_cases h3 : i = 3
 ·subst h3
  have hno : bj s = none:=by rw [hng];rfl
  rw [hno]
  repeat' (first | refine jR ?_ | (refine jo ?_;refine aE F ?_) | refine aw F F (ar oM) ?_ | refine ad F F ?_)
  all_goals refine jY (vs:=[_,_,_]) ?_
  all_goals rfl
 obtain ⟨c,hc1,hc2⟩:=fL hi
 rw [hc1] at hng
 have hc3 : bt s ((i : Int).toNat) = c.toNat:=hc2
 have hcl:=c.toNat_lt
 have hdl : s.drop ((i : Int) + 1).toNat = s.drop (i + 1):=by congr 1
 obtain rfl | rfl | rfl : i = 0 ∨ i = 1 ∨ i = 2:=oM
 ·have hm : m < 1:=hm
  rw [show dm 0 = 1 from rfl]
  by_cases h1 : c.toNat < 128
  ·rw [pT h1] at hng
   rw [hng]
   repeat' (first | refine jM ?_ | (refine jo ?_;first | refine aE F ?_ | refine aq F ?_) | refine aw F F (ar oM) ?_ | refine al F F F ?_ | (refine ac F (by first | rfl | (refine decide_eq_true ?_;(omega))) ?_) | refine ad F (ay oM) ?_ | (refine aj (an (id:=11) _ (fun _ h=>h) ai ?_);refine jW 0 [0,1,2,3,4,5,6,7] (aa 8 255) ?_;refine jQ ?_))
   all_goals (try rw [hdl])
   all_goals refine jY (vs:=[_,_,_]) ?_
   all_goals (rw [hc3];exact (aB _ _ _).trans (congrArg (fun z : Int=>Tu [I z,S (s.drop (0 + 1)),Bo true]) oM))
  ·rw [pW h1] at hng
   repeat' (first | refine jM ?_ | (refine jo ?_;refine aE F ?_) | refine aw F F (ar oM) ?_ | refine ac F F ?_ | refine ad F (ay oM) ?_)
   refine Nx.re (d:=5) (v':=I ((c.toNat % 128 : Nat) : Int)) F (congrArg (Value.int .i64) (by rw [hc3];omega)) ?_
   refine Nx.re (d:=6) (v':=I (dm 1)) F (congrArg (Value.int .i64) F) ?_
   refine Nx.re (d:=7) (v':=I ((1 : Nat) : Int)) F (congrArg (Value.int .i64) F) ?_
   exact aY (1,c.toNat % 128) ⟨⟨oM,oM⟩,by show _ < _;simp only [jm];omega,hng⟩ oM tU rfl aW
 ·have hm : m < 128:=hm
  rw [show dm 1 = 128 from rfl]
  by_cases h1 : c.toNat < 128
  ·by_cases h0 : c.toNat = 0
   ·rw [mE h0 dC] at hng
    rw [hng]
    repeat' (first | refine jM ?_ | (refine jo ?_;refine aE F ?_) | (refine aw F F (by first | rfl | (refine decide_eq_true ?_;(omega))) ?_) | (refine ac F (by first | rfl | (refine decide_eq_true ?_;(omega))) ?_))
    all_goals refine jY (vs:=[_,_,_]) ?_
    all_goals rfl
   rw [pS h1 h0] at hng
   rw [hng]
   repeat' (first | refine jM ?_ | (refine jo ?_;first | refine aE F ?_ | refine aq F ?_) | (refine aw F F (by first | rfl | (refine decide_eq_true ?_;(omega))) ?_) | refine al F F (ay oM) ?_ | (refine ac F (by first | rfl | (refine decide_eq_true ?_;(omega))) ?_) | refine ad F (ay oM) ?_ | (refine aj (an (id:=11) _ (fun _ h=>h) ai ?_);refine jW 0 [0,1,2,3,4,5,6,7] (aa 8 255) ?_;refine jQ ?_))
   all_goals (try rw [hdl])
   all_goals refine jY (vs:=[_,_,_]) ?_
   all_goals (rw [hc3];exact (aB _ _ _).trans (congrArg (fun z : Int=>Tu [I z,S (s.drop (1 + 1)),Bo true]) oM))
  ·rw [pV h1] at hng
   repeat' (first | refine jM ?_ | (refine jo ?_;refine aE F ?_) | refine aw F F (ar oM) ?_ | refine ac F F ?_ | refine ad F (ay oM) ?_)
   refine Nx.re (d:=5) (v':=I ((m + c.toNat % 128 * 128 : Nat) : Int)) F (congrArg (Value.int .i64) (by rw [hc3];omega)) ?_
   refine Nx.re (d:=6) (v':=I (dm 2)) F (congrArg (Value.int .i64) (by show _ = (16384 : Int);omega)) ?_
   refine Nx.re (d:=7) (v':=I ((2 : Nat) : Int)) F (congrArg (Value.int .i64) F) ?_
   exact aY (2,m + c.toNat % 128 * 128) ⟨⟨oM,oM⟩,by show _ < _;simp only [jm];omega,hng⟩ oM tU rfl aW
 ·have hm : m < 16384:=hm
  rw [show dm 2 = 16384 from rfl]
  by_cases h1 : c.toNat < 128
  ·by_cases h0 : c.toNat = 0
   ·rw [mE h0 dC] at hng
    rw [hng]
    repeat' (first | refine jM ?_ | (refine jo ?_;refine aE F ?_) | (refine aw F F (by first | rfl | (refine decide_eq_true ?_;(omega))) ?_) | (refine ac F (by first | rfl | (refine decide_eq_true ?_;(omega))) ?_))
    all_goals refine jY (vs:=[_,_,_]) ?_
    all_goals rfl
   by_cases hbig : m + c.toNat * 16384 ≤ 999999
   case neg =>
    rw [pX h1 hbig] at hng
    rw [hng]
    repeat' (first | refine jM ?_ | (refine jo ?_;first | refine aE F ?_ | refine aq F ?_) | (refine aw F F (by first | rfl | (refine decide_eq_true ?_;(omega))) ?_) | refine al F F (ay oM) ?_ | (refine ac F (by first | rfl | (refine decide_eq_true ?_;(omega))) ?_))
    all_goals refine jY (vs:=[_,_,_]) ?_
    all_goals rfl
   rw [pR h1 h0 hbig] at hng
   rw [hng]
   repeat' (first | refine jM ?_ | (refine jo ?_;first | refine aE F ?_ | refine aq F ?_) | (refine aw F F (by first | rfl | (refine decide_eq_true ?_;(omega))) ?_) | refine al F F (ay oM) ?_ | (refine ac F (by first | rfl | (refine decide_eq_true ?_;(omega))) ?_) | refine ad F (ay oM) ?_ | (refine aj (an (id:=11) _ (fun _ h=>h) ai ?_);refine jW 0 [0,1,2,3,4,5,6,7] (aa 8 255) ?_;refine jQ ?_))
   all_goals (try rw [hdl])
   all_goals refine jY (vs:=[_,_,_]) ?_
   all_goals (rw [hc3];exact (aB _ _ _).trans (congrArg (fun z : Int=>Tu [I z,S (s.drop (2 + 1)),Bo true]) oM))
  ·rw [pU h1] at hng
   repeat' (first | refine jM ?_ | (refine jo ?_;refine aE F ?_) | refine aw F F (ar oM) ?_ | refine ac F F ?_ | refine ad F (ay oM) ?_)
   refine Nx.re (d:=5) (v':=I ((m + c.toNat % 128 * 16384 : Nat) : Int)) F (congrArg (Value.int .i64) (by rw [hc3];omega)) ?_
   refine Nx.re (d:=6) (v':=I (dm 3)) F (congrArg (Value.int .i64) (by show _ = (2097152 : Int);omega)) ?_
   refine Nx.re (d:=7) (v':=I ((3 : Nat) : Int)) F (congrArg (Value.int .i64) F) ?_
   exact aY (3,m + c.toNat % 128 * 16384) ⟨⟨oM,oM⟩,by show _ < _;simp only [jm];omega,hng⟩ oM tU rfl aW
theorem nO {s : act} (hs : s.length ≤ 1000000) : av acs 68 [S s] G (· = tkV (cd s)):=by
 have cx_ng0:=eN (G:=G) (s:=s) hs
 unfold cd
 cases hg : bj s with
 | none =>
  rw [hg] at cx_ng0
  have cx_ng : av acs 106 [S s] G (· = Tu [I 0,S [],Bo false]):=cx_ng0
  refine jE [(0,_)] Tryz.func68 Tryz.ntmps68 fun B hB=>?_
  repeat' (first | refine jR ?_ | (refine jo ?_;first | refine aE F ?_ | refine ab F F F cx_ng F ?_) | refine aw F F F ?_ | refine ac F F ?_)
  all_goals refine jY (vs:=[_,_,_]) ?_
  all_goals rfl
 | some z =>
  obtain ⟨n,r⟩:=z
  obtain ⟨h0,h1,_⟩:=cF hg
  have hl:=bT hg
  rw [hg] at cx_ng0
  have cx_ng : av acs 106 [S s] G (· = Tu [I n,S r,Bo true]):=cx_ng0
  dsimp only
  by_cases hb : n.toNat ≤ r.length
  ·rw [if_pos hb]
   refine jE [(0,_)] Tryz.func68 Tryz.ntmps68 fun B hB=>?_
   repeat' (first | refine jR ?_ | (refine jo ?_;first | refine aq F ?_ | refine ab F F F cx_ng F ?_) | refine al F F F ?_ | refine ad F (ay oM) ?_ | (refine aj (an (id:=4) _ (fun _ h=>h) ai ?_);refine jW 0 [0,1,2,3,4,5,6,7,8] (aa 9 511) ?_;refine jQ ?_))
   all_goals refine jY (vs:=[_,_,_]) ?_
   all_goals rfl
  ·rw [if_neg hb]
   refine jE [(0,_)] Tryz.func68 Tryz.ntmps68 fun B hB=>?_
   repeat' (first | refine jR ?_ | (refine jo ?_;first | refine aq F ?_ | refine ab F F F cx_ng F ?_) | refine al F F F ?_ | refine ac F (ar oM) ?_)
   all_goals refine jY (vs:=[_,_,_]) ?_
   all_goals rfl
def cE (s : act) : act × Nat × Bool :=
 if bt s 0 ≠ 126 then ([],0,false)
 else if s.length = 1 then ([],0,true)
 else if 100 < bt s 1 then ([],0,false)
 else if s.length < 2 + bt s 1 then ([],0,true)
 else
  let body:=(s.take (2 + bt s 1)).drop 2
  if (frame body).isPrefixOf s then (body,(frame body).length,false)
  else if s.isPrefixOf (frame body) then ([],0,true)
  else ([],0,false)
def fg (s : act) : List act × Nat × act :=
 if h : s = [] then ([],0,[])
 else if 0 < (cE s).2.1 then
  let r:=fg (s.drop (cE s).2.1)
  ((cE s).1 :: r.1,r.2.1,r.2.2)
 else if (cE s).2.2 then ([],0,s)
 else
  let r:=fg (s.drop 1)
  (r.1,r.2.1 + 1,r.2.2)
termination_by s.length
decreasing_by
 all_goals simp only [List.length_drop]
 all_goals have:=List.length_pos_iff.2 h
 all_goals omega
theorem oI : fg [] = ([],0,[]):=by rw [fg];simp
theorem oJ {s : act} (h : s ≠ []) (h1 : 0 < (cE s).2.1) : fg s = ((cE s).1 :: (fg (s.drop (cE s).2.1)).1,(fg (s.drop (cE s).2.1)).2.1,(fg (s.drop (cE s).2.1)).2.2):=by
 rw [fg];simp [h,h1]
theorem rt {s : act} (h : s ≠ []) (h1 : ¬ 0 < (cE s).2.1) (h2 : (cE s).2.2 = true) : fg s = ([],0,s):=by
 rw [fg];simp [h,h1,h2]
theorem pn {s : act} (h : s ≠ []) (h1 : ¬ 0 < (cE s).2.1) (h2 : (cE s).2.2 = false) : fg s = ((fg (s.drop 1)).1,(fg (s.drop 1)).2.1 + 1,(fg (s.drop 1)).2.2):=by
 rw [fg];simp [h,h1,h2]
def ce (s : act) : List act × Nat × act:=if s.length ≤ 2000 then fg s else ([],0,[])
theorem yn (s : act) : (cE s).2.1 ≤ s.length:=by
 unfold cE
 split;· simp
 split;· simp
 split;· simp
 split;· simp
 simp only
 split
 ·rename_i h
  exact (List.isPrefixOf_iff_prefix.1 h).length_le
 split <;> simp
theorem k8 {b : act} (h : b.length ≤ 100) : frame b = u8 126 :: u8 b.length :: (b ++ aK (bz b)):=by
 simp [frame,ec (n:=b.length) oM oM]
theorem w4 (c : UInt8) (l : act) : bt (c :: l) 0 = c.toNat:=by simp [bt,List.getD]
theorem w3 (c d : UInt8) (l : act) : bt (c :: d :: l) 1 = d.toNat:=by simp [bt,List.getD]
theorem lH {k : Nat} (h : k < 256) : (u8 (k : Int)).toNat = k:=by have:=cC (a:=(k : Int)) oM;omega
theorem k9 {b r : act} (h : b.length ≤ 100) : cE (frame b ++ r) = (b,(frame b).length,false):=by
 have e:=k8 h
 have e1 : bt (frame b ++ r) 0 = 126:=by rw [e,List.cons_append,w4];exact lH dC
 have e2 : bt (frame b ++ r) 1 = b.length:=by rw [e,List.cons_append,List.cons_append,w3];exact lH oM
 have e3 : (frame b ++ r).length = b.length + 2 + (aK (bz b)).length + r.length:=by rw [e];simp;omega
 have e4 : ((frame b ++ r).take (2 + b.length)).drop 2 = b:=by
  rw [e];simp [Nat.add_comm 2,List.take_append]
 unfold cE
 rw [e1,if_neg (by simp),if_neg (by rw [e3];have : (aK (bz b)).length ≠ 0:=by { unfold aK;rw [num];split <;> simp };omega),e2,if_neg oM,if_neg oM,e4]
 simp
theorem jI {b : act} (h : b.length ≤ 100) : ce (frame b) = ([b],0,[]):=by
 have h1:=gl b oM
 have h2:=k9 (b:=b) (r:=[]) h
 simp only [List.append_nil] at h2
 have h3 : frame b ≠ []:=by rw [k8 h];simp
 have h4 : 0 < (frame b).length:=List.length_pos_iff.2 h3
 rw [ce,if_pos oM,oJ h3 (by rw [h2];exact h4),h2]
 simp [oI]
theorem yv {s : act} (h : ((bt s 0 : Nat) : Int) ≠ 126) : cE s = ([],0,false):=by unfold cE;rw [if_pos oM]
theorem yu {s : act} (h : ¬ ((bt s 0 : Nat) : Int) ≠ 126) (h2 : (s.length : Int) = 1) : cE s = ([],0,true):=by unfold cE;rw [if_neg oM,if_pos oM]
theorem yt {s : act} (h : ¬ ((bt s 0 : Nat) : Int) ≠ 126) (h2 : ¬ (s.length : Int) = 1) (h3 : 100 < ((bt s 1 : Nat) : Int)) : cE s = ([],0,false):=by unfold cE;rw [if_neg oM,if_neg oM,if_pos oM]
theorem yr {s : act} (h : ¬ ((bt s 0 : Nat) : Int) ≠ 126) (h2 : ¬ (s.length : Int) = 1) (h3 : ¬ 100 < ((bt s 1 : Nat) : Int)) (h4 : (s.length : Int) < 2 + ((bt s 1 : Nat) : Int)) : cE s = ([],0,true):=by
 unfold cE;rw [if_neg oM,if_neg oM,if_neg oM,if_pos oM]
theorem rp {s : act} (h : ¬ ((bt s 0 : Nat) : Int) ≠ 126) (h2 : ¬ (s.length : Int) = 1) (h3 : ¬ 100 < ((bt s 1 : Nat) : Int)) (h4 : ¬ (s.length : Int) < 2 + ((bt s 1 : Nat) : Int)) :
  cE s = if (frame ((s.take (2 + (bt s 1 : Int)).toNat).drop 2)).isPrefixOf s then ((s.take (2 + (bt s 1 : Int)).toNat).drop 2,(frame ((s.take (2 + (bt s 1 : Int)).toNat).drop 2)).length,false)
   else if s.isPrefixOf (frame ((s.take (2 + (bt s 1 : Int)).toNat).drop 2)) then ([],0,true) else ([],0,false):=by
 unfold cE;rw [if_neg oM,if_neg oM,if_neg oM,if_neg oM]
 rw [show (2 + (bt s 1 : Int)).toNat = 2 + bt s 1 by omega]
theorem nz {s : act} (h3 : ¬ 100 < ((bt s 1 : Nat) : Int)) : gJ ((s.take (2 + (bt s 1 : Int)).toNat).drop 2) = frame ((s.take (2 + (bt s 1 : Int)).toNat).drop 2):=by
 rw [gJ,if_pos (by simp;omega)]
theorem yq {s : act} (h : ¬ ((bt s 0 : Nat) : Int) ≠ 126) (h2 : ¬ (s.length : Int) = 1) (h3 : ¬ 100 < ((bt s 1 : Nat) : Int)) (h4 : ¬ (s.length : Int) < 2 + ((bt s 1 : Nat) : Int))
  (hp : (gJ ((s.take (2 + (bt s 1 : Int)).toNat).drop 2)).isPrefixOf s = true) : cE s = ((s.take (2 + (bt s 1 : Int)).toNat).drop 2,(gJ ((s.take (2 + (bt s 1 : Int)).toNat).drop 2)).length,false):=by
 rw [rp h h2 h3 h4,← nz h3,if_pos hp]
theorem yp {s : act} (h : ¬ ((bt s 0 : Nat) : Int) ≠ 126) (h2 : ¬ (s.length : Int) = 1) (h3 : ¬ 100 < ((bt s 1 : Nat) : Int)) (h4 : ¬ (s.length : Int) < 2 + ((bt s 1 : Nat) : Int))
  (hp : (gJ ((s.take (2 + (bt s 1 : Int)).toNat).drop 2)).isPrefixOf s = false) (hq : s.isPrefixOf (gJ ((s.take (2 + (bt s 1 : Int)).toNat).drop 2)) = true) : cE s = ([],0,true):=by
 rw [rp h h2 h3 h4,← nz h3,if_neg (by rw [hp];decide),if_pos hq]
theorem yo {s : act} (h : ¬ ((bt s 0 : Nat) : Int) ≠ 126) (h2 : ¬ (s.length : Int) = 1) (h3 : ¬ 100 < ((bt s 1 : Nat) : Int)) (h4 : ¬ (s.length : Int) < 2 + ((bt s 1 : Nat) : Int))
  (hp : (gJ ((s.take (2 + (bt s 1 : Int)).toNat).drop 2)).isPrefixOf s = false) (hq : s.isPrefixOf (gJ ((s.take (2 + (bt s 1 : Int)).toNat).drop 2)) = false) : cE s = ([],0,false):=by
 rw [rp h h2 h3 h4,← nz h3,if_neg (by rw [hp];decide),if_neg (by rw [hq];decide)]
def dR (s : act) : Option act:=if s.length ≤ 2000 ∧ (ce s).2.1 = 0 ∧ (ce s).2.2 = [] then (match (ce s).1 with
 | [b]=>some b
 | _=>none) else none
theorem wK {s : act} (h : 0 < (cE s).2.1) : (cE s).1.length ≤ 100 ∧ ∃ r,s = frame (cE s).1 ++ r ∧ s.drop (cE s).2.1 = r:=by
 unfold cE at h ⊢
 split at h
 ·exact absurd h (by simp)
 rw [if_neg aS]
 split at h
 ·exact absurd h (by simp)
 rw [if_neg aS]
 split at h
 ·exact absurd h (by simp)
 rw [if_neg aS]
 split at h
 ·exact absurd h (by simp)
 rw [if_neg aS]
 dsimp only at h ⊢
 split at h
 ·rename_i h1 h2 h3 h4 h5
  rw [if_pos h5]
  dsimp only
  obtain ⟨r,hr⟩:=List.isPrefixOf_iff_prefix.1 h5
  refine ⟨by simp;omega,r,hr.symm,?_⟩
  have e : ∀ bd : act,bd ++ r = s → s.drop bd.length = r:=fun bd h=>by rw [← h,List.drop_left]
  exact e _ hr
 ·split at h
  ·exact absurd h (by simp)
  ·exact absurd h (by simp)
theorem gS {s b : act} : dR s = some b ↔ b.length ≤ 100 ∧ s = frame b:=by
 constructor
 ·intro h
  unfold dR at h
  split at h
  ·rename_i hc
   obtain ⟨h1,h2,h3⟩:=hc
   have e : ce s = fg s:=by rw [ce,if_pos h1]
   rw [e] at h h2 h3
   by_cases hs : s = []
   ·subst hs;rw [oI] at h;cases h
   by_cases hh : 0 < (cE s).2.1
   ·obtain ⟨g1,r,g2,g3⟩:=wK hh
    rw [oJ hs hh,g3] at h h2 h3
    dsimp only at h h2 h3
    by_cases hr : r = []
    ·subst hr
     rw [oI] at h
     dsimp only at h
     simp only [Option.some.injEq] at h;subst h
     exact ⟨g1,by rw [List.append_nil] at g2;exact g2⟩
    ·exfalso
     by_cases hh2 : 0 < (cE r).2.1
     ·rw [oJ hr hh2] at h
      simp at h
     ·by_cases hm : (cE r).2.2 = true
      ·rw [rt hr hh2 hm] at h3;exact hr h3
      ·rw [pn hr hh2 (by simpa using hm)] at h2
       simp at h2
   ·exfalso
    by_cases hm : (cE s).2.2 = true
    ·rw [rt hs hh hm] at h3;exact hs h3
    ·rw [pn hs hh (by simpa using hm)] at h2
     simp at h2
  ·cases h
 ·rintro ⟨h,rfl⟩
  have h1:=gl b oM
  unfold dR
  rw [jI h,if_pos ⟨oM,rfl,rfl⟩]
theorem nv {s b : act} (h : dR s = some b) : b.length ≤ 100:=(gS.1 h).1
theorem vm {a b r q : act} (ha : a.length ≤ 100) (hb : b.length ≤ 100) (h : frame a ++ r = frame b ++ q) : a = b ∧ r = q:=by
 have h1:=k9 (b:=a) (r:=r) ha
 have h2:=k9 (b:=b) (r:=q) hb
 rw [h,h2] at h1
 simp only [Prod.mk.injEq] at h1
 obtain ⟨rfl,_⟩:=h1
 exact ⟨F,List.append_cancel_left h⟩
theorem vl {s : act} {b r : act} (hb : b.length ≤ 100) (h : 126 :: s = frame b ++ r) : bj s = some (((b.length : Nat) : Int),b ++ (aK (bz b) ++ r)):=by
 have e : s = aK b.length ++ (b ++ (aK (bz b) ++ r)):=by
  unfold frame at h
  simp only [List.cons_append,List.nil_append,List.cons.injEq,List.append_assoc] at h
  exact h.2
 rw [e]
 exact fF oM oM _
theorem vS {s : act} (hs : s ≠ []) (hs2 : s.length ≤ 9000000000000000000) : av acs 111 [S s] G (· = Tu [S (cE s).1,I (cE s).2.1,Bo (cE s).2.2]):=by
 have h0:=List.length_pos_iff.2 hs
 refine jE [(0,_)] Tryz.func111 Tryz.ntmps111 fun B hB=>?_
 repeat' (first | refine jX ?_ | (refine jo ?_;first | (refine ab F F F (m7 ?_) F ?_;(focus ((simp;omega);done))) | refine ab F F F fT F ?_) | refine cR F (fun _=>?_) (fun _=>?_) | refine l4 F (fun _=>?_) (fun _=>?_))
 all_goals refine jY (vs:=[_,_,_]) ?_
 all_goals rw [aB]
 ·rw [yv aS];rfl
 ·rw [yu aS aS];rfl
 ·rw [yt aS aS aS];rfl
 ·rw [yr aS aS aS aS];rfl
 ·rw [yq aS aS aS aS aS];rfl
 ·rw [yp aS aS aS aS aS aS];rfl
 ·rw [yo aS aS aS aS aS aS];rfl
theorem mq {s : act} (hs : s.length ≤ 9000000000000000000) : cx acs 74 [S s] G [] (fun v L'=>∃ u,v = Tu [u,I (ce s).2.1,S (ce s).2.2,Bo (decide (s.length ≤ 2000))] ∧ L' = [.acc u kg 1 (ce s).1.length (iw (ce s).1)] ∧ qr u (ce s).1.length):=by
 by_cases h : s.length ≤ 2000
 ·have e : ce s = fg s:=by rw [ce,if_pos h]
  rw [e,decide_eq_true h]
  refine jH [(0,_)] Tryz.func74 Tryz.ntmps74 fun B hB hW=>?_
  repeat' (first | refine jR ?_ | refine ad F (ay oM) ?_)
  refine Nx.addNil kg 1 ?_
  refine aR (ι:=Value × List act × Nat × act) (fun i=>i.2.1.length + i.2.2.1 + i.2.2.2.length ≤ 2000 ∧ (i.2.1 ++ (fg i.2.2.2).1,i.2.2.1 + (fg i.2.2.2).2.1,(fg i.2.2.2).2.2) = fg s) (fun i=>[(0,S i.2.2.2),(6,i.1),(7,I i.2.2.1)]) (fun _=>G) (fun i=>[.acc i.1 kg 1 i.2.1.length (iw i.2.1)]) (fun i=>i.2.2.2.length) (aH,[],0,s) ?_ tU F aW (fun i hI=>?_)
  ·dsimp only;refine ⟨by simp;omega,by simp⟩
  ·obtain ⟨u,xs,j,t⟩:=i
   dsimp only at hI ⊢
   have hle:=yn t
   by_cases ht : t = []
   ·subst ht
    have e2 : fg s = (xs,j,[]):=by rw [← hI.2,oI];simp
    repeat' (first | refine jR ?_ | refine ad F F ?_)
    exact Nx.shp (.head _) fun hsh=>aO (vs:=[_,_,_,_]) F ⟨F,F,F,F,trivial⟩ F (List.Sublist.refl _) ⟨F,u,by rw [e2];rfl,by rw [e2],by rw [e2];exact hsh⟩
   ·have hpos:=List.length_pos_iff.2 ht
    repeat' (first | refine jM ?_ | (refine jo ?_;first | refine jF fun _=>?_ | refine mJ F F F F F F F F oM fun _=>?_ | (refine ab F F F (vS (by (repeat (assumption));done) oM) rfl ?_)) | refine ac F (ar ‹_›) ?_ | refine cR F (fun _=>?_) (fun _=>?_) | refine l4 F (fun _=>?_) (fun _=>?_))
    ·rename_i hh _ _
     have e2:=oJ ht oM
     refine aY (_,xs ++ [(cE t).1],j,t.drop (cE t).2.1) ?_ ?_ tU F (by dsimp only;simp only [jp,List.length_append,List.length_cons,List.length_nil,Nat.zero_add];repeat (first | exact List.nil_sublist _ | apply List.Sublist.cons_cons))
     ·dsimp only
      refine ⟨by simp;omega,?_⟩
      rw [← hI.2,e2];simp
     ·dsimp only;simp;omega
    ·rename_i hh hm
     have e2 : fg s = (xs,j,t):=by rw [← hI.2,rt ht oM hm];simp
     exact Nx.shp (.head _) fun hsh=>aO (vs:=[_,_,_,_]) F ⟨F,F,F,F,trivial⟩ F (List.Sublist.refl _) ⟨F,u,by rw [e2];rfl,by rw [e2],by rw [e2];exact hsh⟩
    ·rename_i hh hm
     have e2:=pn ht oM hm
     refine aY (u,xs,j + 1,t.drop 1) ?_ ?_ tU F aW
     ·dsimp only
      refine ⟨by simp;omega,?_⟩
      rw [← hI.2,e2];simp;omega
     ·dsimp only;simp;omega
 ·have e : ce s = ([],0,[]):=by rw [ce,if_neg h]
  rw [e,decide_eq_false h]
  refine jH [(0,_)] Tryz.func74 Tryz.ntmps74 fun B hB hW=>?_
  repeat' (first | refine jR ?_ | refine ac F (ar oM) ?_)
  refine Nx.addNil kg 1 ?_
  exact aO (vs:=[_,_,_,_]) F ⟨F,F,F,F,trivial⟩ F (List.Sublist.refl _) ⟨F,_,F,F,.inl ⟨F,F⟩⟩
theorem vL {s : act} {top : Int} (hs : s.length ≤ 2) (ht : 0 ≤ top ∧ top ≤ 1000) : av acs 188 [S s,I top] G (fun v=>∃ gb,v = Bo gb):=by
 refine jE [(0,_),(1,_)] Tryz.func188 Tryz.ntmps188 fun B hB=>?_
 repeat' (refine jR ?_)
 refine aR (ι:=Nat × Int) (fun q=>q.1 ≤ s.length ∧ 0 ≤ q.2 ∧ q.2 < dm q.1) (fun q=>[(0,S s),(1,I top),(5,I q.2),(6,I (dm q.1)),(7,I q.1)]) (fun _=>G) (fun q=>[]) (fun q=>s.length - q.1) (0,0) ?_ tU F aW (fun q Hq=>?_)
 ·exact ⟨Nat.zero_le _,by decide,by decide⟩
 obtain ⟨i,m⟩:=q
 dsimp only at Hq ⊢
 obtain ⟨hi0,hm0,hm1⟩:=Hq
 by_cases hi : i < s.length
 ·have hbl:=gH s i
  obtain rfl | rfl : i = 0 ∨ i = 1:=oM
  ·have hm1 : m < 1:=hm1
   rw [show dm 0 = 1 from rfl]
   have hb : bt s ((0 : Nat) : Int).toNat = bt s 0:=rfl
   repeat' (first | refine jM ?_ | refine ac F (ar oM) ?_)
   refine Nx.re (d:=6) (v':=I (dm 1)) F (congrArg (Value.int .i64) (by show _ = (128 : Int);omega)) ?_
   refine Nx.re (d:=7) (v':=I ((1 : Nat) : Int)) F (congrArg (Value.int .i64) F) ?_
   exact aY (1,m + ((bt s ((0 : Nat) : Int).toNat : Nat) : Int) % 128 * 1) ⟨oM,oM,by show _ < _;simp only [dm];omega⟩ oM tU rfl aW
  ·have hm1 : m < 128:=hm1
   rw [show dm 1 = 128 from rfl]
   have hb : bt s ((1 : Nat) : Int).toNat = bt s 1:=rfl
   repeat' (first | refine jM ?_ | refine ac F (ar oM) ?_)
   refine Nx.re (d:=6) (v':=I (dm 2)) F (congrArg (Value.int .i64) (by show _ = (16384 : Int);omega)) ?_
   refine Nx.re (d:=7) (v':=I ((2 : Nat) : Int)) F (congrArg (Value.int .i64) F) ?_
   exact aY (2,m + ((bt s ((1 : Nat) : Int).toNat : Nat) : Int) % 128 * 128) ⟨oM,oM,by show _ < _;simp only [dm];omega⟩ oM tU rfl aW
 ·have hu : 1 ≤ dm i ∧ dm i ≤ 16384:=by
   obtain rfl | rfl | rfl : i = 0 ∨ i = 1 ∨ i = 2:=oM
   all_goals decide
  generalize dm i = un at *
  all_goals repeat' (first | refine jM ?_ | (refine jo ?_;first | refine aE F ?_ | refine aq F ?_) | refine dA F F (fun _=>?_) (fun _=>?_) | refine ad F (ay oM) ?_)
  all_goals refine jY (vs:=[_]) ?_
  all_goals exact ⟨_,F⟩
theorem vJ {s r : act} {n top : Int} (hs : s.length ≤ 100000) (h : bj s = some (n,r)) : av acs 151 [S s,I top] G (· = Tu [I n,S r,Bo (decide (n ≤ top)),Bo (decide (n ≤ top))]):=by
 have cx_ng0:=eN (G:=G) (s:=s) oM
 rw [h] at cx_ng0
 have cx_ng : av acs 106 [S s] G (· = Tu [I n,S r,Bo true]):=cx_ng0
 refine jE [(0,_),(1,_)] Tryz.func151 Tryz.ntmps151 fun B hB=>?_
 repeat' (first | refine jR ?_ | (refine jo ?_;refine ab F F F cx_ng F ?_) | refine ac F F ?_)
 all_goals refine jY (vs:=[_,_,_,_]) ?_
 all_goals rfl
theorem vK {s : act} {top : Int} (hs : s.length ≤ 100000) (ht : 0 ≤ top ∧ top ≤ 1000) (h : bj s = none) : av acs 151 [S s,I top] G (fun v=>∃ gb,v = Tu [I 0,S s,Bo false,Bo gb]):=by
 have cx_ng0:=eN (G:=G) (s:=s) oM
 rw [h] at cx_ng0
 have cx_ng : av acs 106 [S s] G (· = Tu [I 0,S [],Bo false]):=cx_ng0
 by_cases h2 : s.length ≤ 2
 ·have cx_grw:=vL (G:=G) h2 ht
  refine jE [(0,_),(1,_)] Tryz.func151 Tryz.ntmps151 fun B hB=>?_
  repeat' (first | refine jR ?_ | (refine jo ?_;refine ab F F F cx_ng F ?_) | (refine ad F (by first | rfl | (refine decide_eq_false ?_;(omega))) ?_))
  refine aR (ι:=Nat) (fun i=>i ≤ s.length) (fun i=>[(0,S s),(1,I top),(11,I (i : Nat))]) (fun _=>G) (fun i=>[]) (fun i=>s.length - i) 0 ?_ tU F aW (fun i Hi=>?_)
  ·exact Nat.zero_le _
  by_cases hi : i < s.length
  ·have hbl:=gH s i
   repeat' (first | refine jM ?_ | refine ac F (ar oM) ?_ | refine cR F (fun _=>?_) (fun _=>?_))
   ·refine jY (vs:=[_,_,_,_]) ?_
    exact ⟨_,F⟩
   ·refine Nx.re (d:=11) (v':=I (i + 1 : Nat)) F (congrArg (Value.int .i64) oM) ?_
    exact aY (i + 1) oM oM tU F aW
  ·repeat' (first | refine jR ?_ | (refine jo ?_;(refine c8 F F F cx_grw F ?_;rintro _ ⟨gb,rfl⟩)) | refine ad F (ay oM) ?_)
   all_goals refine jY (vs:=[_,_,_,_]) ?_
   all_goals exact ⟨_,F⟩
 ·refine jE [(0,_),(1,_)] Tryz.func151 Tryz.ntmps151 fun B hB=>?_
  repeat' (first | refine jR ?_ | (refine jo ?_;refine ab F F F cx_ng F ?_) | refine ac F (ar oM) ?_ | refine ad F F ?_)
  all_goals refine jY (vs:=[_,_,_,_]) ?_
  all_goals exact ⟨_,F⟩
theorem oF {b r : act} (h : b.length ≤ 100) : frame b ++ r = 126 :: (aK b.length ++ (b ++ (aK (bz b) ++ r))):=by
 unfold frame
 simp only [List.cons_append,List.nil_append,List.append_assoc]
 rfl
def xF (s tx rest : act) (ok : Bool) : Prop:=(ok = true → tx.length ≤ 100 ∧ s = frame tx ++ rest) ∧ (ok = false → ∀ b r,b.length ≤ 100 → s ≠ frame b ++ r)
theorem wR {s : act} (h0 : s ≠ []) (hs : s.length ≤ 2000) : av acs 112 [S s] G (fun v=>∃ tx rest ok gr,v = Tu [S tx,S rest,Bo ok,Bo gr] ∧ xF s tx rest ok):=by
 have hnof : ∀ {gr : Bool} {v : Value},(∀ b r,b.length ≤ 100 → s ≠ frame b ++ r) → v = Tu [S [],S s,Bo false,Bo gr] → ∃ tx rest ok gr,v = Tu [S tx,S rest,Bo ok,Bo gr] ∧ xF s tx rest ok:=fun h1 h2=>⟨_,_,_,_,h2,fun h=>(by cases h),fun _=>h1⟩
 cases s with
 | nil=>exact absurd F h0
 | cons c q =>
  have hel : (c :: q).length = q.length + 1:=rfl
  have hc0 : bt (c :: q) (Int.toNat 0) = c.toNat:=bh c q
  by_cases hc : c.toNat = 126
  case neg =>
   have hno : ∀ b r,b.length ≤ 100 → c :: q ≠ frame b ++ r:=fun b r hb e=>by
    rw [oF hb] at e
    simp only [List.cons.injEq] at e
    exact hc (by rw [e.1];rfl)
   refine jE [(0,_)] Tryz.func112 Tryz.ntmps112 fun B hB=>?_
   repeat' (first | refine jM ?_ | refine ac F (ar oM) ?_)
   all_goals refine jY (vs:=[_,_,_,_]) ?_
   all_goals exact hnof hno F
  obtain rfl:=bn hc dC
  have hdr : List.drop (Int.toNat 1) (126 :: q) = q:=rfl
  have hnum : ∀ b r,b.length ≤ 100 → (126 :: q : act) = frame b ++ r → bj q = some (((b.length : Nat) : Int),b ++ (aK (bz b) ++ r)):=fun b r hb e=>vl hb e
  cases hg : bj q with
  | none =>
   have cx_pt0:=vK (G:=G) (s:=q) (top:=100) oM oM hg
   have hno : ∀ b r,b.length ≤ 100 → (126 :: q : act) ≠ frame b ++ r:=fun b r hb e=>by
    have:=hnum b r hb e
    rw [hg] at this;cases this
   rw [← hdr] at cx_pt0
   refine jE [(0,_)] Tryz.func112 Tryz.ntmps112 fun B hB=>?_
   repeat' (first | refine jM ?_ | (refine jo ?_;(refine c8 F F F cx_pt0 F ?_;rintro _ ⟨gb,rfl⟩)) | refine ac F F ?_ | refine ad F F ?_)
   all_goals refine jY (vs:=[_,_,_,_]) ?_
   all_goals exact hnof hno F
  | some z =>
   obtain ⟨n,r⟩:=z
   obtain ⟨g0,g1,_⟩:=cF hg
   have hl:=bT hg
   have cx_pt1:=vJ (G:=G) (s:=q) (top:=100) oM hg
   rw [← hdr] at cx_pt1
   by_cases hn : n ≤ 100
   case neg =>
    rw [decide_eq_false hn] at cx_pt1
    have hno : ∀ b r,b.length ≤ 100 → (126 :: q : act) ≠ frame b ++ r:=fun b r hb e=>by
     have:=hnum b r hb e
     rw [hg] at this
     simp only [Option.some.injEq,Prod.mk.injEq] at this
     omega
    refine jE [(0,_)] Tryz.func112 Tryz.ntmps112 fun B hB=>?_
    repeat' (first | refine jM ?_ | (refine jo ?_;refine ab F F F cx_pt1 F ?_) | refine ac F F ?_ | refine ad F F ?_)
    all_goals refine jY (vs:=[_,_,_,_]) ?_
    all_goals exact hnof hno F
   rw [decide_eq_true hn] at cx_pt1
   obtain ⟨m,rfl⟩ : ∃ m : Nat,n = (m : Int):=⟨n.toNat,oM⟩
   by_cases hm : m ≤ r.length
   case neg =>
    have hno : ∀ b r,b.length ≤ 100 → (126 :: q : act) ≠ frame b ++ r:=fun b r' hb e=>by
     have:=hnum b r' hb e
     rw [hg] at this
     simp only [Option.some.injEq,Prod.mk.injEq] at this
     obtain ⟨e1,e2⟩:=this
     have:=congrArg List.length e2
     simp only [List.length_append] at this
     omega
    refine jE [(0,_)] Tryz.func112 Tryz.ntmps112 fun B hB=>?_
    repeat' (first | refine jM ?_ | (refine jo ?_;refine ab F F F cx_pt1 F ?_) | refine ac F (ar oM) ?_ | refine ad F F ?_)
    all_goals refine jY (vs:=[_,_,_,_]) ?_
    all_goals exact hnof hno F
   have hq : q = aK m ++ r:=by
    obtain ⟨_,_,h⟩:=cF hg
    exact h
   have htl : (r.take m).length = m:=by rw [List.length_take];omega
   have htk : r.take ((m : Nat) : Int).toNat = r.take m:=rfl
   have hdk : r.drop ((m : Nat) : Int).toNat = r.drop m:=rfl
   have hsr:=ch (r.take m)
   have hsl:=gN (r.take m)
   have hdl : (r.drop m).length = r.length - m:=List.length_drop
   have hall : ∀ b r',b.length ≤ 100 → (126 :: q : act) = frame b ++ r' → r.drop m = aK (bz (r.take m)) ++ r':=fun b r' hb e=>by
    have:=hnum b r' hb e
    rw [hg] at this
    simp only [Option.some.injEq,Prod.mk.injEq] at this
    obtain ⟨e1,e2⟩:=this
    have e3 : m = b.length:=oM
    rw [e2,e3,List.drop_left,List.take_left]
   by_cases hsh : (r.drop m).length < (aK (bz (r.take m))).length
   ·have hno : ∀ b r,b.length ≤ 100 → (126 :: q : act) ≠ frame b ++ r:=fun b r' hb e=>by
     have:=congrArg List.length (hall b r' hb e)
     simp only [List.length_append] at this
     omega
    refine jE [(0,_)] Tryz.func112 Tryz.ntmps112 fun B hB=>?_
    repeat' (first | refine jM ?_ | (refine jo ?_;first | refine ab F F F cx_pt1 F ?_ | (refine ab F F F (fc ?_) F ?_;(focus ((simp;omega);done))) | (refine ab F F F (dk ?_) F ?_;(focus ((simp;omega);done)))) | (refine ac F ?_ ?_;(focus ((simp;omega);done))) | (refine ad F (by first | rfl | (refine decide_eq_false ?_;(omega))) ?_) | (refine aj (an (id:=12) _ (fun _ h=>h) ai ?_);refine jW 0 [0,1,2,3,4,5,6,7,8,9,10] (aa 11 2047) ?_;refine jQ ?_))
    all_goals refine jY (vs:=[_,_,_,_]) ?_
    all_goals exact hnof hno F
   by_cases hpre : (r.drop m).take (aK (bz (r.take m))).length = aK (bz (r.take m))
   case neg =>
    have hno : ∀ b r,b.length ≤ 100 → (126 :: q : act) ≠ frame b ++ r:=fun b r' hb e=>by
     refine hpre ?_
     rw [hall b r' hb e,List.take_left]
    refine jE [(0,_)] Tryz.func112 Tryz.ntmps112 fun B hB=>?_
    repeat' (first | refine jX ?_ | (refine jo ?_;first | refine ab F F F cx_pt1 F ?_ | (refine ab F F F (fc ?_) F ?_;(focus ((simp;omega);done))) | (refine ab F F F (dk ?_) F ?_;(focus ((simp;omega);done)))) | refine ac F (ar ‹_›) ?_ | (refine ad F ?_ ?_;(focus ((first | rfl | (refine decide_eq_false ?_;(omega)) | (simp;omega));done))))
    all_goals refine jY (vs:=[_,_,_,_]) ?_
    all_goals exact hnof hno F
   have hyes : (126 :: q : act) = frame (r.take m) ++ (r.drop m).drop (aK (bz (r.take m))).length:=by
    rw [oF oM,htl,hq]
    congr 2
    conv=>lhs;rw [← List.take_append_drop m r]
    congr 1
    conv=>lhs;rw [← List.take_append_drop (aK (bz (r.take m))).length (r.drop m),hpre]
   refine jE [(0,_)] Tryz.func112 Tryz.ntmps112 fun B hB=>?_
   repeat' (first | refine jX ?_ | (refine jo ?_;first | refine ab F F F cx_pt1 F ?_ | (refine ab F F F (fc ?_) F ?_;(focus ((simp;omega);done))) | (refine ab F F F (dk ?_) F ?_;(focus ((simp;omega);done)))) | (refine ad F ?_ ?_;(focus ((first | rfl | (refine decide_eq_false ?_;(omega)) | (simp [*];done) | (simp;omega));done))) | (refine aj (an (id:=15) _ (fun _ h=>h) ai ?_);refine jW 0 [0,1,2,3,4,5,6,7,8] (aa 9 511) ?_;refine jQ ?_))
   all_goals refine jY (vs:=[_,_,_,_]) ?_
   all_goals exact ⟨_,_,_,_,F,fun _=>⟨by rw [htk,htl];omega,hyes⟩,fun h=>(by cases h)⟩
theorem wg {ts : List Ty} {k s : act} {u : V} {t : act} {N : Nat} (hN : 12 ≤ N) (hl : s.length ≤ 400) (h : rd ts N k s = some (u,t)) : bZ ts k s = if t = [] ∧ V.deep u ≤ 12 then some u else none:=by
 unfold bZ
 rw [if_pos hl]
 cases h12 : rd ts 12 k s with
 | none =>
  dsimp only
  rw [if_neg]
  rintro ⟨_,hd⟩
  have:=xh _ 12 k s _ h hd
  rw [h12] at this;cases this
 | some x =>
  have h1:=xg (m:=N) hN h12
  rw [h] at h1
  have hd:=kP _ _ _ _ h12
  obtain rfl:=Option.some.inj h1
  dsimp only at hd ⊢
  cases t with
  | nil=>dsimp only;rw [if_pos ⟨rfl,hd⟩]
  | cons c t=>dsimp only;rw [if_neg (fun h=>by cases h.1)]
theorem wh {ts : List Ty} {k s : act} {N : Nat} (hN : 12 ≤ N) (hl : s.length ≤ 400) (h : rd ts N k s = none) : bZ ts k s = none:=by
 unfold bZ
 rw [if_pos hl]
 cases h12 : rd ts 12 k s with
 | none=>rfl
 | some x=>rw [xg (m:=N) hN h12] at h;cases h
theorem tq {b : Nat} {qs : List cI} {k s : act} (hS : ScI G b qs) (hw : SchW (ah qs)) (hk : aJ (ah qs) k = true) (hs : s.length ≤ 10000000) :
  bx acs 96 [Pt b 0,Ag (eh k),S s] G (fun v G'=>(bZ (ah qs) k s = none ∧ v = Tu [zP,Bo false]) ∨ ∃ u c,bZ (ah qs) k s = some u ∧ v = Tu [Ag (b7 c),Bo true] ∧ V.rep G' u c):=by
 unfold eh
 by_cases hl : s.length ≤ 400
 case neg =>
  have hno : bZ (ah qs) k s = none:=by unfold bZ;rw [if_neg hl]
  refine jB [(0,_),(1,_),(2,_)] Tryz.func96 Tryz.ntmps96 fun B hok hB hW=>?_
  repeat' (first | refine jR ?_ | (refine jo ?_;first | refine jO fun _=>?_ | refine jL fun _=>?_ | refine jV (am F F) ?_ | refine jC F F F ?_) | refine ac F (ar oM) ?_)
  all_goals refine jZ (vs:=[_,_]) F ⟨aF F F F F,F,trivial⟩ F ⟨Gh.le.refl _,F,?_⟩
  all_goals exact .inl ⟨hno,F⟩
 obtain ⟨N,hN⟩ : ∃ N,s.length + 12 ≤ N:=⟨_,Nat.le_refl _⟩
 have hN2 : 12 ≤ N:=oM
 have hV:=qH (sc:=b) hw N
 have cy_vl : ∀ {r : Nat},dt acs 144 [Pt r 0,Ag (eh k)] G [dO r b s false] (g7 (rd (ah qs) N k) r b s false):=fun {r}=>hV G r k s false hS hk oM oM
 refine jB [(0,_),(1,_),(2,_)] Tryz.func96 Tryz.ntmps96 fun B hok hB hW=>?_
 repeat' (first | refine jR ?_ | (refine jo ?_;first | refine jO fun _=>?_ | refine jL fun _=>?_ | refine jV (am F F) ?_ | refine aV F ?_) | refine ad F (ay oM) ?_)
 refine jo ?_
 rename_i r
 refine cU F F F (cy_vl (r:=r)) F ?_
 rintro _ G1 _ hle ⟨u1,c1,t1,b1,rfl,hrep,rfl,hP⟩
 dsimp only [zA,fA]
 obtain ⟨hPl,hP0,hP1⟩:=hP
 cases b1 with
 | true =>
  have hno : bZ (ah qs) k s = none:=wh hN2 hl (by rcases (hP1 rfl).1 with h | h;cases h;exact h)
  repeat' (first | refine jR ?_ | (refine jo ?_;first | refine jL fun _=>?_ | refine jV (am F F) ?_ | refine jC F F F ?_ | refine ak F ?_ | refine aE F ?_) | refine aw F F F ?_ | refine ac F F ?_)
  all_goals refine jZ (vs:=[_,_]) F ⟨aF F F F F,F,trivial⟩ F ⟨hle,F,?_⟩
  all_goals exact .inl ⟨hno,F⟩
 | false =>
  have hrd:=(hP0 rfl).2
  have hof:=wg hN2 hl hrd
  have htt:=i6 _ _ _ _ hrd
  dsimp only at htt
  by_cases ht : t1 = []
  case neg =>
   have hno : bZ (ah qs) k s = none:=by rw [hof,if_neg (fun h=>ht h.1)]
   repeat' (first | refine jR ?_ | (refine jo ?_;first | refine jL fun _=>?_ | refine jV (am F F) ?_ | refine jC F F F ?_ | refine ak F ?_ | refine aE F ?_ | refine aq F ?_) | refine aw F F (ar ‹_›) ?_ | refine al F F F ?_ | refine ac F F ?_)
   all_goals refine jZ (vs:=[_,_]) F ⟨aF F F F F,F,trivial⟩ F ⟨hle,F,?_⟩
   all_goals exact .inl ⟨hno,F⟩
  have hnn : ¬ t1 ≠ []:=fun h=>h ht
  have cx_dp:=vV (G:=G1) u1.tot (Nat.le_refl _) oM hrep
  have hdt:=nC u1
  by_cases hd : V.deep u1 ≤ 12
  ·have hyes : bZ (ah qs) k s = some u1:=by rw [hof,if_pos ⟨ht,hd⟩]
   repeat' (first | refine jR ?_ | (refine jo ?_;first | refine jL fun _=>?_ | refine jC F F F ?_ | refine ak F ?_ | refine aV F ?_ | refine aq F ?_ | refine ab F F F cx_dp F ?_) | (refine al F F (by first | rfl | (refine decide_eq_false ?_;(assumption))) ?_) | refine ad F (ay oM) ?_)
   all_goals refine jZ (vs:=[_,_]) F ⟨aF F F F F,F,trivial⟩ F ⟨hle,F,?_⟩
   all_goals exact .inr ⟨u1,c1,hyes,F,hrep⟩
  ·have hno : bZ (ah qs) k s = none:=by rw [hof,if_neg (fun h=>hd h.2)]
   repeat' (first | refine jR ?_ | (refine jo ?_;first | refine jL fun _=>?_ | refine jV (am F F) ?_ | refine jC F F F ?_ | refine ak F ?_ | refine aV F ?_ | refine aq F ?_ | refine ab F F F cx_dp F ?_) | (refine al F F (by first | rfl | (refine decide_eq_false ?_;(assumption))) ?_) | refine ac F (ar oM) ?_)
   all_goals refine jZ (vs:=[_,_]) F ⟨aF F F F F,F,trivial⟩ F ⟨hle,F,?_⟩
   all_goals exact .inl ⟨hno,F⟩
theorem hY {s k : act} (h : cz s k = true) : ∃ ts,aT s = some ts ∧ aJ ts k = true ∧ SchW ts:=by
 unfold cz at h
 cases h1 : aT s with
 | none=>rw [h1] at h;cases h
 | some ts=>rw [h1] at h;exact ⟨ts,F,h,ci h1⟩
def eZ (s k v : act) : Option V:=match aT s with
 | some ts=>if aJ ts k = true then bZ ts k v else none
 | none=>none
theorem wV {s k w : act} (h : s.length ≤ 1048576 ∧ k.length ≤ 1048576 ∧ w.length ≤ 1048576) (hno : eZ s k w = none) : bx acs 53 [S s,S k,S w] G (fun v _=>∃ p a b c,v = Tu [p,Ag [S a,S b,S c],zP,Bo false]):=by
 by_cases hk : cz s k = true
 case neg =>
  have cx_bo1 : ∀ G,bx acs 50 [S s,S k] G (fun v _=>∃ p a b c,v = Tu [p,Ag [S a,S b,S c],Bo false]):=fun G=>by
   refine (ml (G:=G) (s:=s) (k:=k) oM oM).mono ?_
   rintro v G' L' ⟨h1,h2,⟨_,p,a,b,c,rfl⟩ | ⟨b,qs,rfl,h4,h5,_⟩⟩
   ·exact ⟨h1,h2,p,a,b,c,F⟩
   ·exact absurd (by unfold cz;rw [h4];exact h5) hk
  refine jB [(0,_),(1,_),(2,_)] Tryz.func53 Tryz.ntmps53 fun B hok hB hW=>?_
  repeat' (first | refine jR ?_ | (refine jo ?_;first | refine jL fun _=>?_ | refine jC F F F ?_ | refine jV (am F F) ?_ | (refine aM F F F (cx_bo1 _) F ?_;rintro _ G hle ⟨p1,a1,b1,c1,rfl⟩;skip)) | refine ac F F ?_)
  all_goals refine jZ (vs:=[_,_,_,_]) F ⟨F,aF F F F F,aF F F F F,F,trivial⟩ F ⟨hle,F,?_⟩
  all_goals exact ⟨_,_,_,_,F⟩
 obtain ⟨ts,hs,hki,hw⟩:=hY hk
 have hvo : bZ ts k w = none:=by unfold eZ at hno;rw [hs] at hno;dsimp only at hno;rwa [if_pos hki] at hno
 have cx_boa : ∀ G,bx acs 50 [S s,S k] G (fun v G'=>∃ b qs,v = Tu [Pt b 0,Ag [S (sg k),S (bs k),S (nm k)],Bo true] ∧ ah qs = ts ∧ ScI G' b qs):=fun G=>by
  refine (ml (G:=G) (s:=s) (k:=k) oM oM).mono ?_
  rintro v G' L' ⟨h1,h2,⟨h4,_⟩ | ⟨b,qs,rfl,h4,h5,h6⟩⟩
  ·rw [h4] at hk;cases hk
  ·rw [hs] at h4;exact ⟨h1,h2,b,qs,F,(Option.some.inj h4).symm,h6⟩
 have cx_ri0 : ∀ G b qs,ah qs = ts → ScI G b qs → bx acs 96 [Pt b 0,Ag [S (sg k),S (bs k),S (nm k)],S w] G (fun v _=>v = Tu [zP,Bo false]):=fun G b qs hq hS=>by
  subst hq
  refine (tq (G:=G) (b:=b) (s:=w) hS hw hki oM).mono ?_
  rintro v G' L' ⟨h1,h2,⟨_,rfl⟩ | ⟨u,c,h4,_⟩⟩
  ·exact ⟨h1,h2,F⟩
  ·rw [hvo] at h4;cases h4
 refine jB [(0,_),(1,_),(2,_)] Tryz.func53 Tryz.ntmps53 fun B hok hB hW=>?_
 repeat' (first | refine jR ?_ | (refine jo ?_;first | refine jL fun _=>?_ | refine jC F F F ?_ | refine aV F ?_ | (refine aM F F F (cx_boa _) F ?_;rintro _ G hle ⟨ba,qa,rfl,hT1,hR1⟩;skip) | (refine aM F F F ((cx_ri0 _ _ _) (by (repeat (assumption));done) (by (repeat (assumption));done)) rfl ?_;rintro _ G hle rfl;skip)) | refine ad F F ?_ | (refine aj (dV (id:=5) (tt:=7) F ai ?_);refine jW 5 [0,3,4] (aa 8 25) ?_;(refine jG (aa 8 27) 1 F (bJ F F F F) ?_);(refine jG (aa 8 31) 2 F (bJ F F F F) ?_);refine jA 5 F ?_;(refine jC F F F ?_);refine jK (aa 8 63) ?_;refine jA 6 F ?_;(refine jC F F F ?_);refine jK (aa 8 127) ?_;refine jW 0 [7] (aa 8 255) ?_;refine jQ ?_))
 all_goals refine jZ (vs:=[_,_,_,_]) F ⟨F,aF F F F F,aF F F F F,F,trivial⟩ F ⟨(Gh.le.trans aS hle),F,?_⟩
 all_goals exact ⟨_,_,_,_,F⟩
theorem wU {s k w : act} {u : V} {ts : List Ty} (h : s.length ≤ 1048576 ∧ k.length ≤ 1048576 ∧ w.length ≤ 1048576) (hs : aT s = some ts) (hki : aJ ts k = true) (hvo : bZ ts k w = some u) :
  bx acs 53 [S s,S k,S w] G (fun v G'=>∃ b qs cv,v = Tu [Pt b 0,Ag [S (sg k),S (bs k),S (nm k)],Ag (b7 cv),Bo true] ∧ ah qs = ts ∧ ScI G' b qs ∧ V.rep G' u cv):=by
 have hw:=ci hs
 have hk : cz s k = true:=by unfold cz;rw [hs];exact hki
 have cx_boa : ∀ G,bx acs 50 [S s,S k] G (fun v G'=>∃ b qs,v = Tu [Pt b 0,Ag [S (sg k),S (bs k),S (nm k)],Bo true] ∧ ah qs = ts ∧ ScI G' b qs):=fun G=>by
  refine (ml (G:=G) (s:=s) (k:=k) oM oM).mono ?_
  rintro v G' L' ⟨h1,h2,⟨h4,_⟩ | ⟨b,qs,rfl,h4,h5,h6⟩⟩
  ·rw [h4] at hk;cases hk
  ·rw [hs] at h4;exact ⟨h1,h2,b,qs,F,(Option.some.inj h4).symm,h6⟩
 have cx_ri1 : ∀ G b qs,ah qs = ts → ScI G b qs → bx acs 96 [Pt b 0,Ag [S (sg k),S (bs k),S (nm k)],S w] G (fun v G'=>∃ cv,v = Tu [Ag (b7 cv),Bo true] ∧ V.rep G' u cv):=fun G b qs hq hS=>by
  subst hq
  refine (tq (G:=G) (b:=b) (s:=w) hS hw hki oM).mono ?_
  rintro v G' L' ⟨h1,h2,⟨h4,_⟩ | ⟨u',c,h4,rfl,h5⟩⟩
  ·rw [hvo] at h4;cases h4
  ·rw [hvo] at h4;obtain rfl:=Option.some.inj h4;exact ⟨h1,h2,c,F,h5⟩
 refine jB [(0,_),(1,_),(2,_)] Tryz.func53 Tryz.ntmps53 fun B hok hB hW=>?_
 repeat' (first | refine jR ?_ | (refine jo ?_;first | refine jL fun _=>?_ | refine jC F F F ?_ | refine aV F ?_ | (refine aM F F F (cx_boa _) F ?_;rintro _ G hle ⟨ba,qa,rfl,hT1,hR1⟩;skip) | (refine aM F F F ((cx_ri1 _ _ _) (by (repeat (assumption));done) (by (repeat (assumption));done)) rfl ?_;rintro _ G hle ⟨cv,rfl,hrv⟩;skip)) | refine ad F F ?_)
 rename_i x7 x8 Ga hla x11 x13
 dsimp only [b7,VC.sl]
 (refine aj (an (id:=5) [.blk x13 (.cells (List.toArray [U8 (cv.what : Nat),S cv.text,I cv.tag,.slice cv.a cv.n cv.c]) iv (0,0)),.blk x11 (.cells (List.toArray [S (sg k),S (bs k),S (nm k)]) tT (0,0))] (by intro y hy;simp only [List.mem_cons,List.not_mem_nil,or_false] at hy ⊢;rcases hy with hy | hy <;> simp [hy]) ai ?_);refine jW 5 [0,3,4] (aa 8 25) ?_;(refine jG (aa 8 27) 1 F (bJ F F F F) ?_);(refine jG (aa 8 31) 2 F (bJ F F F F) ?_);refine jA 5 F ?_;(refine jC F F F ?_);refine jK (aa 8 63) ?_;refine jA 6 F ?_;(refine jC F F F ?_);refine jK (aa 8 127) ?_;refine jW 0 [7] (aa 8 255) ?_;refine jQ ?_)
 all_goals repeat' (refine jR ?_)
 all_goals refine jZ (vs:=[_,_,_,_]) F ⟨F,aF F F F F,aF F F F F,F,trivial⟩ F ⟨(Gh.le.trans aS hle),F,?_⟩
 all_goals exact ⟨ba,qa,cv,F,hT1,hR1.mono hle,hrv⟩
def eC (b : Nat) : List Value:=[Pt b 0]
instance : RowF eC 1:=⟨fun _=>rfl⟩
def gk (n : Int) : List Value:=[I n]
instance : RowF gk 1:=⟨fun _=>rfl⟩
abbrev aca : TypeId:=9
abbrev pG : TypeId:=120
inductive RepR (G : Gh) (ts : List Ty) : V → act → Nat → Prop
 | leaf (w : Nat) (x k tx : act) (b : Nat) : cM G b 0 [S k,S tx,aH,aH] → ((w = 110 ∧ k = [110] ∧ tx = x ∧ ∀ c ∈ x,aZ c = true) ∨ (w = 116 ∧ k = [116] ∧ tx = 39 :: (x ++ [39])) ∨ (w = 102 ∧ k = [102] ∧ tx = x ∧ (x = [121,101,115] ∨ x = [110,111]))) → RepR G ts (.nd w x 0 []) k b
 | lst (k : act) (b : Nat) (ks : List V) (bs : List Nat) (a : Option Addr) (c : Nat) : cM G b 0 [S (91 :: k),S [],aH,.slice a ks.length c] → a8 G (.slice a ks.length c) 1 ks.length (aI eC bs) → bs.length = ks.length → (∀ i,i < ks.length → RepR G ts (ae ks i) k (ae bs i)) → RepR G ts (.nd 91 [] 0 ks) (91 :: k) b
 | non (k : act) (b : Nat) : cM G b 0 [S (63 :: k),S [],aH,aH] → RepR G ts (.nd 63 [] 0 []) (63 :: k) b
 | opt (k : act) (b kb b' cc : Nat) (v : V) : 1 ≤ cc → cM G b 0 [S (63 :: k),S [],aH,.slice (some ⟨kb,0,none⟩) 1 cc] → cM G kb 0 [Pt b' 0] → RepR G ts v k b' → RepR G ts (.nd 63 [] 0 [v]) (63 :: k) b
 | recd (k : act) (b : Nat) (t : Ty) (fs : List (Fld × V)) (bs : List Nat) (a a2 : Option Addr) (c c2 : Nat) : aX ts k = some t ∧ t.sort = 82 → cM G b 0 [S k,S [82],.slice a fs.length c,.slice a2 fs.length c2] → a8 G (.slice a fs.length c) 1 fs.length (aI gk (fs.map fun p=>p.1.tag)) → a8 G (.slice a2 fs.length c2) 1 fs.length (aI eC bs) → bs.length = fs.length → (∀ i,i < fs.length → (ae fs i).1 ∈ t.fields) → (∀ i,i < fs.length → RepR G ts (ae fs i).2 (ae fs i).1.kind (ae bs i)) → RepR G ts (.nd 82 [] 0 (fs.map fun p=>.nd 61 [] p.1.tag [p.2])) k b
 | enm (k : act) (b tb : Nat) (t : Ty) (d : Fld) {tc : Nat} : aX ts k = some t ∧ t.sort = 69 → d ∈ t.fields → cM G b 0 [S k,S [69],.slice (some ⟨tb,0,none⟩) 1 (tc + 1),aH] → cM G tb 0 [I d.tag] → RepR G ts (.nd 69 [] d.tag []) k b
 | uni (k : act) (b tb kb b' cc : Nat) (t : Ty) (d : Fld) (v : V) {tc : Nat} : 1 ≤ cc → aX ts k = some t ∧ t.sort = 85 → d ∈ t.fields → cM G b 0 [S k,S [85],.slice (some ⟨tb,0,none⟩) 1 (tc + 1),.slice (some ⟨kb,0,none⟩) 1 cc] → cM G tb 0 [I d.tag] → cM G kb 0 [Pt b' 0] → RepR G ts v d.kind b' → RepR G ts (.nd 85 [] d.tag [v]) k b
theorem RepR.mono {G G' : Gh} {ts : List Ty} (hl : Gh.le G G') {v : V} {k : act} {b : Nat} (h : RepR G ts v k b) : RepR G' ts v k b:=by
 induction h with
 | leaf w x k tx b h1 h2=>exact .leaf w x k tx b (h1.mono hl) h2
 | lst k b ks bs a c h1 h2 h3 _ ih=>exact .lst k b ks bs a c (h1.mono hl) (h2.mono hl) h3 ih
 | non k b h1=>exact .non k b (h1.mono hl)
 | opt k b kb b' cc v h0 h1 h2 _ ih=>exact .opt k b kb b' cc v h0 (h1.mono hl) (h2.mono hl) ih
 | recd k b t fs bs a a2 c c2 h0 h1 h2 h3 h4 h5 _ ih=>exact .recd k b t fs bs a a2 c c2 h0 (h1.mono hl) (h2.mono hl) (h3.mono hl) h4 h5 ih
 | enm k b tb t d h0 h1 h2 h3=>exact .enm k b tb t d h0 h1 (h2.mono hl) (h3.mono hl)
 | uni k b tb kb b' cc t d v hcc h0 h1 h2 h3 h4 _ ih=>exact .uni k b tb kb b' cc t d v hcc h0 h1 (h2.mono hl) (h3.mono hl) (h4.mono hl) ih
def ck (ts : List Ty) (f : Option (V × act)) (k : act) (v : Value) (G' : Gh) : Prop :=
 ∃ q rest ok,v = Tu [.pointer q,S rest,Bo ok] ∧ (ok = true → ∃ w b,q = some ⟨b,0,none⟩ ∧ f = some (w,rest) ∧ RepR G' ts w k b) ∧ (ok = false → f = none)
theorem r4 {s : act} (hs : s.length ≤ 100000000) : av acs 191 [S s] G (· = I ((s.takeWhile aZ).length : Nat)):=by
 refine jE [(0,_)] Tryz.func191 Tryz.ntmps191 fun B hB=>?_
 repeat' (refine jR ?_)
 refine aR (ι:=Nat) (fun i=>i ≤ s.length ∧ i + ((s.drop i).takeWhile aZ).length = (s.takeWhile aZ).length) (fun i=>[(0,S s),(3,I i)]) (fun _=>G) (fun i=>[]) (fun i=>s.length - i) 0 ?_ tU F aW (fun i Hi=>?_)
 ·exact ⟨Nat.zero_le _,by simp⟩
 obtain ⟨hi0,hi1⟩:=Hi
 by_cases hi : i < s.length
 ·obtain ⟨c,hc1,hc2⟩:=fL hi
  have hc3 : bt s ((i : Int).toNat) = c.toNat:=hc2
  rw [hc1,List.takeWhile_cons] at hi1
  by_cases hd : aZ c = true
  ·rw [if_pos hd] at hi1
   have hd2:=hd
   unfold aZ at hd2
   rw [decide_eq_true_eq] at hd2
   simp only [List.length_cons] at hi1
   repeat' (first | refine jM ?_ | (refine jo ?_;refine aE F ?_) | refine aw F F (ar oM) ?_ | refine ac F (ar oM) ?_)
   exact aY (i + 1) ⟨oM,oM⟩ oM tU F aW
  ·rw [if_neg hd] at hi1
   have hd2 : ¬ (48 ≤ c.toNat ∧ c.toNat ≤ 57):=fun h=>hd (by unfold aZ;rw [decide_eq_true_eq];exact h)
   simp only [List.length_nil] at hi1
   repeat' (first | refine jM ?_ | (refine jo ?_;first | refine aE F ?_ | refine aq F ?_) | refine aw F F (ar oM) ?_ | refine dA F F (fun _=>?_) (fun _=>?_) | (refine ad F (by first | rfl | (refine decide_eq_false ?_;(omega))) ?_))
   all_goals refine jY (vs:=[_]) ?_
   all_goals (rw [ax,← hi1];rfl)
 ·have : i = s.length:=oM
  rw [this,List.drop_length] at hi1
  simp only [List.takeWhile_nil,List.length_nil] at hi1
  repeat' (first | refine jR ?_ | (refine jo ?_;refine aq F ?_) | (refine al F F (by first | rfl | (refine decide_eq_false ?_;(omega))) ?_) | refine ad F F ?_)
  all_goals refine jY (vs:=[_]) ?_
  all_goals (rw [ax,← hi1,this];rfl)
theorem nU (q : UInt8 → Bool) (s : act) : s.take ((((s.takeWhile q).length : Nat) : Int)).toNat = s.takeWhile q ∧ s.drop ((((s.takeWhile q).length : Nat) : Int)).toNat = s.dropWhile q:=by
 have h:=List.takeWhile_append_dropWhile (p:=q) (l:=s)
 have e : ((((s.takeWhile q).length : Nat) : Int)).toNat = (s.takeWhile q).length:=oM
 rw [e]
 constructor
 ·have h2 : (s.takeWhile q ++ s.dropWhile q).take (s.takeWhile q).length = s.takeWhile q:=List.take_left
  rwa [h] at h2
 ·have h2 : (s.takeWhile q ++ s.dropWhile q).drop (s.takeWhile q).length = s.dropWhile q:=List.drop_left
  rwa [h] at h2
theorem wP {u : Value} {ts : List Ty} {s : act} (hu : u.oneCell' = true) (hs : s.length ≤ 100000000) : bx acs 154 [Ag [u],S s,S [110]] G (ck ts ((cb 999999 s).map fun x=>(.nd 110 (br x.1) 0 [],x.2)) [110]):=by
 have cx_dg:=r4 (G:=G) hs
 obtain ⟨e1,e2⟩:=nU aZ s
 have hwl:=dH aZ s
 have hlen : (s.take ((((s.takeWhile aZ).length : Nat) : Int)).toNat).length ≤ 100000000:=by rw [e1];omega
 refine jB [(0,_),(1,_),(2,_)] Tryz.func154 Tryz.ntmps154 fun B hok hB hW=>?_
 repeat' (first | refine jM ?_ | (refine jo ?_;first | refine jO fun _=>?_ | refine ab F F F cx_dg F ?_ | (refine c8 F F F (gZ oM) F ?_;rintro _ ⟨n,rfl,hnum⟩)) | refine ac F F ?_ | (refine aj (an (id:=6) _ (fun _ h=>h) ai ?_);refine jW 5 [0,1,2,3,6,7,8,9] (aa 13 975) ?_;(refine jG (aa 13 991) 4 F (am F F) ?_);refine jA 5 F ?_;(refine jO fun _=>?_);refine jS (aa 13 1023) ?_;refine jT 0 [10,11,12] (aa 13 8191) ?_;refine jQ ?_))
 rename_i x3 x4
 refine Nx.sealC (b:=x4) fun G2 hG2 hsy=>?_
 refine jZ (vs:=[_,_,_]) F ⟨F,F,F,trivial⟩ F ⟨hG2,F,?_⟩
 rw [aB]
 rw [e1] at hnum hsy
 rw [e1,e2]
 refine ⟨_,_,_,F,fun h=>?_,fun h=>?_⟩
 ·cases hm : aL (s.takeWhile aZ) 999999 with
  | none=>rw [hm] at h;cases h
  | some m =>
   have hmd:=(d9 hm).2.1
   refine ⟨.nd 110 (br m) 0 [],x4,F,by unfold cb;rw [hm];rfl,.leaf 110 _ _ _ _ hsy (.inl ⟨rfl,rfl,hmd,fun c hc=>List.all_eq_true.1 (List.all_takeWhile (l:=s) (p:=aZ)) c (by rw [hmd];exact hc)⟩)⟩
 ·cases hm : aL (s.takeWhile aZ) 999999 with
  | none=>unfold cb;rw [hm];rfl
  | some m=>rw [hm] at h;cases h
theorem om {c : UInt8} {r : act} {i : Nat} (hc : i ≤ r.length) (hn : ∀ j,j < i → bt r j ≠ 39) (hi : i = r.length ∨ bt r i = 39 ∧ i < r.length) :
  (dh (c :: r) = if db ((c :: r).take (min (i + 2) (r.length + 1))) = true then some (.nd 116 (r.take i) 0 [],r.drop (i + 1)) else none) ∧ (db ((c :: r).take (min (i + 2) (r.length + 1))) = true → (c :: r).take (min (i + 2) (r.length + 1)) = 39 :: (r.take i ++ [39])):=by
 unfold dh
 dsimp only
 rcases hi with hi | ⟨h39,hlt⟩
 ·have hcut : aC 39 r = (r,[],false):=pw fun j hj=>hn j oM
  have htk : (c :: r).take (min (i + 2) (r.length + 1)) = c :: r:=List.take_of_length_le (by simp;omega)
  have hno : db (c :: r) = false:=by
   unfold db
   refine decide_eq_false fun h=>?_
   obtain ⟨⟨h2,_⟩,_,h3,_⟩:=h
   simp only [List.length_cons] at h2
   rw [show (c :: r).length - 1 = (r.length - 1) + 1 by simp;omega,dT] at h3
   exact hn (r.length - 1) oM h3
  rw [hcut,htk,hno]
  exact ⟨by simp,fun h=>(by cases h)⟩
 ·have hcut:=mH (k:=39) hlt hn h39
  have htk : (c :: r).take (min (i + 2) (r.length + 1)) = c :: (r.take i ++ [39]):=by
   rw [show min (i + 2) (r.length + 1) = (i + 1) + 1 by omega,List.take_succ_cons,eQ hlt]
   congr 1;congr 1;congr 1
   rw [aU hlt]
   have : bt r i = (r[i]).toNat:=by simp [bt,List.getD,List.getElem?_eq_getElem hlt]
   exact UInt8.toNat_inj.1 (by rw [← this,h39];rfl)
  rw [hcut,htk]
  dsimp only
  by_cases h : c.toNat = 39
  ·rw [if_pos h,show c = 39 from UInt8.toNat_inj.1 h]
   exact ⟨F,fun _=>rfl⟩
  ·have hno : ¬ db (c :: (r.take i ++ [39])) = true:=fun ht=>by
    unfold db at ht
    rw [decide_eq_true_eq] at ht
    exact h (by have:=ht.2.1;rwa [bh] at this)
   rw [if_neg h,if_neg hno]
   exact ⟨F,fun h2=>absurd h2 hno⟩
theorem wO {u : Value} {ts : List Ty} {s : act} (hu : u.oneCell' = true) (hs : s.length ≤ 100000000) (hne : s ≠ []) : bx acs 154 [Ag [u],S s,S [116]] G (ck ts (dh s) [116]):=by
 match s,hne with
 | c :: r,_ =>
 simp only [List.length_cons] at hs
 have hcl : (c :: r).length = r.length + 1:=rfl
 refine jB [(0,_),(1,_),(2,_)] Tryz.func154 Tryz.ntmps154 fun B hok hB hW=>?_
 repeat' (first | refine jR ?_ | (refine jo ?_;refine jO fun _=>?_) | refine ac F F ?_ | refine ad F F ?_)
 rename_i x3
 refine aR (ι:=Nat) (fun i=>i ≤ r.length ∧ ∀ j,j < i → bt r j ≠ 39) (fun i=>[(1,S (c :: r)),(2,S [116]),(9,I (i + 1 : Nat))]) (fun _=>G) (fun i=>[]) (fun i=>r.length - i) 0 ?_ tU F (by repeat (exact List.nil_sublist _)) (fun i Hi=>?_)
 ·exact ⟨Nat.zero_le _,fun j hj=>absurd hj oM⟩
 obtain ⟨hi0,hi1⟩:=Hi
 have hb : bt (c :: r) ((i + 1 : Nat) : Int).toNat = bt r i:=dT c r i
 by_cases hi : i < r.length
 ·by_cases h39 : bt r i = 39
  ·have h39' : bt (c :: r) ((i + 1 : Nat) : Int).toNat = 39:=by rw [hb];exact h39
   have hq:=om (c:=c) hi0 hi1 (.inr ⟨h39,hi⟩)
   have e3 : (min (((i + 1 : Nat) : Int) + 1) ((((c :: r).length : Nat) : Int))).toNat = min (i + 2) (r.length + 1):=oM
   have cx_tx:=eV (G:=G) (s:=(c :: r).take (min (((i + 1 : Nat) : Int) + 1) ((((c :: r).length : Nat) : Int))).toNat) (by rw [List.length_take];omega)
   repeat' (first | refine jM ?_ | (refine jo ?_;first | refine aE F ?_ | refine jV (ug F F) ?_) | refine aw F F (ar oM) ?_ | refine ad F (ay oM) ?_ | (refine aj (an (id:=12) _ (fun _ h=>h) ai ?_);refine jW 6 [0,1,2,3,6,7,8,9,10,11] (aa 16 4047) ?_;(refine jG (aa 16 4063) 4 F (am F F) ?_);refine cy [5,12] kR dC ⟨?_,?_,trivial⟩;(focus (refine a9 F F ?_;(refine jO fun _=>?_);refine jS (aa 16 4095) ?_;refine jA 12 F ?_;((refine ab F F F (eV ?_) F ?_;(focus ((simp;omega);done))));refine jS (aa 16 8191) ?_;refine jW 0 [13,14,15] (aa 16 65535) ?_;refine jQ ?_));rotate_left 1;(focus (refine a9 F F ?_;((refine ab F F F (eV ?_) F ?_;(focus ((simp;omega);done))));refine jS (aa 16 8159) ?_;refine jA 5 F ?_;(refine jO fun _=>?_);refine jS (aa 16 8191) ?_;refine jW 0 [13,14,15] (aa 16 65535) ?_;refine jQ ?_));rotate_left 1))
   all_goals
    rename_i x4
    refine Nx.sealC (b:=x4) fun G2 hG2 hsy=>?_
    refine jZ (vs:=[_,_,_]) F ⟨F,F,F,trivial⟩ F ⟨hG2,F,?_⟩
    rw [aB]
    rw [e3] at hsy
    rw [e3]
    refine ⟨_,_,_,F,fun h=>?_,fun h=>?_⟩
    ·have htk:=hq.2 h
     rw [htk] at hsy
     have hdr : (c :: r).drop (min (i + 2) (r.length + 1)) = r.drop (i + 1):=by
      rcases Nat.lt_or_ge i r.length with h2 | h2
      ·rw [show min (i + 2) (r.length + 1) = (i + 1) + 1 by omega];rfl
      ·rw [List.drop_eq_nil_of_le (by simp;omega),List.drop_eq_nil_of_le oM]
     exact ⟨_,x4,F,by rw [hq.1,if_pos h,hdr],.leaf 116 _ _ _ _ hsy (.inr (.inl ⟨F,F,F⟩))⟩
    ·rw [hq.1,if_neg (by rw [h];decide)]
  ·have h39' : ¬ bt (c :: r) ((i + 1 : Nat) : Int).toNat = 39:=by rw [hb];exact h39
   repeat' (first | refine jM ?_ | (refine jo ?_;refine aE F ?_) | refine aw F F (ar oM) ?_ | refine ac F (ar oM) ?_)
   refine Nx.re (d:=9) (v':=I (i + 1 + 1 : Nat)) F (congrArg (Value.int .i64) oM) ?_
   exact aY (i + 1) ⟨oM,fun j hj=>(by
    rcases Nat.lt_or_ge j i with h | h
    ·exact hi1 j h
    ·have : j = i:=oM
     subst this;exact h39)⟩ oM tU F aW
 ·have hq:=om (c:=c) hi0 hi1 (.inl oM)
  have e3 : (min (((i + 1 : Nat) : Int) + 1) ((((c :: r).length : Nat) : Int))).toNat = min (i + 2) (r.length + 1):=oM
  have cx_tx:=eV (G:=G) (s:=(c :: r).take (min (((i + 1 : Nat) : Int) + 1) ((((c :: r).length : Nat) : Int))).toNat) (by rw [List.length_take];omega)
  repeat' (first | refine jM ?_ | (refine jo ?_;first | refine aq F ?_ | refine jV (ug F F) ?_) | refine al F F (ay oM) ?_ | refine ad F F ?_ | (refine aj (an (id:=12) _ (fun _ h=>h) ai ?_);refine jW 6 [0,1,2,3,6,7,8,9,10,11] (aa 16 4047) ?_;(refine jG (aa 16 4063) 4 F (am F F) ?_);refine cy [5,12] kR dC ⟨?_,?_,trivial⟩;(focus (refine a9 F F ?_;(refine jO fun _=>?_);refine jS (aa 16 4095) ?_;refine jA 12 F ?_;((refine ab F F F (eV ?_) F ?_;(focus ((simp;omega);done))));refine jS (aa 16 8191) ?_;refine jW 0 [13,14,15] (aa 16 65535) ?_;refine jQ ?_));rotate_left 1;(focus (refine a9 F F ?_;((refine ab F F F (eV ?_) F ?_;(focus ((simp;omega);done))));refine jS (aa 16 8159) ?_;refine jA 5 F ?_;(refine jO fun _=>?_);refine jS (aa 16 8191) ?_;refine jW 0 [13,14,15] (aa 16 65535) ?_;refine jQ ?_));rotate_left 1))
  all_goals
   rename_i x4
   refine Nx.sealC (b:=x4) fun G2 hG2 hsy=>?_
   refine jZ (vs:=[_,_,_]) F ⟨F,F,F,trivial⟩ F ⟨hG2,F,?_⟩
   rw [aB]
   rw [e3] at hsy
   rw [e3]
   refine ⟨_,_,_,F,fun h=>?_,fun h=>?_⟩
   ·have htk:=hq.2 h
    rw [htk] at hsy
    have hdr : (c :: r).drop (min (i + 2) (r.length + 1)) = r.drop (i + 1):=by
     rcases Nat.lt_or_ge i r.length with h2 | h2
     ·rw [show min (i + 2) (r.length + 1) = (i + 1) + 1 by omega];rfl
     ·rw [List.drop_eq_nil_of_le (by simp;omega),List.drop_eq_nil_of_le oM]
    exact ⟨_,x4,F,by rw [hq.1,if_pos h,hdr],.leaf 116 _ _ _ _ hsy (.inr (.inl ⟨F,F,F⟩))⟩
   ·rw [hq.1,if_neg (by rw [h];decide)]
theorem wQ {u : Value} {ts : List Ty} {s : act} (hu : u.oneCell' = true) (hs : s.length ≤ 100000000) : bx acs 154 [Ag [u],S s,S [102]] G (ck ts (dW s) [102]):=by
 have hpf : ∀ l : act,l.isPrefixOf s = true ↔ l.length ≤ s.length ∧ s.take l.length = l:=fun l=>by
  rw [List.isPrefixOf_iff_prefix]
  constructor
  ·rintro ⟨t,rfl⟩;simp
  ·rintro ⟨h1,h2⟩;exact ⟨s.drop l.length,by rw [show l ++ s.drop l.length = s.take l.length ++ s.drop l.length from by rw [h2]];exact List.take_append_drop _ _⟩
 refine jB [(0,_),(1,_),(2,_)] Tryz.func154 Tryz.ntmps154 fun B hok hB hW=>?_
 repeat' (first | refine jR ?_ | (refine jo ?_;first | refine jO fun _=>?_ | refine jF fun _=>?_ | refine jV (ao F) ?_) | refine ad F F ?_)
 rename_i x3 x4
 refine aR (ι:=Nat) (fun i=>i ≤ 2 ∧ (1 ≤ i → ([121,101,115] : act).isPrefixOf s = false) ∧ (2 ≤ i → ([110,111] : act).isPrefixOf s = false)) (fun i=>[(1,S s),(2,S [102]),(68,.slice (some ⟨x4,0,none⟩) 2 2),(69,I (2 : Nat)),(70,I i)]) (fun _=>G) (fun i=>[.blk x4 (.cells (List.toArray [S [121,101,115],S [110,111]]) aca (0,0))]) (fun i=>2 - i) 0 ?_ tU F sB (fun i Hi=>?_)
 ·exact ⟨Nat.zero_le _,fun h=>absurd h oM,fun h=>absurd h oM⟩
 obtain ⟨hi0,hi1,hi2⟩:=Hi
 have h3 : i = 0 ∨ i = 1 ∨ i = 2:=oM
 rcases h3 with rfl | rfl | rfl
 ·cases hp : ([121,101,115] : act).isPrefixOf s with
  | true =>
   obtain ⟨h1,h2⟩:=(hpf _).1 hp
   have h1' : (((([121,101,115] : act).length : Nat) : Int)) ≤ s.length:=oM
   have h2' : s.take (((([121,101,115] : act).length : Nat) : Int)).toNat = [121,101,115]:=h2
   repeat' (first | refine jM ?_ | (refine jo ?_;first | refine aE F ?_ | refine jV (aD F F oM) ?_ | refine ak F ?_) | refine aw F F (ar ‹_›) ?_ | (refine ac F (by first | rfl | (refine decide_eq_true ?_;(assumption))) ?_) | (refine aj (an (id:=17) _ (fun _ h=>h) ai ?_);refine jW 5 [0,1,4,5,6,7] (aa 11 243) ?_;(refine jG (aa 11 247) 2 F (am F F) ?_);refine jA 3 F ?_;(refine jO fun _=>?_);refine jS (aa 11 255) ?_;refine jT 0 [8,9,10] (aa 11 2047) ?_;refine jQ ?_))
   all_goals
    rename_i y
    refine Nx.sealC (b:=y) fun G2 hG2 hsy=>?_
    refine jZ (vs:=[_,_,_]) F ⟨F,F,F,trivial⟩ F ⟨hG2,F,?_⟩
    rw [aB]
    exact ⟨_,_,_,F,fun _=>⟨.nd 102 [121,101,115] 0 [],y,F,by unfold dW;rw [hp,if_pos rfl];rfl,.leaf 102 _ _ _ _ hsy (.inr (.inr ⟨rfl,rfl,rfl,.inl rfl⟩))⟩,fun h=>(by cases h)⟩
  | false =>
   have hn : ¬ ((([121,101,115] : act).length : Nat) ≤ s.length ∧ s.take ([121,101,115] : act).length = [121,101,115]):=fun h=>by rw [(hpf _).2 h] at hp;cases hp
   have hn' : ¬ ((((([121,101,115] : act).length : Nat) : Int)) ≤ s.length ∧ s.take (((([121,101,115] : act).length : Nat) : Int)).toNat = [121,101,115]):=fun h=>hn ⟨oM,h.2⟩
   by_cases h1' : (((([121,101,115] : act).length : Nat) : Int)) ≤ s.length
   ·have h2' : ¬ s.take (((([121,101,115] : act).length : Nat) : Int)).toNat = [121,101,115]:=fun h=>hn' ⟨h1',h⟩
    repeat' (first | refine jM ?_ | (refine jo ?_;first | refine aE F ?_ | refine jV (aD F F oM) ?_ | refine ak F ?_) | refine aw F F (ar ‹_›) ?_ | refine ac F F ?_ | refine ad F (ay ‹_›) ?_)
    exact aY 1 ⟨oM,fun _=>rfl,fun h=>absurd h oM⟩ oM tU F aW
   ·repeat' (first | refine jM ?_ | (refine jo ?_;first | refine aq F ?_ | refine jV (aD F F oM) ?_ | refine ak F ?_) | refine al F F (ay ‹_›) ?_ | refine ac F F ?_ | refine ad F F ?_)
    exact aY 1 ⟨oM,fun _=>rfl,fun h=>absurd h oM⟩ oM tU F aW
 ·have hy:=hi1 (Nat.le_refl _)
  cases hp : ([110,111] : act).isPrefixOf s with
  | true =>
   obtain ⟨h1,h2⟩:=(hpf _).1 hp
   have h1' : (((([110,111] : act).length : Nat) : Int)) ≤ s.length:=oM
   have h2' : s.take (((([110,111] : act).length : Nat) : Int)).toNat = [110,111]:=h2
   repeat' (first | refine jM ?_ | (refine jo ?_;first | refine aE F ?_ | refine jV (aD F F oM) ?_ | refine ak F ?_) | refine aw F F (ar ‹_›) ?_ | (refine ac F (by first | rfl | (refine decide_eq_true ?_;(assumption))) ?_) | (refine aj (an (id:=17) _ (fun _ h=>h) ai ?_);refine jW 5 [0,1,4,5,6,7] (aa 11 243) ?_;(refine jG (aa 11 247) 2 F (am F F) ?_);refine jA 3 F ?_;(refine jO fun _=>?_);refine jS (aa 11 255) ?_;refine jT 0 [8,9,10] (aa 11 2047) ?_;refine jQ ?_))
   all_goals
    rename_i y
    refine Nx.sealC (b:=y) fun G2 hG2 hsy=>?_
    refine jZ (vs:=[_,_,_]) F ⟨F,F,F,trivial⟩ F ⟨hG2,F,?_⟩
    rw [aB]
    exact ⟨_,_,_,F,fun _=>⟨.nd 102 [110,111] 0 [],y,F,by unfold dW;rw [hy,if_neg dC,hp,if_pos rfl];rfl,.leaf 102 _ _ _ _ hsy (.inr (.inr ⟨rfl,rfl,rfl,.inr rfl⟩))⟩,fun h=>(by cases h)⟩
  | false =>
   have hn : ¬ ((([110,111] : act).length : Nat) ≤ s.length ∧ s.take ([110,111] : act).length = [110,111]):=fun h=>by rw [(hpf _).2 h] at hp;cases hp
   have hn' : ¬ ((((([110,111] : act).length : Nat) : Int)) ≤ s.length ∧ s.take (((([110,111] : act).length : Nat) : Int)).toNat = [110,111]):=fun h=>hn ⟨oM,h.2⟩
   by_cases h1' : (((([110,111] : act).length : Nat) : Int)) ≤ s.length
   ·have h2' : ¬ s.take (((([110,111] : act).length : Nat) : Int)).toNat = [110,111]:=fun h=>hn' ⟨h1',h⟩
    repeat' (first | refine jM ?_ | (refine jo ?_;first | refine aE F ?_ | refine jV (aD F F oM) ?_ | refine ak F ?_) | refine aw F F (ar ‹_›) ?_ | refine ac F F ?_ | refine ad F (ay ‹_›) ?_)
    exact aY 2 ⟨oM,fun _=>hy,fun _=>rfl⟩ oM tU F aW
   ·repeat' (first | refine jM ?_ | (refine jo ?_;first | refine aq F ?_ | refine jV (aD F F oM) ?_ | refine ak F ?_) | refine al F F (ay ‹_›) ?_ | refine ac F F ?_ | refine ad F F ?_)
    exact aY 2 ⟨oM,fun _=>hy,fun _=>rfl⟩ oM tU F aW
 ·repeat' (first | refine jR ?_ | refine ad F F ?_)
  refine jZ (vs:=[_,_,_]) F ⟨F,F,F,trivial⟩ F ⟨Gh.le.refl _,F,?_⟩
  rw [aB]
  exact ⟨_,_,_,F,fun h=>(by cases h),fun _=>by unfold dW;rw [hi1 oM,if_neg dC,hi2 oM,if_neg dC]⟩
theorem qC {u : Value} {x : bL} {s : act} (hs : s.length ≤ 100000000) (hu : u.oneCell' = true) (hf : a8 G (gf x) 4 x.2.fields.length (aI gU x.2.fields)) (hl : x.2.fields.length ≤ 1000) :
  av acs 190 [Ag [u],S s,Ag (iZ x)] G (fun v=>∃ n,v = Tu [Ag (gU ((bK x.2.fields n).getD zF)),S (s.dropWhile aZ),Bo ((aL (s.takeWhile aZ) 200).isSome && (bK x.2.fields n).isSome)] ∧ ∀ m,aL (s.takeWhile aZ) 200 = some m → n = m):=by
 have cx_dg:=r4 (G:=G) hs
 obtain ⟨e1,e2⟩:=nU aZ s
 have hwl:=dH aZ s
 have hlen : (s.take ((((s.takeWhile aZ).length : Nat) : Int)).toNat).length ≤ 100000000:=by rw [e1];omega
 simp only [iZ]
 refine jE [(0,_),(1,_),(2,_)] Tryz.func190 Tryz.ntmps190 fun B hB=>?_
 repeat' (first | refine jM ?_ | (refine jo ?_;first | refine jO fun _=>?_ | refine jL fun _=>?_ | refine aV F ?_ | refine ab F F F cx_dg F ?_ | (refine c8 F F F (gZ oM) F ?_;rintro _ ⟨n,rfl,hnum⟩)))
 rename_i n
 have cx_fld:=g5 (G:=G) (tag:=n) hf hl
 rw [e1] at hnum
 cases hm : (aL (s.take ((((s.takeWhile aZ).length : Nat) : Int)).toNat) 200).isSome with
 | false =>
  repeat' (first | refine jR ?_ | (refine jo ?_;first | refine jL fun _=>?_ | refine jC F F F ?_ | refine ab F F F cx_fld F ?_) | (refine aj (dV (id:=4) (tt:=6) F ai ?_);refine jW 6 [1,2,3,4,5] (aa 11 62) ?_;(try (refine Nx.re (d:=34) (v':=Bo false) F (congrArg Value.bool F) ?_));refine jW 5 [6] (aa 11 126) ?_;(refine jG (aa 11 127) 0 F (bJ F F F F) ?_);((refine jG (aa 11 255) 7 F (be F F ?_) ?_;(focus ((rfl);done))));refine jA 8 F ?_;(refine jC F F F ?_);refine jK (aa 11 511) ?_;refine jW 0 [9,10] (aa 11 2047) ?_;refine jQ ?_))
  all_goals refine jZ (vs:=[_,_,_]) F ⟨aF F F F F,F,F,trivial⟩ F ⟨F,F,?_⟩
  all_goals (rw [aB];exact ⟨n,by rw [e1] at hm;rw [hm,e2];rfl,hnum⟩)
 | true =>
  repeat' (first | refine jR ?_ | (refine jo ?_;first | refine jL fun _=>?_ | refine jC F F F ?_ | refine ab F F F cx_fld F ?_) | (refine aj (dV (id:=4) (tt:=6) F ai ?_);refine jW 6 [1,2,3,4,5] (aa 11 62) ?_;(try (refine Nx.re (d:=34) (v':=Bo true) F (congrArg Value.bool F) ?_));refine jW 5 [6] (aa 11 126) ?_;(refine jG (aa 11 127) 0 F (bJ F F F F) ?_);((refine jG (aa 11 255) 7 F (bB F F ?_) ?_;(focus ((rfl);done))));refine jA 8 F ?_;(refine jC F F F ?_);refine jK (aa 11 511) ?_;refine jW 0 [9,10] (aa 11 2047) ?_;refine jQ ?_))
  all_goals refine jZ (vs:=[_,_,_]) F ⟨aF F F F F,F,F,trivial⟩ F ⟨F,F,?_⟩
  all_goals (rw [aB];exact ⟨n,by rw [e1] at hm;rw [hm,e2];rfl,hnum⟩)
def gI (v : V) : Prop:=v.out.length + 1 ≤ 2 * v.tot
theorem jv : ∀ {ks : List V},(∀ v ∈ ks,gI v) → df (V.outs ks) + ks.length ≤ 2 * V.tots ks
 | [],_=>by simp [V.outs,df]
 | v :: r,h=>by
  have h1:=h v (.head _)
  have h2:=jv fun u hu=>h u (.tail _ hu)
  unfold gI at h1
  simp only [V.outs,df,List.map_cons,List.sum_cons,V.tots,List.length_cons] at *
  omega
theorem fD {w : Nat} {x : act} {t : Int} {ks : List V} (h : ∀ v ∈ ks,gI v) (ht : t ≤ 999999) : gI (.nd w x t ks):=by
 have h1:=jv h
 have h2:=fp 44 (V.outs ks)
 rw [i8] at h2
 have h4:=ra (w:=w) (x:=x) (e:=ks.isEmpty) (j:=aP 44 (V.outs ks)) ht
 have h5:=d6 ks
 unfold gI
 rw [V.out,V.tot]
 omega
theorem ot {α : Type} [Inhabited α] {l : List α} {x : α} (h : x ∈ l) : ∃ i,i < l.length ∧ ae l i = x:=by
 obtain ⟨i,hi,rfl⟩:=List.mem_iff_getElem.1 h
 exact ⟨i,hi,aU hi⟩
theorem fS {ts : List Ty} (hw : SchW ts) {k : act} {t : Ty} (h : aX ts k = some t) {d : Fld} (hd : d ∈ t.fields) : d.tag ≤ 999999 ∧ 0 ≤ d.tag:=by
 have:=((hw.ty t (b6 h)).fld d hd).tag
 omega
theorem fa {ts : List Ty} {k : act} {t : Ty} (h : aX ts k = some t) : ∃ r,k = 64 :: r:=by
 unfold aX at h
 cases k with
 | nil=>cases h
 | cons c r =>
  unfold bE at h
  dsimp only at h
  by_cases h64 : c.toNat = 64
  ·exact ⟨r,by rw [show c = 64 from UInt8.toNat_inj.1 h64]⟩
  ·rw [if_neg h64] at h;cases h
theorem kZ {ts : List Ty} (hw : SchW ts) {v : V} {k : act} {b : Nat} (h : RepR G ts v k b) : gI v:=by
 induction h with
 | leaf w x k tx b h1 h2=>exact fD (by simp) dC
 | lst k b ks bs a c h1 h2 h3 _ ih =>
  exact fD (fun v hv=>by obtain ⟨i,hi,rfl⟩:=ot hv;exact ih i hi) dC
 | non k b h1=>exact fD (by simp) dC
 | opt k b kb b' cc v h0 h1 h2 _ ih=>exact fD (fun u hu=>by simp only [List.mem_singleton] at hu;subst hu;exact ih) dC
 | recd k b t fs bs a a2 c c2 h0 h1 h2 h3 h4 h5 _ ih =>
  refine fD (fun v hv=>?_) dC
  obtain ⟨p,hp,rfl⟩:=List.mem_map.1 hv
  obtain ⟨i,hi,rfl⟩:=ot hp
  exact fD (fun u hu=>by simp only [List.mem_singleton] at hu;subst hu;exact ih i hi) (fS hw h0.1 (h5 i hi)).1
 | enm k b tgb t d h0 h1 h2 h3=>exact fD (by simp) (fS hw h0.1 h1).1
 | uni k b tgb kb b' cc t d v hcc h0 h1 h2 h3 h4 _ ih=>exact fD (fun u hu=>by simp only [List.mem_singleton] at hu;subst hu;exact ih) (fS hw h0.1 h1).1
theorem ox {c : UInt8} {xs : List act} {i : Nat} (h : i < xs.length) : aP c (xs.take (i + 1)) = if 0 < i then aP c (xs.take i) ++ c :: ae xs i else ae xs i:=by
 rw [eQ h]
 by_cases hi : 0 < i
 ·rw [if_pos hi,k3]
  rw [ne_eq,List.take_eq_nil_iff]
  rintro (h0 | h0)
  ·omega
  ·subst h0;simp at h
 ·have : i = 0:=oM
  subst this;rfl
theorem io {ts : List Ty} (hw : SchW ts) {v : V} {k : act} {b : Nat} (h : RepR G ts v k b) : v.tot ≤ 1000000000000 → av acs 77 [Pt b 0] G (· = S v.out):=by
 induction h with
 | leaf w x k tx b h1 h2 =>
  intro _
  rcases h2 with ⟨rfl,rfl,rfl,_⟩ | ⟨rfl,rfl,rfl⟩ | ⟨rfl,rfl,rfl,_⟩
  all_goals
   refine jE [(0,_)] Tryz.func77 Tryz.ntmps77 fun B hB=>?_
   repeat' (first | refine jX ?_ | (refine jo ?_;refine jV (aG F F aS F F) ?_) | refine ad F F ?_)
   refine jY (vs:=[_]) ?_
   rw [ax,V.out];rfl
 | lst k b ks bs a c h1 h2 h3 hk ih =>
  intro ht
  rw [bU] at ht
  have hb:=jv (ks:=ks) fun v hv=>by obtain ⟨i,hi,rfl⟩:=ot hv;exact kZ hw (hk i hi)
  have hol:=i8 ks
  refine jE [(0,_)] Tryz.func77 Tryz.ntmps77 fun B hB=>?_
  repeat' (first | refine jX ?_ | (refine jo ?_;refine jV (aG F F aS F F) ?_) | refine ac F F ?_)
  refine aR (ι:=Nat) (fun i=>i ≤ ks.length) (fun i=>[(0,Pt b 0),(3,S (91 :: aP 44 ((V.outs ks).take i))),(4,I i)]) (fun _=>G) (fun i=>[]) (fun i=>ks.length - i) 0 ?_ tU F aW (fun i Hi=>?_)
  ·exact Nat.zero_le _
  have hj1:=fp 44 ((V.outs ks).take i)
  have hj2:=eg (V.outs ks) i
  have hj3 : ((V.outs ks).take i).length ≤ ks.length:=by rw [List.length_take];omega
  by_cases hi : i < ks.length
  ·have hti:=gc hi
   have cx_out:=ih i hi oM
   have hou:=kY hi
   have hxi : ae bs i = ae bs i:=rfl
   have hob:=kZ hw (hk i hi)
   unfold gI at hob
   have hst:=ox (c:=44) (xs:=V.outs ks) (i:=i) oM
   rw [hou] at hst
   obtain ⟨kb,ko,kc,e,hs⟩:=h2.expl oM
   simp only [Value.slice.injEq] at e
   obtain ⟨rfl,-,rfl⟩:=e
   by_cases h0 : 0 < i
   ·rw [if_pos h0] at hst
    repeat' (first | refine jX ?_ | (refine jo ?_;first | refine jV (aG F F aS F F) ?_ | (refine jV (fJ F F aS ?_ aS F) ?_;focus omega) | refine jV (ao F) ?_ | refine jV (aD F F oM) ?_ | refine ab F F F cx_out F ?_) | refine ac F (ar oM) ?_)
    refine Nx.re (d:=3) (v':=S (91 :: aP 44 ((V.outs ks).take (i + 1)))) F (congrArg (fun l=>S l) (by rw [hst];simp)) ?_
    exact aY (i + 1) oM oM tU F aW
   ·rw [if_neg h0] at hst
    have hi0 : i = 0:=oM
    subst hi0
    repeat' (first | refine jX ?_ | (refine jo ?_;first | (refine jV (iT F F aS ?_ aS F F) ?_;focus omega) | refine jV (aG F F aS F F) ?_ | refine jV (ao F) ?_ | refine jV (aD F F oM) ?_ | refine ab F F F cx_out F ?_) | refine ac F (ar oM) ?_ | refine ad F F ?_)
    refine Nx.re (d:=3) (v':=S (91 :: aP 44 ((V.outs ks).take (0 + 1)))) F (congrArg (fun l=>S l) (by rw [hst];rfl)) ?_
    exact aY (0 + 1) oM oM tU F aW
  ·have hin : i = ks.length:=oM
   subst hin
   repeat' (first | refine jX ?_ | (refine jo ?_;first | refine jV (aG F F aS F F) ?_ | refine jV (ao F) ?_) | refine ad F (ay oM) ?_)
   refine jY (vs:=[_]) ?_
   rw [ax,V.out,← hol,List.take_length];rfl
 | non k b h1 =>
  intro _
  refine jE [(0,_)] Tryz.func77 Tryz.ntmps77 fun B hB=>?_
  repeat' (first | refine jX ?_ | (refine jo ?_;first | refine jV (aG F F aS F F) ?_ | refine jV (ao F) ?_) | refine ac F F ?_ | refine ad F F ?_)
  refine jY (vs:=[_]) ?_
  rfl
 | opt k b kb b' cc v h0 h1 h2 h3 ih =>
  intro ht
  simp only [bU,V.tots] at ht
  have cx_out:=ih oM
  have hob:=kZ hw h3
  unfold gI at hob
  refine jE [(0,_)] Tryz.func77 Tryz.ntmps77 fun B hB=>?_
  repeat' (first | refine jX ?_ | (refine jo ?_;first | refine jV (aG F F aS F F) ?_ | refine jV (ao F) ?_ | refine jV (aQ F F oM) ?_ | refine ab F F F cx_out F ?_) | refine ac F F ?_ | refine ad F F ?_)
  refine jY (vs:=[_]) ?_
  rw [ax,V.out];rfl
 | recd k b t fs bs a a2 c c2 h0 h1 h2 h3 h4 h5 hk ih =>
  intro ht
  obtain ⟨r,rfl⟩:=fa h0.1
  rw [bU] at ht
  have hB1 : ∀ v ∈ fs.map (fun p : Fld × V=>V.nd 61 [] p.1.tag [p.2]),gI v:=fun v hv=>by
   obtain ⟨p,hp,rfl⟩:=List.mem_map.1 hv
   obtain ⟨i,hi,rfl⟩:=ot hp
   exact fD (fun u hu=>by simp only [List.mem_singleton] at hu;subst hu;exact kZ hw (hk i hi)) (fS hw h0.1 (h5 i hi)).1
  have hb:=jv hB1
  have hml : (fs.map (fun p : Fld × V=>V.nd 61 [] p.1.tag [p.2])).length = fs.length:=by simp
  have hol:=i8 (fs.map (fun p : Fld × V=>V.nd 61 [] p.1.tag [p.2]))
  have hnt : ∀ i,i < fs.length → ae (fs.map (fun p : Fld × V=>V.nd 61 [] p.1.tag [p.2])) i = V.nd 61 [] (ae fs i).1.tag [(ae fs i).2]:=fun i hi=>by rw [aU (by simpa using hi),aU hi];simp
  generalize hKS : fs.map (fun p : Fld × V=>V.nd 61 [] p.1.tag [p.2]) = KS at *
  have cx_nmd : av acs 113 [Pt b 0] G (· = S (V.out (.nd 82 [] 0 KS))):=by
   refine jE [(0,_)] Tryz.func113 Tryz.ntmps113 fun B hB=>?_
   repeat' (first | refine jR ?_ | (refine jo ?_;refine jV (aG F F aS F F) ?_) | refine ad F F ?_)
   refine aR (ι:=Nat) (fun i=>i ≤ fs.length) (fun i=>[(0,Pt b 0),(3,S (123 :: aP 44 ((V.outs KS).take i))),(4,I i)]) (fun _=>G) (fun i=>[]) (fun i=>fs.length - i) 0 ?_ tU F aW (fun i Hi=>?_)
   ·exact Nat.zero_le _
   have hj1:=fp 44 ((V.outs KS).take i)
   have hj2:=eg (V.outs KS) i
   have hj3 : ((V.outs KS).take i).length ≤ fs.length:=by rw [List.length_take];omega
   by_cases hi : i < fs.length
   ·have hti:=gc (ks:=KS) (i:=i) oM
    rw [hnt i hi] at hti
    simp only [bU,V.tots] at hti
    have cx_out:=ih i hi oM
    have hou:=kY (ks:=KS) (i:=i) oM
    rw [hnt i hi,gg] at hou
    have hxi : ae bs i = ae bs i:=rfl
    have htg:=fS hw h0.1 (h5 i hi)
    have hdl:=fM htg.1
    have hob:=kZ hw (hk i hi)
    unfold gI at hob
    have hst:=ox (c:=44) (xs:=V.outs KS) (i:=i) oM
    rw [hou] at hst
    have htn : ae (fs.map fun p : Fld × V=>p.1.tag) i = (ae fs i).1.tag:=by rw [aU (by simpa using hi),aU hi];simp
    have htl : (fs.map fun p : Fld × V=>p.1.tag).length = fs.length:=by simp
    obtain ⟨tgb,to,tc,e,hs1⟩:=h2.expl oM
    simp only [Value.slice.injEq] at e
    obtain ⟨rfl,-,rfl⟩:=e
    obtain ⟨kb,ko,kc,e,hs2⟩:=h3.expl oM
    simp only [Value.slice.injEq] at e
    obtain ⟨rfl,-,rfl⟩:=e
    by_cases hp0 : 0 < i
    ·rw [if_pos hp0] at hst
     repeat' (first | refine jX ?_ | (refine jo ?_;first | refine jV (aG F F aS F F) ?_ | refine jV (ao F) ?_) | refine ac F (ar oM) ?_ | (refine aj (an (id:=12) _ (fun _ h=>h) ai ?_);refine jT 12 [0,1,2,3,5,11,12,13,15] (aa 21 47151) ?_;(refine jG (aa 21 47167) 4 F (aG F F aS F F) ?_);(refine jG (aa 21 47231) 6 F (aD F F oM) ?_);((refine jG (aa 21 47359) 7 F (fJ F F aS ?_ aS F) ?_;focus omega));(refine jG (aa 21 63743) 14 F (aG F F aS F F) ?_);(refine jG (aa 21 129279) 16 F (aD F F oM) ?_);((refine jG (aa 21 260351) 17 F (fJ F F aS ?_ aS F) ?_;focus omega));refine jA 8 F ?_;(refine ab F F F (eI oM) F ?_);refine jS (aa 21 260607) ?_;refine jW 3 [9,10] (aa 21 262143) ?_;refine jA 18 F ?_;(refine ab F F F cx_out F ?_);refine jS (aa 21 524287) ?_;refine jW 0 [19,20] (aa 21 2097151) ?_;refine jQ ?_))
     all_goals
      refine Nx.re (d:=3) (v':=S (123 :: aP 44 ((V.outs KS).take (i + 1)))) F (congrArg (fun l=>S l) (by rw [hst];simp)) ?_
      exact aY (i + 1) oM oM tU F aW
    ·rw [if_neg hp0] at hst
     have hi0 : i = 0:=oM
     subst hi0
     repeat' (first | refine jM ?_ | (refine jo ?_;first | refine jV (aG F F aS F F) ?_ | refine jV (ao F) ?_) | refine ac F (ar oM) ?_ | refine ad F F ?_ | (refine aj (an (id:=12) _ (fun _ h=>h) ai ?_);refine jT 12 [0,1,2,3,5,11,12,13,15] (aa 21 47151) ?_;(refine jG (aa 21 47167) 4 F (aG F F aS F F) ?_);(refine jG (aa 21 47231) 6 F (aD F F oM) ?_);((refine jG (aa 21 47359) 7 F (fJ F F aS ?_ aS F) ?_;focus omega));(refine jG (aa 21 63743) 14 F (aG F F aS F F) ?_);(refine jG (aa 21 129279) 16 F (aD F F oM) ?_);((refine jG (aa 21 260351) 17 F (iT F F aS ?_ aS F F) ?_;focus omega));refine jA 8 F ?_;(refine ab F F F (eI oM) F ?_);refine jS (aa 21 260607) ?_;refine jW 3 [9,10] (aa 21 262143) ?_;refine jA 18 F ?_;(refine ab F F F cx_out F ?_);refine jS (aa 21 524287) ?_;refine jW 0 [19,20] (aa 21 2097151) ?_;refine jQ ?_))
     all_goals
      refine Nx.re (d:=3) (v':=S (123 :: aP 44 ((V.outs KS).take (0 + 1)))) F (congrArg (fun l=>S l) (by rw [hst];simp [aP])) ?_
      exact aY (0 + 1) oM oM tU F aW
   ·have hin : i = fs.length:=oM
    repeat' (first | refine jX ?_ | (refine jo ?_;first | refine jV (aG F F aS F F) ?_ | refine jV (ao F) ?_) | refine ad F (ay oM) ?_)
    refine jY (vs:=[_]) ?_
    rw [ax,V.out,hin,← hml,← hol,List.take_length];rfl
  refine jE [(0,_)] Tryz.func77 Tryz.ntmps77 fun B hB=>?_
  repeat' (first | refine jX ?_ | (refine jo ?_;first | refine jV (aG F F aS F F) ?_ | refine ab F F F cx_nmd F ?_) | refine ac F F ?_ | refine ad F F ?_)
  refine jY (vs:=[_]) ?_
  rfl
 | enm k b tgb t d h0 h1 h2 h3 =>
  intro _
  obtain ⟨r,rfl⟩:=fa h0.1
  have htg:=fS hw h0.1 h1
  have hdl:=fM htg.1
  have cx_nmd : av acs 113 [Pt b 0] G (· = S (V.out (.nd 69 [] d.tag []))):=by
   refine jE [(0,_)] Tryz.func113 Tryz.ntmps113 fun B hB=>?_
   repeat' (first | refine jX ?_ | (refine jo ?_;first | refine jV (aG F F aS F F) ?_ | refine jV (aQ F F oM) ?_ | refine ab F F F (eI oM) F ?_) | refine ac F F ?_ | refine ad F F ?_)
   refine jY (vs:=[_]) ?_
   rw [ax,V.out];rfl
  refine jE [(0,_)] Tryz.func77 Tryz.ntmps77 fun B hB=>?_
  repeat' (first | refine jX ?_ | (refine jo ?_;first | refine jV (aG F F aS F F) ?_ | refine ab F F F cx_nmd F ?_) | refine ac F F ?_ | refine ad F F ?_)
  refine jY (vs:=[_]) ?_
  rfl
 | uni k b tgb kb b' cc t d v hcc h0 h1 h2 h3 h4 hk ih =>
  intro ht
  obtain ⟨r,rfl⟩:=fa h0.1
  have htg:=fS hw h0.1 h1
  have hdl:=fM htg.1
  simp only [bU,V.tots] at ht
  have cx_out:=ih oM
  have hob:=kZ hw hk
  unfold gI at hob
  have cx_nmd : av acs 113 [Pt b 0] G (· = S (V.out (.nd 85 [] d.tag [v]))):=by
   refine jE [(0,_)] Tryz.func113 Tryz.ntmps113 fun B hB=>?_
   repeat' (first | refine jR ?_ | (refine jo ?_;refine jV (aG F F aS F F) ?_) | refine ac F F ?_ | (refine aj (an (id:=3) _ (fun _ h=>h) ai ?_);refine jT 13 [0,1,2,9,10,11] (aa 19 3591) ?_;(refine jG (aa 19 3599) 3 F (aG F F aS F F) ?_);(refine jG (aa 19 3615) 4 F (aQ F F oM) ?_);(refine jG (aa 19 3647) 5 F (aG F F aS F F) ?_);(refine jG (aa 19 7743) 12 F (aG F F aS F F) ?_);(refine jG (aa 19 15935) 13 F (aQ F F oM) ?_);(refine jG (aa 19 32319) 14 F (aG F F aS F F) ?_);refine jA 6 F ?_;(refine ab F F F (eI oM) F ?_);refine jS (aa 19 32383) ?_;refine jW 4 [7,8] (aa 19 32767) ?_;refine jA 15 F ?_;(refine ab F F F cx_out F ?_);refine jS (aa 19 65535) ?_;refine jW 0 [16,17,18] (aa 19 524287) ?_;refine jQ ?_))
   all_goals refine jY (vs:=[_]) ?_
   all_goals (rw [ax,V.out];simp [V.outs,dl,aP])
  clear cx_out
  refine jE [(0,_)] Tryz.func77 Tryz.ntmps77 fun B hB=>?_
  repeat' (first | refine jX ?_ | (refine jo ?_;first | refine jV (aG F F aS F F) ?_ | refine ab F F F cx_nmd F ?_) | refine ac F F ?_ | refine ad F F ?_)
  refine jY (vs:=[_]) ?_
  rfl
abbrev zl : TypeId:=60
abbrev zj : TypeId:=114
def ke (n : Nat) (u : Value) (vs : List bL) : Prop:=∀ (G : Gh) (k s : act),SchR G u vs → aJ (af vs) k = true → s.length ≤ 2000000 →
 bx acs 114 [Ag [u],S s,S k,I (n : Nat)] G (ck (af vs) (rd (af vs) n k s) k)
theorem yN {n : Nat} {u : Value} {vs : List bL} {k s : act} (hR : ke n u vs) (h : SchR G u vs) (hk : aJ (af vs) k = true) (hs : s.length ≤ 2000000) (hn : n ≤ 1000) :
  bx acs 152 [Ag [u],S s,S (91 :: k),I (n + 1 : Nat)] G (ck (af vs) (eG (rd (af vs) n k) (91 :: s)) (91 :: k)):=by
 have edn : ((n + 1 : Nat) : Int) - 1 = (n : Nat):=oM
 by_cases h93 : ∃ s2,s = 93 :: s2
 ·obtain ⟨s2,rfl⟩:=h93
  refine jB [(0,_),(1,_),(2,_),(3,_)] Tryz.func152 Tryz.ntmps152 fun B hok hB hW=>?_
  repeat' (first | refine jX ?_ | (refine jo ?_;first | refine jO fun _=>?_ | refine jV (am F F) ?_ | refine aE F ?_) | refine aw F F F ?_ | refine ac F F ?_ | (refine aj (an (id:=3) _ (fun _ h=>h) ai ?_);refine jW 0 [0,1,2,3,4,5] (aa 6 63) ?_;refine jQ ?_))
  rename_i x4 x11
  refine Nx.sealC (b:=x11) fun G2 hG2 hsy=>?_
  refine jZ (vs:=[_,_,_]) F ⟨F,F,F,trivial⟩ F ⟨hG2,F,?_⟩
  rw [aB]
  exact ⟨_,_,_,F,fun _=>⟨.nd 91 [] 0 [],x11,F,F,.lst k x11 [] [] none 0 hsy ⟨F,.inl ⟨F,F⟩⟩ F (fun i hi=>absurd hi (by simp))⟩,fun h=>(by cases h)⟩
 have hRl : eG (rd (af vs) n k) (91 :: s) = (bc (rd (af vs) n k) 20 s []).map fun x=>(.nd 91 [] 0 x.1,x.2):=by
  unfold eG
  dsimp only
  rw [if_pos (show (91 : UInt8).toNat = 91 from rfl)]
  cases s with
  | nil =>
   have : rd (af vs) n k [] = none:=by
    cases h : rd (af vs) n k [] with
    | none=>rfl
    | some x=>have:=gP h;simp at this
   simp [bc,this]
  | cons e r' =>
   dsimp only
   rw [if_neg]
   intro h;exact h93 ⟨r',by rw [show e = 93 from UInt8.toNat_inj.1 h]⟩
 have hs0 : s = [] ∨ s ≠ [] ∧ ¬ ((bt s (Int.toNat 0) : Nat) : Int) = 93:=by
  cases s with
  | nil=>exact .inl F
  | cons e r' =>
   refine .inr ⟨by simp,fun h=>h93 ⟨r',?_⟩⟩
   have : bt (e :: r') (Int.toNat 0) = e.toNat:=bh e r'
   rw [show e = 93 from UInt8.toNat_inj.1 (show e.toNat = 93 by omega)]
 have hkl : k.length ≤ 1000:=by
  have:=(cQ (c7 hk)).2
  omega
 have hslen : s = [] ∨ 0 < s.length:=by cases s <;> simp
 rcases hs0 with hs0 | ⟨hs0,hs1⟩
 all_goals
  have hslen2 : s ≠ [] → 0 < s.length:=fun h=>by rcases hslen with h' | h';exact absurd h' h;exact h'
  try have hslen3:=hslen2 hs0
  refine jB [(0,_),(1,_),(2,_),(3,_)] Tryz.func152 Tryz.ntmps152 fun B hok hB hW=>?_
  repeat' (first | refine jM ?_ | (refine jo ?_;first | refine jO fun _=>?_ | refine jV (am F F) ?_ | refine aE F ?_ | refine aq F ?_) | refine aw F F (ar ‹_›) ?_ | (refine al F F ?_ ?_;(focus ((simp [*];done);done))) | (refine ad F (by first | rfl | (refine decide_eq_false ?_;(assumption))) ?_))
  rename_i x4 x11
  refine Nx.addNil zl 1 ?_
  refine aR (ι:=List V × List Nat × Option Addr × Nat × act × Gh) (fun q=>((q.2.1.length = q.1.length ∧ ∀ i,i < q.1.length → RepR q.2.2.2.2.2 (af vs) (ae q.1 i) k (ae q.2.1 i)) ∧ Gh.le G q.2.2.2.2.2) ∧ bc (rd (af vs) n k) 20 s [] = bc (rd (af vs) n k) (20 - q.1.length) q.2.2.2.2.1 q.1 ∧ q.1.length ≤ 20 ∧ q.2.2.2.2.1.length ≤ s.length) (fun q=>[(1,S q.2.2.2.2.1),(2,S (91 :: k)),(3,I (n + 1 : Nat)),(4,Pt x4 0),(11,Pt x11 0)]) (fun q=>q.2.2.2.2.2) (fun q=>[.acc (.slice q.2.2.1 q.1.length q.2.2.2.1) zl 1 q.1.length (aI eC q.2.1),.blk x11 (.cells (List.toArray [S (91 :: k),S [],aH,.slice q.2.2.1 q.1.length q.2.2.2.1]) pG (0,0)),.blk x4 (.cells (List.toArray [u]) zj (0,0))]) (fun q=>20 - q.1.length) ([],[],none,0,s,G) ?_ tU F aW (fun q Hq=>?_)
  ·exact ⟨⟨⟨F,fun i hi=>absurd hi (by simp)⟩,Gh.le.refl _⟩,F,Nat.zero_le _,Nat.le_refl _⟩
  obtain ⟨ws,bs,a,cap,t,Gq⟩:=q
  dsimp only at Hq ⊢
  obtain ⟨⟨⟨hbl,hreps⟩,hgq⟩,hit,hwl,htl⟩:=Hq
  by_cases h20 : ws.length < 20
  case neg =>
   have e20 : 20 - ws.length = 0:=oM
   repeat' (first | refine jR ?_ | (refine jo ?_;first | refine ak F ?_ | refine jV (ao F) ?_) | refine ad F (ay oM) ?_)
   refine jZ (vs:=[_,_,_]) F ⟨F,F,F,trivial⟩ F ⟨hgq,F,?_⟩
   rw [aB]
   exact ⟨_,_,_,F,fun h=>(by cases h),fun _=>by rw [hRl,hit,e20];rfl⟩
  have cx_rd:=hR Gq k t (h.mono hgq) hk oM
  rw [← edn] at cx_rd
  repeat' (first | refine jR ?_ | (refine jo ?_;first | refine ak F ?_ | refine jV (ao F) ?_) | refine ac F (ar oM) ?_)
  (refine aj (an (id:=5) _ (fun _ h=>h) ai ?_);refine jW 9 [1,2,3,4,5] (aa 14 62) ?_;(refine jG (aa 14 63) 0 F (bJ F F F F) ?_);refine jA 6 F ?_;(refine aM F F F cx_rd F ?_;rintro _ G hle ⟨q1,r1,ok1,rfl,hyes,hno⟩;skip);refine jS (aa 14 127) ?_;refine jT 0 [7,8,9,10,11,12,13] (aa 14 16383) ?_;refine jQ ?_)
  have hgl:=hgq.trans hle
  cases ok1 with
  | false =>
   have hnone : bc (rd (af vs) n k) (20 - ws.length) t ws = none:=iJ (.inl (hno rfl))
   repeat' (first | refine jR ?_ | (refine jo ?_;refine aE F ?_) | refine aw F F F ?_ | refine ac F F ?_)
   refine jZ (vs:=[_,_,_]) F ⟨F,F,F,trivial⟩ F ⟨hgl,F,?_⟩
   rw [aB]
   exact ⟨_,_,_,F,fun h=>(by cases h),fun _=>by rw [hRl,hit,hnone];rfl⟩
  | true =>
   obtain ⟨w,wb,rfl,hf,hrep⟩:=hyes rfl
   have hsh:=gP hf
   cases r1 with
   | nil =>
    have hnone : bc (rd (af vs) n k) (20 - ws.length) t ws = none:=iJ (.inr ⟨w,hf⟩)
    repeat' (first | refine jR ?_ | (refine jo ?_;first | refine aE F ?_ | refine aq F ?_) | refine aw F F F ?_ | refine al F F F ?_ | refine ac F F ?_)
    refine jZ (vs:=[_,_,_]) F ⟨F,F,F,trivial⟩ F ⟨hgl,F,?_⟩
    rw [aB]
    exact ⟨_,_,_,F,fun h=>(by cases h),fun _=>by rw [hRl,hit,hnone];rfl⟩
   | cons e r2 =>
    have hstep:=iI (vs:=ws) hf (show 0 < 20 - ws.length by omega)
    have he0 : bt (e :: r2) (Int.toNat 0) = e.toNat:=bh e r2
    simp only [List.length_cons] at hsh
    have hel : (e :: r2).length = r2.length + 1:=rfl
    have hrow : aI eC bs ++ [Pt wb 0] = aI eC (bs ++ [wb]):=(cl eC bs wb).symm
    have hwl1 : (ws ++ [w]).length = ws.length + 1:=by simp
    have hbl1 : (bs ++ [wb]).length = (ws ++ [w]).length:=by simp [hbl]
    have hrp : ∀ i,i < (ws ++ [w]).length → RepR G (af vs) (ae (ws ++ [w]) i) k (ae (bs ++ [wb]) i):=fun i hi=>by
     by_cases h1 : i < ws.length
     ·have e1 : ae (ws ++ [w]) i = ae ws i:=by rw [aU hi,aU h1,List.getElem_append_left h1]
      have e2 : ae (bs ++ [wb]) i = ae bs i:=by rw [aU oM,aU oM,List.getElem_append_left oM]
      rw [e1,e2];exact (hreps i h1).mono hle
     ·have h2 : i = ws.length:=oM
      have e1 : ae (ws ++ [w]) i = w:=by rw [aU hi];simp [h2]
      have e2 : ae (bs ++ [wb]) i = wb:=by rw [aU oM];simp [h2,hbl]
      rw [e1,e2];exact hrep
    by_cases h44 : e.toNat = 44
    ·rw [if_pos h44] at hstep
     have hn93 : ¬ e.toNat = 93:=oM
     repeat' (first | refine jM ?_ | (refine jo ?_;first | refine aq F ?_ | refine ak F ?_ | refine jF fun _=>?_ | refine cj F F F F F F F F F oM fun _ _=>?_ | refine jD F F F ?_) | (refine al F F (by first | rfl | (refine decide_eq_false ?_;(omega))) ?_) | (refine ad F (by first | rfl | (refine decide_eq_false ?_;(omega))) ?_))
     rename_i y0 y1 yc
     rw [hrow]
     exact aY (ws ++ [w],bs ++ [wb],some ⟨y1,0,none⟩,yc,r2,G) ⟨⟨⟨hbl1,hrp⟩,hgl⟩,(by dsimp only;rw [hit,hstep,hwl1,Nat.sub_sub]),(by dsimp only;omega),(by dsimp only;omega)⟩ (by dsimp only;omega) tU rfl (by rw [hwl1];repeat (first | exact List.Sublist.refl _ | apply List.Sublist.cons_cons | apply List.Sublist.cons))
    ·rw [if_neg h44] at hstep
     by_cases h93' : e.toNat = 93
     ·rw [if_pos h93'] at hstep
      repeat' (first | refine jM ?_ | (refine jo ?_;first | refine aE F ?_ | refine aq F ?_ | refine ak F ?_ | refine jF fun _=>?_ | refine cj F F F F F F F F F oM fun _ _=>?_ | refine jD F F F ?_) | refine aw F F (ar oM) ?_ | refine al F F F ?_ | refine ac F (ar oM) ?_ | refine ad F (ay oM) ?_)
      rename_i y0 y1 yc
      rw [hrow]
      refine Nx.sealS (v:=.slice (some ⟨y1,0,none⟩) (ws.length + 1) yc) fun G2 hG2 hsl=>?_
      refine Nx.sealC (b:=x11) fun G3 hG3 hsg=>?_
      refine jZ (vs:=[_,_,_]) F ⟨F,F,F,trivial⟩ F ⟨((hgl.trans hG2).trans hG3),F,?_⟩
      rw [aB]
      exact ⟨_,_,_,F,fun _=>⟨.nd 91 [] 0 (ws ++ [w]),x11,F,by rw [hRl,hit,hstep];rfl,.lst k x11 _ (bs ++ [wb]) (some ⟨y1,0,none⟩) yc (by rw [hwl1];exact hsg) (by rw [hwl1];exact hsl.mono hG3) hbl1 (fun i hi=>(hrp i hi).mono (hG2.trans hG3))⟩,fun h=>(by cases h)⟩
     ·rw [if_neg h93'] at hstep
      repeat' (first | refine jM ?_ | (refine jo ?_;first | refine aE F ?_ | refine aq F ?_) | refine aw F F (ar oM) ?_ | refine al F F F ?_ | refine ac F (ar oM) ?_)
      refine jZ (vs:=[_,_,_]) F ⟨F,F,F,trivial⟩ F ⟨hgl,F,?_⟩
      rw [aB]
      exact ⟨_,_,_,F,fun h=>(by cases h),fun _=>by rw [hRl,hit,hstep];rfl⟩
section
variable {P : Program} {n : Nat} {D : List Deferred} {E : bm} {M : World → Prop} {d : Option Nat} {ty : TypeId} {pos : String} {aft : Array Edge} {gd : Option (Nat × Bool)}
theorem vh {T T0 : TypeId} {x : Operand} {desc : TypeDesc} {size bytes b m cap i : Nat} {zero : Value} {G0 : Gh} {L0 : List Own} {cs : List Int} {xs : List Value} {y : Int} [TI P T desc size bytes zero] [Kn M G0 L0] [h : AccB L0 b m cap T0 1 xs] (hx : ev E x = some (Pt b (0 + i * 1))) (ha : dv desc = false) (hxs : xs = aI gk cs) (hi : i < cs.length) (hy : ae cs i = y) :
  Gives P n D E M ⟨d,.load T x,ty,pos,aft,gd⟩ (I y):=fq hx ha (by
 have:=(eL (S:=M) h.mem).go (i * 1 + 0) (I y) (by rw [hxs,eR hi oM,hy];rfl)
 simpa using this)
end
def hX (fs : List (Fld × V)) : Int:=match fs.getLast? with
 | some p=>p.1.tag
 | none=>0
def gw (fs : List (Fld × V)) : List V:=fs.map fun p=>.nd 61 [] p.1.tag [p.2]
theorem t8 (fs : List (Fld × V)) (p : Fld × V) : hX (fs ++ [p]) = p.1.tag:=by simp [hX]
abbrev xa : TypeId:=60
abbrev xd : TypeId:=3
abbrev tFd : TypeId:=150
abbrev zh : TypeId:=146
theorem vI {n : Nat} {u : Value} {vs : List bL} {x : bL} {k s : act} (hR : ke n u vs) (h : SchR G u vs) (hw : SchW (af vs)) (hx : x ∈ vs) (hrf : aX (af vs) k = some x.2) (hso : x.2.sort = 82) (hs : s.length ≤ 2000000) (hn : n ≤ 1000) (hkl : k.length ≤ 1000) :
  bx acs 189 [Ag [u],S s,S k,Ag (iZ x),I (n + 1 : Nat)] G (ck (af vs) (a6 (af vs) (rd (af vs) n) x.2 (123 :: s)) k):=by
 have edn : ((n + 1 : Nat) : Int) - 1 = (n : Nat):=oM
 have hxt : x.2 ∈ af vs:=List.mem_map_of_mem hx
 have hTW:=hw.ty _ hxt
 have hfl:=hTW.len
 by_cases h125 : ∃ s2,s = 125 :: s2
 ·obtain ⟨s2,rfl⟩:=h125
  have hgood : a6 (af vs) (rd (af vs) n) x.2 (123 :: 125 :: s2) = some (.nd 82 [] 0 [],s2):=by
   unfold a6
   dsimp only
   rw [if_pos hso,if_pos (show (123 : UInt8).toNat = 123 from rfl),if_pos (show (125 : UInt8).toNat = 125 from rfl)]
  refine jB [(0,_),(1,_),(2,_),(3,_),(4,_)] Tryz.func189 Tryz.ntmps189 fun B hok hB hW=>?_
  repeat' (first | refine jX ?_ | (refine jo ?_;first | refine jO fun _=>?_ | refine jV (am F F) ?_ | refine aE F ?_) | refine aw F F F ?_ | refine ac F F ?_ | (refine aj (an (id:=3) _ (fun _ h=>h) ai ?_);refine jW 0 [0,1,2,3,4,5] (aa 6 63) ?_;refine jQ ?_))
  rename_i x5 x8 x13
  refine Nx.sealC (b:=x13) fun G2 hG2 hsy=>?_
  refine jZ (vs:=[_,_,_]) F ⟨F,F,F,trivial⟩ F ⟨hG2,F,?_⟩
  rw [aB]
  exact ⟨_,_,_,F,fun _=>⟨.nd 82 [] 0 [],x13,F,hgood,.recd k x13 x.2 [] [] none none 0 0 ⟨hrf,hso⟩ hsy ⟨F,.inl ⟨F,F⟩⟩ ⟨F,.inl ⟨F,F⟩⟩ F (fun i hi=>absurd hi (by simp)) (fun i hi=>absurd hi (by simp))⟩,fun h=>(by cases h)⟩
 have hRl : a6 (af vs) (rd (af vs) n) x.2 (123 :: s) = (bC (af vs) (rd (af vs) n) x.2 (s.length + 1) 0 s []).map fun x=>(.nd 82 [] 0 x.1,x.2):=by
  unfold a6
  dsimp only
  rw [if_pos hso,if_pos (show (123 : UInt8).toNat = 123 from rfl)]
  cases s with
  | nil=>rw [dL kj];rfl
  | cons e r' =>
   dsimp only
   rw [if_neg]
   intro h;exact h125 ⟨r',by rw [show e = 125 from UInt8.toNat_inj.1 h]⟩
 have hs0 : s = [] ∨ s ≠ [] ∧ ¬ ((bt s (Int.toNat 0) : Nat) : Int) = 125:=by
  cases s with
  | nil=>exact .inl F
  | cons e r' =>
   refine .inr ⟨by simp,fun h=>h125 ⟨r',?_⟩⟩
   have : bt (e :: r') (Int.toNat 0) = e.toNat:=bh e r'
   rw [show e = 125 from UInt8.toNat_inj.1 (show e.toNat = 125 by omega)]
 have hslen : s = [] ∨ 0 < s.length:=by cases s <;> simp
 rcases hs0 with hs0 | ⟨hs0,hs1⟩
 ·subst hs0
  have cx_tg:=qC (G:=G) (u:=u) (x:=x) (s:=[]) (by simp) h.sl.one (h.fl x hx) oM
  have e0 : aL (([] : act).takeWhile aZ) 200 = none:=by
   cases h : aL (([] : act).takeWhile aZ) 200 with
   | none=>rfl
   | some m =>
    have:=(d9 h).2.1
    have h2:=gX m
    rw [← this] at h2;simp at h2
  rw [e0] at cx_tg
  refine jB [(0,_),(1,_),(2,_),(3,_),(4,_)] Tryz.func189 Tryz.ntmps189 fun B hok hB hW=>?_
  repeat' (first | refine jR ?_ | (refine jo ?_;first | refine jO fun _=>?_ | refine jV (am F F) ?_ | refine aq F ?_) | refine al F F F ?_ | refine ad F F ?_)
  rename_i x5 x8 x13
  refine aR (ι:=Unit) (fun i=>True) (fun i=>[(1,S []),(2,S k),(4,I (n + 1 : Nat)),(5,Pt x5 0),(8,Pt x8 0),(13,Pt x13 0)]) (fun _=>G) (fun i=>[.blk x13 (.cells (List.toArray [S k,S [82],aH,aH]) pG (0,0)),.blk x8 (.cells (List.toArray [U8 x.2.sort,S x.2.name,gf x]) zh (0,0)),.blk x5 (.cells (List.toArray [u]) zj (0,0))]) (fun i=>0) () ?_ tU F aW (fun i Hi=>?_)
  ·trivial
  repeat' (first | refine jR ?_ | (refine jo ?_;first | refine aV F ?_ | refine jL fun _=>?_ | refine jC F F F ?_ | (refine c8 F F F cx_tg F ?_;rintro _ ⟨nt,rfl,hnt⟩)) | refine ac F F ?_ | (refine aj (an (id:=5) _ (fun _ h=>h) ai ?_);refine jT 33 [0,1,2] (aa 36 7) ?_;(try (refine Nx.re (d:=43) (v':=Bo true) F (congrArg Value.bool F) ?_));refine jT 31 [3,4] (aa 36 31) ?_;(refine jG (aa 36 63) 5 F (bB F F F) ?_);refine jT 29 [6] (aa 36 127) ?_;(try (refine Nx.re (d:=47) (v':=Bo true) F (congrArg Value.bool F) ?_));refine jT 26 [7,8,9] (aa 36 1023) ?_;(refine jG (aa 36 2047) 10 F (bB F F F) ?_);refine jT 24 [11] (aa 36 4095) ?_;(try (refine Nx.re (d:=52) (v':=Bo true) F (congrArg Value.bool F) ?_));refine jT 21 [12,13,14] (aa 36 32767) ?_;(refine jN (aa 36 65535) 15 F ?_);(refine jN (aa 36 131071) 16 F ?_);refine jT 17 [17,18] (aa 36 524287) ?_;(try (fail));refine jT 10 [19,20,21,23,24,25,31] (aa 36 2210398207) ?_;(refine jN (aa 36 2214592511) 22 F ?_);(refine jN (aa 36 2281701375) 26 F ?_);(refine jN (aa 36 2415919103) 27 F ?_);refine jT 6 [28] (aa 36 2684354559) ?_;(refine jN (aa 36 3221225471) 29 F ?_);(refine jN (aa 36 4294967295) 30 F ?_);(refine jN (aa 36 8589934591) 32 F ?_);refine jT 2 [33] (aa 36 17179869183) ?_;(refine jN (aa 36 34359738367) 34 F ?_);(refine jG (aa 36 68719476735) 35 F (bB F F F) ?_);refine jQ ?_))
  all_goals refine jZ (vs:=[_,_,_]) F ⟨F,F,F,trivial⟩ F ⟨Gh.le.refl _,F,?_⟩
  all_goals (rw [aB];exact ⟨_,_,_,F,fun h=>(by cases h),fun _=>by rw [hRl,dL kj];rfl⟩)
 ·have hslen3 : 0 < s.length:=List.length_pos_iff.2 hs0
  refine jB [(0,_),(1,_),(2,_),(3,_),(4,_)] Tryz.func189 Tryz.ntmps189 fun B hok hB hW=>?_
  repeat' (first | refine jM ?_ | (refine jo ?_;first | refine jO fun _=>?_ | refine jV (am F F) ?_ | refine aE F ?_) | refine aw F F (ar ‹_›) ?_ | refine ad F (ay ‹_›) ?_)
  rename_i x5 x8 x13
  refine Nx.addNil xd 1 (Nx.addNil xa 1 ?_)
  refine aR (ι:=List (Fld × V) × List Nat × Option Addr × Nat × Option Addr × Nat × act × Nat × Gh) (fun q=>((q.2.1.length = q.1.length ∧ (∀ i,i < q.1.length → (ae q.1 i).1 ∈ x.2.fields) ∧ ∀ i,i < q.1.length → RepR q.2.2.2.2.2.2.2.2 (af vs) (ae q.1 i).2 (ae q.1 i).1.kind (ae q.2.1 i)) ∧ Gh.le G q.2.2.2.2.2.2.2.2) ∧ (bC (af vs) (rd (af vs) n) x.2 (s.length + 1) 0 s [] = bC (af vs) (rd (af vs) n) x.2 q.2.2.2.2.2.2.2.1 (hX q.1) q.2.2.2.2.2.2.1 (gw q.1) ∧ q.2.2.2.2.2.2.1.length < q.2.2.2.2.2.2.2.1) ∧ q.2.2.2.2.2.2.1.length ≤ s.length ∧ q.1.length + q.2.2.2.2.2.2.1.length ≤ s.length) (fun q=>[(1,S q.2.2.2.2.2.2.1),(2,S k),(4,I (n + 1 : Nat)),(5,Pt x5 0),(8,Pt x8 0),(13,Pt x13 0)]) (fun q=>q.2.2.2.2.2.2.2.2) (fun q=>[.acc (.slice q.2.2.2.2.1 q.1.length q.2.2.2.2.2.1) xa 1 q.1.length (aI eC q.2.1),.acc (.slice q.2.2.1 q.1.length q.2.2.2.1) xd 1 q.1.length (aI gk (q.1.map fun p=>p.1.tag)),.blk x13 (.cells (List.toArray [S k,S [82],.slice q.2.2.1 q.1.length q.2.2.2.1,.slice q.2.2.2.2.1 q.1.length q.2.2.2.2.2.1]) pG (0,0)),.blk x8 (.cells (List.toArray [U8 x.2.sort,S x.2.name,gf x]) zh (0,0)),.blk x5 (.cells (List.toArray [u]) zj (0,0))]) (fun q=>q.2.2.2.2.2.2.1.length) ([],[],none,0,none,0,s,s.length + 1,G) ?_ tU F aW (fun q Hq=>?_)
  ·exact ⟨⟨⟨F,fun i hi=>absurd hi (by simp),fun i hi=>absurd hi (by simp)⟩,Gh.le.refl _⟩,⟨F,Nat.lt_succ_self _⟩,Nat.le_refl _,by simp⟩
  obtain ⟨fs,bs,a1,c1,a2,c2,t,m,Gq⟩:=q
  dsimp only at Hq ⊢
  obtain ⟨⟨⟨hbl,hfm,hreps⟩,hgq⟩,⟨hit,htm⟩,htl,hft⟩:=Hq
  have cx_tg:=qC (G:=Gq) (u:=u) (x:=x) (s:=t) oM h.sl.one ((h.mono hgq).fl x hx) oM
  repeat' (first | refine jR ?_ | (refine jo ?_;first | refine aV F ?_ | refine jL fun _=>?_ | refine jC F F F ?_ | (refine c8 F F F cx_tg F ?_;rintro _ ⟨nt,rfl,hnt⟩)))
  have hnone : ∀ {v : Value} {G' : Gh} {r : act},bC (af vs) (rd (af vs) n) x.2 m (hX fs) t (gw fs) = none → v = Tu [.pointer none,S r,Bo false] → ck (af vs) (a6 (af vs) (rd (af vs) n) x.2 (123 :: s)) k v G':=fun h1 h2=>⟨_,_,_,h2,fun h=>(by cases h),fun _=>by rw [hRl,hit,h1];rfl⟩
  cases hb16 : (aL (t.takeWhile aZ) 200).isSome && (bK x.2.fields nt).isSome with
  | false =>
   have hno : aN (rd (af vs) n) x.2 t = none:=by
    cases hm : aL (t.takeWhile aZ) 200 with
    | none=>exact eU (.inl hm)
    | some m0 =>
     refine eU (.inr ⟨m0,hm,?_⟩)
     rw [hm] at hb16
     rw [← hnt m0 hm]
     cases hf : bK x.2.fields nt with
     | none=>rfl
     | some d=>rw [hf] at hb16;cases hb16
   (refine aj (an (id:=5) _ (fun _ h=>h) ai ?_);refine jT 33 [0,1,2] (aa 36 7) ?_;(try (refine Nx.re (d:=43) (v':=Bo true) F (congrArg Value.bool F) ?_));refine jT 31 [3,4] (aa 36 31) ?_;(refine jG (aa 36 63) 5 F (bB F F F) ?_);refine jT 29 [6] (aa 36 127) ?_;(try (refine Nx.re (d:=47) (v':=Bo true) F (congrArg Value.bool F) ?_));refine jT 26 [7,8,9] (aa 36 1023) ?_;(refine jG (aa 36 2047) 10 F (bB F F F) ?_);refine jT 24 [11] (aa 36 4095) ?_;(try (refine Nx.re (d:=52) (v':=Bo true) F (congrArg Value.bool F) ?_));refine jT 21 [12,13,14] (aa 36 32767) ?_;(refine jN (aa 36 65535) 15 F ?_);(refine jN (aa 36 131071) 16 F ?_);refine jT 17 [17,18] (aa 36 524287) ?_;(try (fail));refine jT 10 [19,20,21,23,24,25,31] (aa 36 2210398207) ?_;(refine jN (aa 36 2214592511) 22 F ?_);(refine jN (aa 36 2281701375) 26 F ?_);(refine jN (aa 36 2415919103) 27 F ?_);refine jT 6 [28] (aa 36 2684354559) ?_;(refine jN (aa 36 3221225471) 29 F ?_);(refine jN (aa 36 4294967295) 30 F ?_);(refine jN (aa 36 8589934591) 32 F ?_);refine jT 2 [33] (aa 36 17179869183) ?_;(refine jN (aa 36 34359738367) 34 F ?_);(refine jG (aa 36 68719476735) 35 F (bB F F F) ?_);refine jQ ?_)
   repeat' (first | refine jR ?_ | refine ac F F ?_)
   all_goals refine jZ (vs:=[_,_,_]) F ⟨F,F,F,trivial⟩ F ⟨hgq,F,?_⟩
   all_goals exact hnone (dL hno) F
  | true =>
   simp only [Bool.and_eq_true] at hb16
   obtain ⟨hb1,hb2⟩:=hb16
   obtain ⟨m0,hm⟩:=Option.isSome_iff_exists.1 hb1
   obtain ⟨d,hd⟩:=Option.isSome_iff_exists.1 hb2
   have hnm:=hnt m0 hm
   subst hnm
   rw [hd]
   simp only [Option.getD_some]
   have hdm : d ∈ x.2.fields:=List.mem_of_find?_eq_some hd
   have hdt : d.tag = nt:=by have:=List.find?_some hd;simpa using this
   have hwl:=dH aZ t
   cases hdw : t.dropWhile aZ with
   | nil =>
    have hno : aN (rd (af vs) n) x.2 t = none:=gC hm (fun s2 h=>by rw [hdw] at h;cases h)
    (refine aj (an (id:=5) _ (fun _ h=>h) ai ?_);refine jT 33 [0,1,2] (aa 36 7) ?_;(try (refine Nx.re (d:=43) (v':=Bo false) F (congrArg Value.bool F) ?_));refine jT 31 [3,4] (aa 36 31) ?_;(refine jG (aa 36 63) 5 F (be F F F) ?_);refine jT 29 [6] (aa 36 127) ?_;(try (refine Nx.re (d:=47) (v':=Bo true) F (congrArg Value.bool F) ?_));refine jT 26 [7,8,9] (aa 36 1023) ?_;(refine jG (aa 36 2047) 10 F (bB F F F) ?_);refine jT 24 [11] (aa 36 4095) ?_;(try (refine Nx.re (d:=52) (v':=Bo true) F (congrArg Value.bool F) ?_));refine jT 21 [12,13,14] (aa 36 32767) ?_;(refine jN (aa 36 65535) 15 F ?_);(refine jN (aa 36 131071) 16 F ?_);refine jT 17 [17,18] (aa 36 524287) ?_;(try (fail));refine jT 10 [19,20,21,23,24,25,31] (aa 36 2210398207) ?_;(refine jN (aa 36 2214592511) 22 F ?_);(refine jN (aa 36 2281701375) 26 F ?_);(refine jN (aa 36 2415919103) 27 F ?_);refine jT 6 [28] (aa 36 2684354559) ?_;(refine jN (aa 36 3221225471) 29 F ?_);(refine jN (aa 36 4294967295) 30 F ?_);(refine jN (aa 36 8589934591) 32 F ?_);refine jT 2 [33] (aa 36 17179869183) ?_;(refine jN (aa 36 34359738367) 34 F ?_);(refine jG (aa 36 68719476735) 35 F (bB F F F) ?_);refine jQ ?_)
    repeat' (first | refine jR ?_ | refine ac F F ?_)
    all_goals refine jZ (vs:=[_,_,_]) F ⟨F,F,F,trivial⟩ F ⟨hgq,F,?_⟩
    all_goals exact hnone (dL hno) F
   | cons e r2 =>
    have he0 : bt (e :: r2) (Int.toNat 0) = e.toNat:=bh e r2
    have hel : (e :: r2).length = r2.length + 1:=rfl
    by_cases h61 : e.toNat = 61
    case neg =>
     have hno : aN (rd (af vs) n) x.2 t = none:=gC hm (fun s2 h=>by rw [hdw] at h;simp only [List.cons.injEq] at h;exact h61 (by rw [h.1];rfl))
     (refine aj (an (id:=5) _ (fun _ h=>h) ai ?_);refine jT 33 [0,1,2] (aa 36 7) ?_;(try (refine Nx.re (d:=43) (v':=Bo false) F (congrArg Value.bool F) ?_));refine jT 31 [3,4] (aa 36 31) ?_;(refine jG (aa 36 63) 5 F (be F F F) ?_);refine jT 29 [6] (aa 36 127) ?_;(try (refine Nx.re (d:=47) (v':=Bo false) F (congrArg Value.bool F) ?_));refine jW 26 [7,8,9] (aa 36 1023) ?_;(refine jG (aa 36 2047) 10 F (be F F F) ?_);refine jT 24 [11] (aa 36 4095) ?_;(try ((refine Nx.re (d:=52) (v':=Bo true) F (congrArg Value.bool (ar oM)) ?_)));refine jT 21 [12,13,14] (aa 36 32767) ?_;(refine jN (aa 36 65535) 15 F ?_);(refine jN (aa 36 131071) 16 F ?_);refine jT 17 [17,18] (aa 36 524287) ?_;(try (fail));refine jT 10 [19,20,21,23,24,25,31] (aa 36 2210398207) ?_;(refine jN (aa 36 2214592511) 22 F ?_);(refine jN (aa 36 2281701375) 26 F ?_);(refine jN (aa 36 2415919103) 27 F ?_);refine jT 6 [28] (aa 36 2684354559) ?_;(refine jN (aa 36 3221225471) 29 F ?_);(refine jN (aa 36 4294967295) 30 F ?_);(refine jN (aa 36 8589934591) 32 F ?_);refine jT 2 [33] (aa 36 17179869183) ?_;(refine jN (aa 36 34359738367) 34 F ?_);(refine jG (aa 36 68719476735) 35 F (bB F F F) ?_);refine jQ ?_)
     repeat' (first | refine jR ?_ | refine ac F F ?_)
     all_goals refine jZ (vs:=[_,_,_]) F ⟨F,F,F,trivial⟩ F ⟨hgq,F,?_⟩
     all_goals exact hnone (dL hno) F
    have he61 : e = 61:=UInt8.toNat_inj.1 h61
    have hfs:=lc (f:=rd (af vs) n) (t:=x.2) (s:=t) hm hd (by rw [hdw,he61])
    have hm0 : 0 < m:=oM
    have hflt : (fs.map fun p : Fld × V=>p.1.tag).length = fs.length:=by simp
    have hdt1:=((hTW.fld d hdm).tag).1
    have hlast0 : fs.length = 0 → hX fs = 0:=fun h0=>by rw [List.length_eq_zero_iff.1 h0];rfl
    have hlast1 : 0 < fs.length → ae (fs.map fun p : Fld × V=>p.1.tag) (((fs.length : Nat) : Int) - 1).toNat = hX fs:=fun h0=>by
     have e1 : (((fs.length : Nat) : Int) - 1).toNat = fs.length - 1:=oM
     rw [e1,aU (by rw [hflt];omega)]
     unfold hX
     rw [List.getLast?_eq_getElem?,List.getElem?_eq_getElem oM]
     simp
    rename_i x14
    have hf0 : fs.length = 0 ∨ 0 < fs.length:=oM
    by_cases hlt : d.tag ≤ hX fs
    ·have hpos : 0 < fs.length:=by
      rcases hf0 with h0 | h0
      ·have:=hlast0 h0;omega
      ·exact h0
     have hyl:=hlast1 hpos
     have hno : bC (af vs) (rd (af vs) n) x.2 m (hX fs) t (gw fs) = none:=by
      cases hy : rd (af vs) n d.kind r2 with
      | none=>exact dL (by rw [hfs,hy];rfl)
      | some y =>
       obtain ⟨w,r3⟩:=y
       rw [jJ (d:=d) (v:=w) (r:=r3) (by rw [hfs,hy];rfl) hm0,if_pos (.inl hlt)]
     refine Nx.shp (v:=.slice a1 fs.length c1) (.tail _ (.tail _ (.head _))) fun hsh=>?_
     obtain ⟨tb1,tc1,e1⟩:=hsh.pos oM
     simp only [Value.slice.injEq] at e1
     obtain ⟨rfl,-,rfl⟩:=e1
     (refine aj (an (id:=5) _ (fun _ h=>h) ai ?_);refine jT 33 [0,1,2] (aa 36 7) ?_;(try (refine Nx.re (d:=43) (v':=Bo false) F (congrArg Value.bool F) ?_));refine jT 31 [3,4] (aa 36 31) ?_;(refine jG (aa 36 63) 5 F (be F F F) ?_);refine jT 29 [6] (aa 36 127) ?_;(try (refine Nx.re (d:=47) (v':=Bo false) F (congrArg Value.bool F) ?_));refine jW 26 [7,8,9] (aa 36 1023) ?_;(refine jG (aa 36 2047) 10 F (be F F F) ?_);refine jT 24 [11] (aa 36 4095) ?_;(try ((refine Nx.re (d:=52) (v':=Bo false) F (congrArg Value.bool (ay oM)) ?_)));refine jT 21 [12,13,14] (aa 36 32767) ?_;(refine jG (aa 36 65535) 15 F (aA F F F) ?_);(refine jG (aa 36 131071) 16 F (ao F) ?_);refine jT 17 [17,18] (aa 36 524287) ?_;(try ((refine Nx.re (d:=59) (v':=Bo true) F (congrArg Value.bool (ar oM)) ?_)));refine jT 10 [19,20,21,23,24,25,31] (aa 36 2210398207) ?_;(refine jG (aa 36 2214592511) 22 F (aA F F F) ?_);(refine jG (aa 36 2281701375) 26 F (aA F F F) ?_);(refine jG (aa 36 2415919103) 27 F (ao F) ?_);refine jW 6 [28] (aa 36 2684354559) ?_;(refine jG (aa 36 3221225471) 29 F (aQ F F oM) ?_);((refine jG (aa 36 4294967295) 30 F (vh F F F ?_ aS) ?_;focus omega));(refine jG (aa 36 8589934591) 32 F (aA F F F) ?_);refine jT 2 [33] (aa 36 17179869183) ?_;(refine jG (aa 36 34359738367) 34 F (bB F F F) ?_);(refine jG (aa 36 68719476735) 35 F (be F F F) ?_);refine jQ ?_)
     repeat' (first | refine jR ?_ | refine ac F (ar ‹_›) ?_)
     all_goals refine jZ (vs:=[_,_,_]) F ⟨F,F,F,trivial⟩ F ⟨hgq,F,?_⟩
     all_goals exact hnone hno F
    have hSq:=h.mono hgq
    have hdk : aJ (af vs) d.kind = true:=dQ hw hxt oM hdm
    rw [hdw,List.length_cons] at hwl
    have cx_rd:=hR Gq d.kind r2 hSq hdk oM
    rw [← edn] at cx_rd
    rcases hf0 with hf0 | hf0
    rotate_left
    have hyl:=hlast1 hf0
    refine Nx.shp (v:=.slice a1 fs.length c1) (.tail _ (.tail _ (.head _))) fun hsh=>?_
    obtain ⟨tb1,tc1,e1⟩:=hsh.pos oM
    simp only [Value.slice.injEq] at e1
    obtain ⟨rfl,-,rfl⟩:=e1
    all_goals
     (refine aj (an (id:=5) _ (fun _ h=>h) ai ?_);refine jT 33 [0,1,2] (aa 36 7) ?_;(try (refine Nx.re (d:=43) (v':=Bo false) F (congrArg Value.bool F) ?_));refine jT 31 [3,4] (aa 36 31) ?_;(refine jG (aa 36 63) 5 F (be F F F) ?_);refine jT 29 [6] (aa 36 127) ?_;(try (refine Nx.re (d:=47) (v':=Bo false) F (congrArg Value.bool F) ?_));refine jW 26 [7,8,9] (aa 36 1023) ?_;(refine jG (aa 36 2047) 10 F (be F F F) ?_);refine jT 24 [11] (aa 36 4095) ?_;(try ((refine Nx.re (d:=52) (v':=Bo false) F (congrArg Value.bool (ay oM)) ?_)));refine jT 21 [12,13,14] (aa 36 32767) ?_;(refine jG (aa 36 65535) 15 F (aA F F F) ?_);(refine jG (aa 36 131071) 16 F (ao F) ?_);refine jT 17 [17,18] (aa 36 524287) ?_;(try (first | (refine Nx.re (d:=59) (v':=Bo true) F (congrArg Value.bool (ar oM)) ?_) | (refine Nx.re (d:=59) (v':=Bo false) F (congrArg Value.bool (ay oM)) ?_)));refine jT 10 [19,20,21,23,24,25,31] (aa 36 2210398207) ?_;(first | refine jG (aa 36 2214592511) 22 F (aA F F F) ?_ | refine jN (aa 36 2214592511) 22 F ?_);(first | refine jG (aa 36 2281701375) 26 F (aA F F F) ?_ | refine jN (aa 36 2281701375) 26 F ?_);(first | refine jG (aa 36 2415919103) 27 F (ao F) ?_ | refine jN (aa 36 2415919103) 27 F ?_);refine jW 6 [28] (aa 36 2684354559) ?_;(first | refine jG (aa 36 3221225471) 29 F (aQ F F oM) ?_ | refine jN (aa 36 3221225471) 29 F ?_);(first | (refine jG (aa 36 4294967295) 30 F (vh F F F ?_ aS) ?_;focus omega) | refine jN (aa 36 4294967295) 30 F ?_);(first | refine jG (aa 36 8589934591) 32 F (aA F F F) ?_ | refine jN (aa 36 8589934591) 32 F ?_);refine jT 2 [33] (aa 36 17179869183) ?_;(first | refine jG (aa 36 34359738367) 34 F (bB F F F) ?_ | refine jG (aa 36 34359738367) 34 F (be F F F) ?_);(refine jG (aa 36 68719476735) 35 F (be F F F) ?_);refine jQ ?_)
     repeat' (first | refine jR ?_ | (refine ad F (by first | rfl | (refine decide_eq_false ?_;(assumption))) ?_))
     (refine aj (an (id:=7) _ (fun _ h=>h) ai ?_);refine jW 10 [1,2,3,5,6] (aa 15 110) ?_;(refine jG (aa 15 111) 0 F (bJ F F F F) ?_);(refine jG (aa 15 127) 4 F (aA F F F) ?_);refine jA 7 F ?_;(refine aM F F F cx_rd F ?_;rintro _ G hle ⟨q1,r1,ok1,rfl,hyes,hno⟩;skip);refine jS (aa 15 255) ?_;refine jT 0 [8,9,10,11,12,13,14] (aa 15 32767) ?_;refine jQ ?_)
     repeat' (refine jR ?_)
     have hgl:=hgq.trans hle
     cases ok1 with
     | false =>
      have hno2 : aN (rd (af vs) n) x.2 t = none:=by rw [hfs,hno rfl];rfl
      (refine aj (an (id:=8) _ (fun _ h=>h) ai ?_);refine jT 22 [0,1,2] (aa 25 7) ?_;(try (refine Nx.re (d:=92) (v':=Bo true) F (congrArg Value.bool F) ?_));refine jT 20 [3,5] (aa 25 47) ?_;(refine jN (aa 25 111) 6 F ?_);(refine jN (aa 25 239) 7 F ?_);(refine jN (aa 25 255) 4 F ?_);(refine jN (aa 25 511) 8 F ?_);refine jT 15 [9] (aa 25 1023) ?_;(refine jG (aa 25 2047) 10 F (bB F F F) ?_);refine jT 13 [11] (aa 25 4095) ?_;(try (refine Nx.re (d:=101) (v':=Bo true) F (congrArg Value.bool F) ?_));refine jT 11 [12,13] (aa 25 16383) ?_;(refine jG (aa 25 32767) 14 F (bB F F F) ?_);refine jT 9 [15] (aa 25 65535) ?_;(try (refine Nx.re (d:=105) (v':=Bo true) F (congrArg Value.bool F) ?_));refine jT 5 [16,17,18,19] (aa 25 1048575) ?_;(try (fail));refine jT 2 [20,21,22] (aa 25 8388607) ?_;(refine jN (aa 25 16777215) 23 F ?_);(refine jG (aa 25 33554431) 24 F (bB F F F) ?_);refine jQ ?_)
      repeat' (first | refine jR ?_ | refine ac F F ?_)
      all_goals refine jZ (vs:=[_,_,_]) F ⟨F,F,F,trivial⟩ F ⟨hgl,F,?_⟩
      all_goals exact hnone (dL hno2) F
     | true =>
      obtain ⟨w,wb,rfl,hf,hrep⟩:=hyes rfl
      have hsh:=gP hf
      have htt:=i6 _ _ _ _ hf
      dsimp only at htt hsh
      have hob:=kZ hw hrep
      unfold gI at hob
      have cx_out:=io hw hrep oM
      have cx_sta:=nN (f:=d) (h.mono hgl) hw hdk
      have hfd : aN (rd (af vs) n) x.2 t = some ((d,w),r1):=by rw [hfs,hf];rfl
      have hst:=jJ (ts:=af vs) (vs:=gw fs) (last:=hX fs) hfd hm0
      by_cases heq : w.out = cT (af vs) d
      ·rw [if_pos (.inr heq)] at hst
       (refine aj (an (id:=8) _ (fun _ h=>h) ai ?_);refine jT 22 [0,1,2] (aa 25 7) ?_;(try (refine Nx.re (d:=92) (v':=Bo false) F (congrArg Value.bool F) ?_));refine jT 20 [3,5] (aa 25 47) ?_;(refine jG (aa 25 111) 6 F (aA F F F) ?_);(refine jG (aa 25 239) 7 F (bJ F F F F) ?_);(refine jA 4 F ?_;(refine ab F F F cx_out F ?_);refine jS (aa 25 255) ?_);(refine jA 8 F ?_;(refine ab F F F cx_sta F ?_);refine jS (aa 25 511) ?_);refine jT 15 [9] (aa 25 1023) ?_;(refine jG (aa 25 2047) 10 F (be F F F) ?_);refine jT 13 [11] (aa 25 4095) ?_;(try (refine Nx.re (d:=101) (v':=Bo true) F (congrArg Value.bool (ar ‹_›)) ?_));refine jT 11 [12,13] (aa 25 16383) ?_;(refine jG (aa 25 32767) 14 F (bB F F F) ?_);refine jT 9 [15] (aa 25 65535) ?_;(try (refine Nx.re (d:=105) (v':=Bo true) F (congrArg Value.bool F) ?_));refine jT 5 [16,17,18,19] (aa 25 1048575) ?_;(try (fail));refine jT 2 [20,21,22] (aa 25 8388607) ?_;(refine jN (aa 25 16777215) 23 F ?_);(refine jG (aa 25 33554431) 24 F (bB F F F) ?_);refine jQ ?_)
       repeat' (first | refine jR ?_ | refine ac F F ?_)
       all_goals refine jZ (vs:=[_,_,_]) F ⟨F,F,F,trivial⟩ F ⟨hgl,F,?_⟩
       all_goals exact hnone hst F
      rw [if_neg (fun h=>by rcases h with h | h;exact hlt h;exact heq h)] at hst
      cases r1 with
      | nil =>
       (refine aj (an (id:=8) _ (fun _ h=>h) ai ?_);refine jT 22 [0,1,2] (aa 25 7) ?_;(try (refine Nx.re (d:=92) (v':=Bo false) F (congrArg Value.bool F) ?_));refine jT 20 [3,5] (aa 25 47) ?_;(refine jG (aa 25 111) 6 F (aA F F F) ?_);(refine jG (aa 25 239) 7 F (bJ F F F F) ?_);(refine jA 4 F ?_;(refine ab F F F cx_out F ?_);refine jS (aa 25 255) ?_);(refine jA 8 F ?_;(refine ab F F F cx_sta F ?_);refine jS (aa 25 511) ?_);refine jT 15 [9] (aa 25 1023) ?_;(refine jG (aa 25 2047) 10 F (be F F F) ?_);refine jT 13 [11] (aa 25 4095) ?_;(try (refine Nx.re (d:=101) (v':=Bo false) F (congrArg Value.bool (ay ‹_›)) ?_));refine jT 11 [12,13] (aa 25 16383) ?_;(refine jG (aa 25 32767) 14 F (be F F F) ?_);refine jT 9 [15] (aa 25 65535) ?_;(try (refine Nx.re (d:=105) (v':=Bo true) F (congrArg Value.bool F) ?_));refine jT 5 [16,17,18,19] (aa 25 1048575) ?_;(try (fail));refine jT 2 [20,21,22] (aa 25 8388607) ?_;(refine jN (aa 25 16777215) 23 F ?_);(refine jG (aa 25 33554431) 24 F (bB F F F) ?_);refine jQ ?_)
       repeat' (first | refine jR ?_ | refine ac F F ?_)
       all_goals refine jZ (vs:=[_,_,_]) F ⟨F,F,F,trivial⟩ F ⟨hgl,F,?_⟩
       all_goals exact hnone hst F
      | cons e2 r3 =>
       have he20 : bt (e2 :: r3) (Int.toNat 0) = e2.toNat:=bh e2 r3
       have hel2 : (e2 :: r3).length = r3.length + 1:=rfl
       have hl' : (fs ++ [(d,w)]).length = fs.length + 1:=by simp
       have hbl' : (bs ++ [wb]).length = (fs ++ [(d,w)]).length:=by simp [hbl]
       have hnth : ∀ i,i < (fs ++ [(d,w)]).length → (i < fs.length ∧ ae (fs ++ [(d,w)]) i = ae fs i ∧ ae (bs ++ [wb]) i = ae bs i) ∨ (ae (fs ++ [(d,w)]) i = (d,w) ∧ ae (bs ++ [wb]) i = wb):=fun i hi=>by
        by_cases h1 : i < fs.length
        ·exact .inl ⟨h1,by rw [aU hi,aU h1,List.getElem_append_left h1],by rw [aU oM,aU oM,List.getElem_append_left oM]⟩
        ·have h2 : i = fs.length:=oM
         exact .inr ⟨by rw [aU hi];simp [h2],by rw [aU oM];simp [h2,hbl]⟩
       have hfm' : ∀ i,i < (fs ++ [(d,w)]).length → (ae (fs ++ [(d,w)]) i).1 ∈ x.2.fields:=fun i hi=>by
        rcases hnth i hi with ⟨h1,h2,_⟩ | ⟨h2,_⟩
        ·rw [h2];exact hfm i h1
        ·rw [h2];exact hdm
       have hreps' : ∀ i,i < (fs ++ [(d,w)]).length → RepR G (af vs) (ae (fs ++ [(d,w)]) i).2 (ae (fs ++ [(d,w)]) i).1.kind (ae (bs ++ [wb]) i):=fun i hi=>by
        rcases hnth i hi with ⟨h1,h2,h3⟩ | ⟨h2,h3⟩
        ·rw [h2,h3];exact (hreps i h1).mono hle
        ·rw [h2,h3];exact hrep
       have hrow1 : aI gk (fs.map fun p=>p.1.tag) ++ [I d.tag] = aI gk ((fs ++ [(d,w)]).map fun p=>p.1.tag):=by rw [List.map_append];exact (cl gk _ d.tag).symm
       have hrow2 : aI eC bs ++ [Pt wb 0] = aI eC (bs ++ [wb]):=(cl eC bs wb).symm
       have hnd : gw (fs ++ [(d,w)]) = gw fs ++ [.nd 61 [] d.tag [w]]:=by simp [gw]
       dsimp only at hst
       by_cases h44 : e2.toNat = 44
       ·rw [if_pos h44] at hst
        have hn93 : ¬ e2.toNat = 125:=oM
        (refine aj (an (id:=8) _ (fun _ h=>h) ai ?_);refine jT 22 [0,1,2] (aa 25 7) ?_;(try (refine Nx.re (d:=92) (v':=Bo false) F (congrArg Value.bool F) ?_));refine jT 20 [3,5] (aa 25 47) ?_;(refine jG (aa 25 111) 6 F (aA F F F) ?_);(refine jG (aa 25 239) 7 F (bJ F F F F) ?_);(refine jA 4 F ?_;(refine ab F F F cx_out F ?_);refine jS (aa 25 255) ?_);(refine jA 8 F ?_;(refine ab F F F cx_sta F ?_);refine jS (aa 25 511) ?_);refine jT 15 [9] (aa 25 1023) ?_;(refine jG (aa 25 2047) 10 F (be F F F) ?_);refine jT 13 [11] (aa 25 4095) ?_;(try (refine Nx.re (d:=101) (v':=Bo false) F (congrArg Value.bool (ay ‹_›)) ?_));refine jT 11 [12,13] (aa 25 16383) ?_;(refine jG (aa 25 32767) 14 F (be F F F) ?_);refine jT 9 [15] (aa 25 65535) ?_;(try (refine Nx.re (d:=105) (v':=Bo false) F (congrArg Value.bool F) ?_));refine jW 5 [16,17,18,19] (aa 25 1048575) ?_;(try ((refine Nx.re (d:=109) (v':=Bo false) F (congrArg Value.bool (ay oM)) ?_)));refine jT 2 [20,21,22] (aa 25 8388607) ?_;(refine jG (aa 25 16777215) 23 F (be F F F) ?_);(refine jG (aa 25 33554431) 24 F (be F F F) ?_);refine jQ ?_)
        repeat' (first | refine jR ?_ | refine ad F F ?_)
        (refine aj (an (id:=10) [.blk x14 (.cells (List.toArray [I d.tag,S d.name,S d.kind,S d.stand]) tFd (0,0))] (by intro y hy;simp only [List.mem_cons,List.not_mem_nil,or_false] at hy ⊢;simp [hy]) ai ?_);refine jW 7 [0,1,2,3,5] (aa 12 47) ?_;(refine jG (aa 12 111) 6 F (aA F F F) ?_);refine cy [4,7] kR dC ⟨?_,?_,trivial⟩;(focus (refine a9 F F ?_;(refine ak F ?_);refine jK (aa 12 127) ?_;refine jA 7 F ?_;(refine jF fun _=>?_);refine jK (aa 12 255) ?_;refine jA 8 F ?_;((refine cj F F F F F F F F F ?_ fun _ _=>?_;focus omega));refine jK (aa 12 511) ?_;refine jW 1 [9,10] (aa 12 2047) ?_;refine jA 11 F ?_;(refine jD F F F ?_);refine jK (aa 12 4095) ?_;refine jQ ?_));rotate_left 1;(focus (refine a9 F F ?_;(refine jF fun _=>?_);refine jK (aa 12 239) ?_;refine jA 4 F ?_;(refine ak F ?_);refine jK (aa 12 255) ?_;refine jA 8 F ?_;((refine cj F F F F F F F F F ?_ fun _ _=>?_;focus omega));refine jK (aa 12 511) ?_;refine jW 1 [9,10] (aa 12 2047) ?_;refine jA 11 F ?_;(refine jD F F F ?_);refine jK (aa 12 4095) ?_;refine jQ ?_));rotate_left 1)
        all_goals repeat' (first | refine jM ?_ | (refine jo ?_;first | refine ak F ?_ | refine jD F F F ?_ | refine jF fun _=>?_ | refine cj F F F F F F F F F oM fun _ _=>?_) | refine ad F (ay oM) ?_)
        all_goals
         rename_i _ y1 yc1 _ y2 yc2
         rw [hrow1,hrow2]
         exact aY (fs ++ [(d,w)],bs ++ [wb],some ⟨y1,0,none⟩,yc1,some ⟨y2,0,none⟩,yc2,r3,m - 1,G) ⟨⟨⟨hbl',hfm',hreps'⟩,hgl⟩,⟨(by dsimp only;rw [hit,hst,t8,hnd]),(by dsimp only;omega)⟩,(by dsimp only;omega),(by dsimp only;omega)⟩ (by dsimp only;omega) tU rfl (by rw [hl'];repeat (first | exact List.Sublist.refl _ | apply List.Sublist.cons_cons | apply List.Sublist.cons))
       ·rw [if_neg h44] at hst
        by_cases h125' : e2.toNat = 125
        ·rw [if_pos h125'] at hst
         (refine aj (an (id:=8) _ (fun _ h=>h) ai ?_);refine jT 22 [0,1,2] (aa 25 7) ?_;(try (refine Nx.re (d:=92) (v':=Bo false) F (congrArg Value.bool F) ?_));refine jT 20 [3,5] (aa 25 47) ?_;(refine jG (aa 25 111) 6 F (aA F F F) ?_);(refine jG (aa 25 239) 7 F (bJ F F F F) ?_);(refine jA 4 F ?_;(refine ab F F F cx_out F ?_);refine jS (aa 25 255) ?_);(refine jA 8 F ?_;(refine ab F F F cx_sta F ?_);refine jS (aa 25 511) ?_);refine jT 15 [9] (aa 25 1023) ?_;(refine jG (aa 25 2047) 10 F (be F F F) ?_);refine jT 13 [11] (aa 25 4095) ?_;(try (refine Nx.re (d:=101) (v':=Bo false) F (congrArg Value.bool (ay ‹_›)) ?_));refine jT 11 [12,13] (aa 25 16383) ?_;(refine jG (aa 25 32767) 14 F (be F F F) ?_);refine jT 9 [15] (aa 25 65535) ?_;(try (refine Nx.re (d:=105) (v':=Bo false) F (congrArg Value.bool F) ?_));refine jW 5 [16,17,18,19] (aa 25 1048575) ?_;(try ((refine Nx.re (d:=109) (v':=Bo true) F (congrArg Value.bool (ar oM)) ?_)));refine jW 2 [20,21,22] (aa 25 8388607) ?_;(refine jG (aa 25 16777215) 23 F (bB F F F) ?_);(refine jG (aa 25 33554431) 24 F (be F F F) ?_);refine jQ ?_)
         repeat' (first | refine jR ?_ | refine ad F (ay oM) ?_)
         (refine aj (an (id:=10) [.blk x14 (.cells (List.toArray [I d.tag,S d.name,S d.kind,S d.stand]) tFd (0,0))] (by intro y hy;simp only [List.mem_cons,List.not_mem_nil,or_false] at hy ⊢;simp [hy]) ai ?_);refine jW 7 [0,1,2,3,5] (aa 12 47) ?_;(refine jG (aa 12 111) 6 F (aA F F F) ?_);refine cy [4,7] kR dC ⟨?_,?_,trivial⟩;(focus (refine a9 F F ?_;(refine ak F ?_);refine jK (aa 12 127) ?_;refine jA 7 F ?_;(refine jF fun _=>?_);refine jK (aa 12 255) ?_;refine jA 8 F ?_;((refine cj F F F F F F F F F ?_ fun _ _=>?_;focus omega));refine jK (aa 12 511) ?_;refine jW 1 [9,10] (aa 12 2047) ?_;refine jA 11 F ?_;(refine jD F F F ?_);refine jK (aa 12 4095) ?_;refine jQ ?_));rotate_left 1;(focus (refine a9 F F ?_;(refine jF fun _=>?_);refine jK (aa 12 239) ?_;refine jA 4 F ?_;(refine ak F ?_);refine jK (aa 12 255) ?_;refine jA 8 F ?_;((refine cj F F F F F F F F F ?_ fun _ _=>?_;focus omega));refine jK (aa 12 511) ?_;refine jW 1 [9,10] (aa 12 2047) ?_;refine jA 11 F ?_;(refine jD F F F ?_);refine jK (aa 12 4095) ?_;refine jQ ?_));rotate_left 1)
         all_goals repeat' (first | refine jM ?_ | (refine jo ?_;first | refine ak F ?_ | refine jD F F F ?_ | refine jF fun _=>?_ | refine cj F F F F F F F F F oM fun _ _=>?_) | refine ac F (ar oM) ?_)
         all_goals
          rename_i _ y1 yc1 _ y2 yc2
          rw [hrow1,hrow2]
          refine Nx.sealS (v:=.slice (some ⟨y1,0,none⟩) (fs.length + 1) yc1) fun G2 hG2 hs1=>?_
          refine Nx.sealS (v:=.slice (some ⟨y2,0,none⟩) (fs.length + 1) yc2) fun G3 hG3 hs2=>?_
          refine Nx.sealC (b:=x13) fun G4 hG4 hsg=>?_
          refine jZ (vs:=[_,_,_]) F ⟨F,F,F,trivial⟩ F ⟨(((hgl.trans hG2).trans hG3).trans hG4),F,?_⟩
          rw [aB]
          exact ⟨_,_,_,F,fun _=>⟨.nd 82 [] 0 (gw (fs ++ [(d,w)])),x13,F,(by rw [hRl,hit,hst,hnd];rfl),.recd k x13 x.2 (fs ++ [(d,w)]) (bs ++ [wb]) (some ⟨y1,0,none⟩) (some ⟨y2,0,none⟩) yc1 yc2 ⟨hrf,hso⟩ (by rw [hl'];exact hsg) (by rw [hl'];exact (hs1.mono hG3).mono hG4) (by rw [hl'];exact hs2.mono hG4) hbl' hfm' (fun i hi=>(hreps' i hi).mono ((hG2.trans hG3).trans hG4))⟩,fun h=>(by cases h)⟩
        ·rw [if_neg h125'] at hst
         (refine aj (an (id:=8) _ (fun _ h=>h) ai ?_);refine jT 22 [0,1,2] (aa 25 7) ?_;(try (refine Nx.re (d:=92) (v':=Bo false) F (congrArg Value.bool F) ?_));refine jT 20 [3,5] (aa 25 47) ?_;(refine jG (aa 25 111) 6 F (aA F F F) ?_);(refine jG (aa 25 239) 7 F (bJ F F F F) ?_);(refine jA 4 F ?_;(refine ab F F F cx_out F ?_);refine jS (aa 25 255) ?_);(refine jA 8 F ?_;(refine ab F F F cx_sta F ?_);refine jS (aa 25 511) ?_);refine jT 15 [9] (aa 25 1023) ?_;(refine jG (aa 25 2047) 10 F (be F F F) ?_);refine jT 13 [11] (aa 25 4095) ?_;(try (refine Nx.re (d:=101) (v':=Bo false) F (congrArg Value.bool (ay ‹_›)) ?_));refine jT 11 [12,13] (aa 25 16383) ?_;(refine jG (aa 25 32767) 14 F (be F F F) ?_);refine jT 9 [15] (aa 25 65535) ?_;(try (refine Nx.re (d:=105) (v':=Bo false) F (congrArg Value.bool F) ?_));refine jW 5 [16,17,18,19] (aa 25 1048575) ?_;(try ((refine Nx.re (d:=109) (v':=Bo true) F (congrArg Value.bool (ar oM)) ?_)));refine jW 2 [20,21,22] (aa 25 8388607) ?_;(refine jG (aa 25 16777215) 23 F (bB F F F) ?_);(refine jG (aa 25 33554431) 24 F (be F F F) ?_);refine jQ ?_)
         repeat' (first | refine jR ?_ | refine ac F (ar oM) ?_)
         all_goals refine jZ (vs:=[_,_,_]) F ⟨F,F,F,trivial⟩ F ⟨hgl,F,?_⟩
         all_goals exact hnone hst F
theorem tP {ts : List Ty} {f : act → act → Option (V × act)} {t : Ty} {e : UInt8} {s : act} (h : t.sort = 82 ∧ ¬ e.toNat = 123 ∨ t.sort = 69 ∧ ¬ e.toNat = 35 ∨ t.sort = 85 ∧ ¬ e.toNat = 60) : a6 ts f t (e :: s) = none:=by
 unfold a6
 dsimp only
 rcases h with ⟨h1,h2⟩ | ⟨h1,h2⟩ | ⟨h1,h2⟩
 ·rw [if_pos h1,if_neg h2]
 ·rw [if_neg oM,if_pos h1,if_neg h2]
 ·rw [if_neg oM,if_neg oM,if_neg h2]
theorem aav {n : Nat} {u : Value} {vs : List bL} {x : bL} {k s : act} {e : UInt8} (hu : u.oneCell' = true) (cx_rf : av acs 160 [u,S k] G (· = Tu [Ag [U8 x.2.sort,S x.2.name,gf x],Bo true])) (hso : x.2.sort = 82 ∧ ¬ e.toNat = 123 ∨ x.2.sort = 69 ∧ ¬ e.toNat = 35 ∨ x.2.sort = 85 ∧ ¬ e.toNat = 60) (hs : s.length ≤ 2000000) (hn : n ≤ 1000) :
  bx acs 153 [Ag [u],S (e :: s),S k,I (n + 1 : Nat)] G (ck (af vs) (a6 (af vs) (rd (af vs) n) x.2 (e :: s)) k):=by
 have hno:=tP (ts:=af vs) (f:=rd (af vs) n) (s:=s) hso
 have he0 : bt (e :: s) (Int.toNat 0) = e.toNat:=bh e s
 have hel : (e :: s).length = s.length + 1:=rfl
 rcases hso with ⟨h1,h2⟩ | ⟨h1,h2⟩ | ⟨h1,h2⟩
 all_goals
  have h1' : (x.2.sort : Int) = 82 ∨ (x.2.sort : Int) = 69 ∨ (x.2.sort : Int) = 85:=oM
  refine jB [(0,_),(1,_),(2,_),(3,_)] Tryz.func153 Tryz.ntmps153 fun B hok hB hW=>?_
  repeat' (first | refine jM ?_ | (refine jo ?_;first | refine jO fun _=>?_ | refine ak F ?_ | refine jL fun _=>?_ | refine jC F F F ?_ | refine aE F ?_ | refine aq F ?_ | refine ab F F F cx_rf F ?_) | refine aw F F (ar oM) ?_ | refine al F F (ay oM) ?_ | (refine ad F (by first | rfl | (refine decide_eq_false ?_;(omega))) ?_))
  all_goals refine jZ (vs:=[_,_,_]) F ⟨F,F,F,trivial⟩ F ⟨Gh.le.refl _,F,?_⟩
  all_goals (rw [aB];exact ⟨_,_,_,F,fun h=>(by cases h),fun _=>hno⟩)
theorem aax {n : Nat} {u : Value} {vs : List bL} {x : bL} {k s : act} (hR : ke n u vs) (h : SchR G u vs) (hw : SchW (af vs)) (hx : x ∈ vs) (hrf : aX (af vs) k = some x.2) (cx_rf : av acs 160 [u,S k] G (· = Tu [Ag [U8 x.2.sort,S x.2.name,gf x],Bo true])) (hso : x.2.sort = 82) (hs : s.length ≤ 1999999) (hn : n ≤ 1000) (hkl : k.length ≤ 1000) :
  bx acs 153 [Ag [u],S (123 :: s),S k,I (n + 1 : Nat)] G (ck (af vs) (a6 (af vs) (rd (af vs) n) x.2 (123 :: s)) k):=by
 have cx_rc:=vI (s:=s) hR h hw hx hrf hso oM hn hkl
 have he0 : bt (123 :: s) (Int.toNat 0) = 123:=bh 123 s
 have hel : (123 :: s).length = s.length + 1:=rfl
 have h1' : (x.2.sort : Int) = 82:=oM
 refine jB [(0,_),(1,_),(2,_),(3,_)] Tryz.func153 Tryz.ntmps153 fun B hok hB hW=>?_
 repeat' (first | refine jM ?_ | (refine jo ?_;first | refine jO fun _=>?_ | refine ak F ?_ | refine jL fun _=>?_ | refine jC F F F ?_ | refine aE F ?_ | refine ab F F F cx_rf F ?_) | refine aw F F (ar ‹_›) ?_ | refine ac F F ?_ | (refine aj (an (id:=3) _ (fun _ h=>h) ai ?_);refine jW 9 [1,2,3,5] (aa 13 46) ?_;(refine jG (aa 13 47) 0 F (bJ F F F F) ?_);(refine jG (aa 13 63) 4 F (bJ F F F F) ?_);refine jA 6 F ?_;(refine aM F F F cx_rc F ?_;rintro _ G hle ⟨q1,r1,ok1,rfl,hyes,hno⟩;skip);refine jS (aa 13 127) ?_;refine jT 0 [7,8,9,10,11,12] (aa 13 8191) ?_;refine jQ ?_))
 refine jZ (vs:=[_,_,_]) F ⟨F,F,F,trivial⟩ F ⟨hle,F,?_⟩
 rw [aB]
 exact ⟨_,_,_,F,hyes,hno⟩
theorem aay {n : Nat} {u : Value} {vs : List bL} {x : bL} {k s : act} (h : SchR G u vs) (hw : SchW (af vs)) (hx : x ∈ vs) (hrf : aX (af vs) k = some x.2) (cx_rf : av acs 160 [u,S k] G (· = Tu [Ag [U8 x.2.sort,S x.2.name,gf x],Bo true])) (hso : x.2.sort = 69) (hs : s.length ≤ 1999999) (hn : n ≤ 1000) :
  bx acs 153 [Ag [u],S (35 :: s),S k,I (n + 1 : Nat)] G (ck (af vs) (a6 (af vs) (rd (af vs) n) x.2 (35 :: s)) k):=by
 have hxt : x.2 ∈ af vs:=List.mem_map_of_mem hx
 have hTW:=hw.ty _ hxt
 have hfl:=hTW.len
 have cx_tg:=qC (G:=G) (u:=u) (x:=x) (s:=s) oM h.sl.one (h.fl x hx) oM
 have he0 : bt (35 :: s) (Int.toNat 0) = 35:=bh 35 s
 have hel : (35 :: s).length = s.length + 1:=rfl
 have h1' : (x.2.sort : Int) = 69:=oM
 have hRT : a6 (af vs) (rd (af vs) n) x.2 (35 :: s) = match cb 200 s with
   | none=>none
   | some (n,r)=>if (bK x.2.fields n).isSome = true then some (.nd 69 [] n [],r) else none:=by
  unfold a6
  dsimp only
  rw [if_neg oM,if_pos hso,if_pos (show (35 : UInt8).toNat = 35 from rfl)]
  cases cb 200 s <;> rfl
 unfold cb at hRT
 simp only [iZ] at cx_tg
 refine jB [(0,_),(1,_),(2,_),(3,_)] Tryz.func153 Tryz.ntmps153 fun B hok hB hW=>?_
 repeat' (first | refine jM ?_ | (refine jo ?_;first | refine jO fun _=>?_ | refine ak F ?_ | refine jL fun _=>?_ | refine jC F F F ?_ | refine aE F ?_ | refine aq F ?_ | refine jF fun _=>?_ | refine jV (am F F) ?_ | refine ab F F F cx_rf F ?_) | refine aw F F (ar ‹_›) ?_ | refine al F F (ay oM) ?_ | refine ac F F ?_ | refine ad F F ?_ | (refine aj (an (id:=5) _ (fun _ h=>h) ai ?_);refine jW 11 [1,2] (aa 13 6) ?_;(refine jG (aa 13 7) 0 F (bJ F F F F) ?_);(refine jG (aa 13 15) 3 F (bJ F F F F) ?_);refine cy [4,9] kR dC ⟨?_,?_,trivial⟩;(focus (refine a9 F F ?_;(refine c8 F F F cx_tg F ?_;rintro _ ⟨nt,rfl,hnt⟩);refine jK (aa 13 31) ?_;refine jW 4 [5,6,7,8] (aa 13 511) ?_;refine jA 9 F ?_;(refine jL fun _=>?_);refine jK (aa 13 1023) ?_;refine jA 10 F ?_;(refine jC F F F ?_);refine jK (aa 13 2047) ?_;refine jW 0 [11,12] (aa 13 8191) ?_;refine jQ ?_));rotate_left 1;(focus (refine a9 F F ?_;(refine jL fun _=>?_);refine jK (aa 13 527) ?_;refine jA 4 F ?_;(refine c8 F F F cx_tg F ?_;rintro _ ⟨nt,rfl,hnt⟩);refine jK (aa 13 543) ?_;refine jW 3 [5,6,7,8] (aa 13 1023) ?_;refine jA 10 F ?_;(refine jC F F F ?_);refine jK (aa 13 2047) ?_;refine jW 0 [11,12] (aa 13 8191) ?_;refine jQ ?_));rotate_left 1))
 all_goals
  rename_i y y8
  refine Nx.sealC (b:=y) fun G2 hG2 hsy=>?_
  refine Nx.sealC (b:=y8) fun G3 hG3 hsg=>?_
  refine jZ (vs:=[_,_,_]) F ⟨F,F,F,trivial⟩ F ⟨(hG2.trans hG3),F,?_⟩
  rw [aB]
  refine ⟨_,_,_,F,fun hb=>?_,fun hb=>?_⟩
  ·simp only [Bool.and_eq_true] at hb
   obtain ⟨hb1,hb2⟩:=hb
   obtain ⟨m0,hm⟩:=Option.isSome_iff_exists.1 hb1
   obtain ⟨d,hd⟩:=Option.isSome_iff_exists.1 hb2
   have hnm:=hnt m0 hm
   subst hnm
   rw [hd] at hsy
   simp only [Option.getD_some] at hsy
   have hdm : d ∈ x.2.fields:=List.mem_of_find?_eq_some hd
   have hdt : d.tag = nt:=by have:=List.find?_some hd;simpa using this
   exact ⟨.nd 69 [] d.tag [],y8,F,by rw [hRT,hm];dsimp only [Option.map_some];rw [hd,hdt];rfl,.enm k y8 y x.2 d ⟨hrf,hso⟩ hdm hsg (hsy.mono hG3)⟩
  ·rw [hRT]
   cases hm : aL (s.takeWhile aZ) 200 with
   | none=>rfl
   | some m0 =>
    have hnm:=hnt m0 hm
    subst hnm
    rw [hm] at hb
    dsimp only [Option.map_some]
    rw [if_neg]
    intro h2
    rw [h2] at hb;cases hb
theorem aaw {n : Nat} {u : Value} {vs : List bL} {x : bL} {k s : act} (hR : ke n u vs) (h : SchR G u vs) (hw : SchW (af vs)) (hx : x ∈ vs) (hrf : aX (af vs) k = some x.2) (cx_rf : av acs 160 [u,S k] G (· = Tu [Ag [U8 x.2.sort,S x.2.name,gf x],Bo true])) (hso : x.2.sort = 85) (hs : s.length ≤ 1999999) (hn : n ≤ 1000) :
  bx acs 153 [Ag [u],S (60 :: s),S k,I (n + 1 : Nat)] G (ck (af vs) (a6 (af vs) (rd (af vs) n) x.2 (60 :: s)) k):=by
 have edn : ((n + 1 : Nat) : Int) - 1 = (n : Nat):=oM
 have hxt : x.2 ∈ af vs:=List.mem_map_of_mem hx
 have hTW:=hw.ty _ hxt
 have hfl:=hTW.len
 have cx_tg:=qC (G:=G) (u:=u) (x:=x) (s:=s) oM h.sl.one (h.fl x hx) oM
 have he0 : bt (60 :: s) (Int.toNat 0) = 60:=bh 60 s
 have hel : (60 :: s).length = s.length + 1:=rfl
 have h1' : (x.2.sort : Int) = 85:=oM
 have hRT : a6 (af vs) (rd (af vs) n) x.2 (60 :: s) = match aN (rd (af vs) n) x.2 s with
   | none=>none
   | some ((d,v),r)=>match r with
    | []=>none
    | c' :: r'=>if c'.toNat = 62 then some (.nd 85 [] d.tag [v],r') else none:=by
  unfold a6
  dsimp only
  rw [if_neg oM,if_neg oM,if_pos (show (60 : UInt8).toNat = 60 from rfl)]
  cases aN (rd (af vs) n) x.2 s <;> rfl
 simp only [iZ] at cx_tg
 refine jB [(0,_),(1,_),(2,_),(3,_)] Tryz.func153 Tryz.ntmps153 fun B hok hB hW=>?_
 repeat' (first | refine jM ?_ | (refine jo ?_;first | refine jO fun _=>?_ | refine ak F ?_ | refine jL fun _=>?_ | refine jC F F F ?_ | refine aE F ?_ | refine aq F ?_ | refine ab F F F cx_rf F ?_) | refine aw F F (ar ‹_›) ?_ | refine al F F (ay oM) ?_ | refine ac F F ?_ | refine ad F F ?_)
 (refine aj (an (id:=8) _ (fun _ h=>h) ai ?_);refine jW 11 [1,2] (aa 13 6) ?_;(refine jG (aa 13 7) 0 F (bJ F F F F) ?_);(refine jG (aa 13 15) 3 F (bJ F F F F) ?_);refine cy [4,9] kR dC ⟨?_,?_,trivial⟩;(focus (refine a9 F F ?_;(refine c8 F F F cx_tg F ?_;rintro _ ⟨nt,rfl,hnt⟩);refine jK (aa 13 31) ?_;refine jW 4 [5,6,7,8] (aa 13 511) ?_;refine jA 9 F ?_;(refine jL fun _=>?_);refine jK (aa 13 1023) ?_;refine jA 10 F ?_;(refine jC F F F ?_);refine jK (aa 13 2047) ?_;refine jW 0 [11,12] (aa 13 8191) ?_;refine jQ ?_));rotate_left 1;(focus (refine a9 F F ?_;(refine jL fun _=>?_);refine jK (aa 13 527) ?_;refine jA 4 F ?_;(refine c8 F F F cx_tg F ?_;rintro _ ⟨nt,rfl,hnt⟩);refine jK (aa 13 543) ?_;refine jW 3 [5,6,7,8] (aa 13 1023) ?_;refine jA 10 F ?_;(refine jC F F F ?_);refine jK (aa 13 2047) ?_;refine jW 0 [11,12] (aa 13 8191) ?_;refine jQ ?_));rotate_left 1)
 all_goals
  have hnone : ∀ {v : Value} {G' : Gh} {r : act},aN (rd (af vs) n) x.2 s = none → v = Tu [.pointer none,S r,Bo false] → ck (af vs) (a6 (af vs) (rd (af vs) n) x.2 (60 :: s)) k v G':=fun h1 h2=>⟨_,_,_,h2,fun h=>(by cases h),fun _=>by rw [hRT,h1]⟩
  cases hb16 : (aL (s.takeWhile aZ) 200).isSome && (bK x.2.fields nt).isSome with
  | false =>
   have hno : aN (rd (af vs) n) x.2 s = none:=by
    cases hm : aL (s.takeWhile aZ) 200 with
    | none=>exact eU (.inl hm)
    | some m0 =>
     refine eU (.inr ⟨m0,hm,?_⟩)
     rw [hm] at hb16
     rw [← hnt m0 hm]
     cases hf : bK x.2.fields nt with
     | none=>rfl
     | some d=>rw [hf] at hb16;cases hb16
   repeat' (first | refine jR ?_ | (refine jo ?_;refine aE F ?_) | refine aw F F F ?_ | refine ac F F ?_)
   all_goals refine jZ (vs:=[_,_,_]) F ⟨F,F,F,trivial⟩ F ⟨Gh.le.refl _,F,?_⟩
   all_goals exact hnone hno F
  | true =>
   simp only [Bool.and_eq_true] at hb16
   obtain ⟨hb1,hb2⟩:=hb16
   obtain ⟨m0,hm⟩:=Option.isSome_iff_exists.1 hb1
   obtain ⟨d,hd⟩:=Option.isSome_iff_exists.1 hb2
   have hnm:=hnt m0 hm
   subst hnm
   rw [hd]
   simp only [Option.getD_some]
   have hdm : d ∈ x.2.fields:=List.mem_of_find?_eq_some hd
   have hwl:=dH aZ s
   cases hdw : s.dropWhile aZ with
   | nil =>
    have hno : aN (rd (af vs) n) x.2 s = none:=gC hm (fun s2 h=>by rw [hdw] at h;cases h)
    repeat' (first | refine jR ?_ | (refine jo ?_;first | refine aE F ?_ | refine aq F ?_) | refine aw F F F ?_ | refine al F F F ?_ | refine ac F F ?_)
    all_goals refine jZ (vs:=[_,_,_]) F ⟨F,F,F,trivial⟩ F ⟨Gh.le.refl _,F,?_⟩
    all_goals exact hnone hno F
   | cons e r2 =>
    have he20 : bt (e :: r2) (Int.toNat 0) = e.toNat:=bh e r2
    have hel2 : (e :: r2).length = r2.length + 1:=rfl
    by_cases h61 : e.toNat = 61
    case neg =>
     have hno : aN (rd (af vs) n) x.2 s = none:=gC hm (fun s2 h=>by rw [hdw] at h;simp only [List.cons.injEq] at h;exact h61 (by rw [h.1];rfl))
     repeat' (first | refine jM ?_ | (refine jo ?_;refine aq F ?_) | refine al F F F ?_ | refine ac F (ar oM) ?_)
     all_goals refine jZ (vs:=[_,_,_]) F ⟨F,F,F,trivial⟩ F ⟨Gh.le.refl _,F,?_⟩
     all_goals exact hnone hno F
    have he61 : e = 61:=UInt8.toNat_inj.1 h61
    have hfs:=lc (f:=rd (af vs) n) (t:=x.2) (s:=s) hm hd (by rw [hdw,he61])
    have hdk : aJ (af vs) d.kind = true:=dQ hw hxt oM hdm
    rw [hdw,List.length_cons] at hwl
    have cx_rd:=hR G d.kind r2 h hdk oM
    rw [← edn] at cx_rd
    repeat' (first | refine jM ?_ | (refine jo ?_;refine aq F ?_) | refine al F F F ?_ | refine ad F (ay oM) ?_)
    (refine aj (an (id:=11) _ (fun _ h=>h) ai ?_);refine jW 10 [1,2,3,5,6] (aa 15 110) ?_;(refine jG (aa 15 111) 0 F (bJ F F F F) ?_);(refine jG (aa 15 127) 4 F (aA F F F) ?_);refine jA 7 F ?_;(refine aM F F F cx_rd F ?_;rintro _ G hle ⟨q1,r1,ok1,rfl,hyes,hno⟩;skip);refine jS (aa 15 255) ?_;refine jT 0 [8,9,10,11,12,13,14] (aa 15 32767) ?_;refine jQ ?_)
    cases ok1 with
    | false =>
     have hno2 : aN (rd (af vs) n) x.2 s = none:=by rw [hfs,hno rfl];rfl
     repeat' (first | refine jR ?_ | (refine jo ?_;refine aE F ?_) | refine aw F F F ?_ | refine ac F F ?_)
     all_goals refine jZ (vs:=[_,_,_]) F ⟨F,F,F,trivial⟩ F ⟨hle,F,?_⟩
     all_goals exact hnone hno2 F
    | true =>
     obtain ⟨w,wb,rfl,hf,hrep⟩:=hyes rfl
     have hfd : aN (rd (af vs) n) x.2 s = some ((d,w),r1):=by rw [hfs,hf];rfl
     rw [hfd] at hRT
     dsimp only at hRT
     cases r1 with
     | nil =>
      repeat' (first | refine jR ?_ | (refine jo ?_;first | refine aE F ?_ | refine aq F ?_) | refine aw F F F ?_ | refine al F F F ?_ | refine ac F F ?_)
      all_goals refine jZ (vs:=[_,_,_]) F ⟨F,F,F,trivial⟩ F ⟨hle,F,?_⟩
      all_goals (rw [aB];exact ⟨_,_,_,F,fun h=>(by cases h),fun _=>hRT⟩)
     | cons e3 r3 =>
      have he30 : bt (e3 :: r3) (Int.toNat 0) = e3.toNat:=bh e3 r3
      have hel3 : (e3 :: r3).length = r3.length + 1:=rfl
      dsimp only at hRT
      by_cases h62 : e3.toNat = 62
      case neg =>
       rw [if_neg h62] at hRT
       repeat' (first | refine jM ?_ | (refine jo ?_;refine aq F ?_) | refine al F F F ?_ | refine ac F (ar oM) ?_)
       all_goals refine jZ (vs:=[_,_,_]) F ⟨F,F,F,trivial⟩ F ⟨hle,F,?_⟩
       all_goals (rw [aB];exact ⟨_,_,_,F,fun h=>(by cases h),fun _=>hRT⟩)
      rw [if_pos h62] at hRT
      repeat' (first | refine jM ?_ | (refine jo ?_;refine aq F ?_) | refine al F F F ?_ | refine ad F (ay oM) ?_)
      (refine aj (an (id:=14) _ (fun _ h=>h) ai ?_);refine jW 8 [0,1,4,8,9] (aa 13 787) ?_;(refine jG (aa 13 791) 2 F (aA F F F) ?_);refine cy [3,5] kR dC ⟨?_,?_,trivial⟩;(focus (refine a9 F F ?_;(refine jF fun _=>?_);refine jS (aa 13 799) ?_;refine jA 5 F ?_;(refine jF fun _=>?_);refine jS (aa 13 831) ?_;(refine jG (aa 13 895) 6 F (am F F) ?_);refine jA 7 F ?_;(refine jO fun _=>?_);refine jS (aa 13 1023) ?_;refine jW 0 [10,11,12] (aa 13 8191) ?_;refine jQ ?_));rotate_left 1;(focus (refine a9 F F ?_;(refine jF fun _=>?_);refine jS (aa 13 823) ?_;refine jA 3 F ?_;(refine jF fun _=>?_);refine jS (aa 13 831) ?_;(refine jG (aa 13 895) 6 F (am F F) ?_);refine jA 7 F ?_;(refine jO fun _=>?_);refine jS (aa 13 1023) ?_;refine jW 0 [10,11,12] (aa 13 8191) ?_;refine jQ ?_));rotate_left 1)
      all_goals repeat' (refine jR ?_)
      all_goals
       rename_i y1 y2 y8
       refine Nx.sealC (b:=y1) fun G2 hG2 hs1=>?_
       refine Nx.sealC (b:=y2) fun G3 hG3 hs2=>?_
       refine Nx.sealC (b:=y8) fun G4 hG4 hsg=>?_
       refine jZ (vs:=[_,_,_]) F ⟨F,F,F,trivial⟩ F ⟨(((hle.trans hG2).trans hG3).trans hG4),F,?_⟩
       rw [aB]
       first | exact ⟨_,_,_,F,fun _=>⟨.nd 85 [] d.tag [w],y8,F,hRT,.uni k y8 y1 y2 wb 1 x.2 d w (Nat.le_refl _) ⟨hrf,hso⟩ hdm hsg (hs1.mono (hG3.trans hG4)) (hs2.mono hG4) (hrep.mono ((hG2.trans hG3).trans hG4))⟩,fun h=>(by cases h)⟩ | exact ⟨_,_,_,F,fun _=>⟨.nd 85 [] d.tag [w],y8,F,hRT,.uni k y8 y2 y1 wb 1 x.2 d w (Nat.le_refl _) ⟨hrf,hso⟩ hdm hsg (hs2.mono hG4) (hs1.mono (hG3.trans hG4)) (hrep.mono ((hG2.trans hG3).trans hG4))⟩,fun h=>(by cases h)⟩
theorem zw {ts : List Ty} {n : Nat} {k : act} : rd ts n k [] = none:=by
 cases h : rd ts n k [] with
 | none=>rfl
 | some x=>have:=gP h;simp at this
theorem tr {n : Nat} {u : Value} {vs : List bL} {k s : act} (hc : s = [] ∨ n = 0) (hn : n ≤ 1000) : bx acs 114 [Ag [u],S s,S k,I (n : Nat)] G (ck (af vs) (rd (af vs) n k s) k):=by
 have hno : rd (af vs) n k s = none:=by
  rcases hc with rfl | rfl
  ·exact zw
  ·rfl
 by_cases hs : s = []
 ·refine jB [(0,_),(1,_),(2,_),(3,_)] Tryz.func114 Tryz.ntmps114 fun B hok hB hW=>?_
  repeat' (first | refine jR ?_ | (refine jo ?_;first | refine jO fun _=>?_ | refine aE F ?_) | refine aw F F (ar ‹_›) ?_ | refine ac F F ?_)
  refine jZ (vs:=[_,_,_]) F ⟨F,F,F,trivial⟩ F ⟨Gh.le.refl _,F,?_⟩
  rw [aB]
  exact ⟨_,_,_,F,fun h=>(by cases h),fun _=>hno⟩
 ·have hn0 : n = 0:=by
   rcases hc with h | h
   ·exact absurd h hs
   ·exact h
  refine jB [(0,_),(1,_),(2,_),(3,_)] Tryz.func114 Tryz.ntmps114 fun B hok hB hW=>?_
  repeat' (first | refine jR ?_ | (refine jo ?_;first | refine jO fun _=>?_ | refine aq F ?_) | refine al F F (ay ‹_›) ?_ | refine ac F (ar oM) ?_)
  refine jZ (vs:=[_,_,_]) F ⟨F,F,F,trivial⟩ F ⟨Gh.le.refl _,F,?_⟩
  rw [aB]
  exact ⟨_,_,_,F,fun h=>(by cases h),fun _=>hno⟩
theorem yK {n : Nat} {u : Value} {vs : List bL} {k s : act} {e : UInt8} (hR : ke n u vs) (h : SchR G u vs) (hk : aJ (af vs) (91 :: k) = true) (hs : s.length ≤ 1999999) (hn : n ≤ 999) :
  bx acs 114 [Ag [u],S (e :: s),S (91 :: k),I (n + 1 : Nat)] G (ck (af vs) (rd (af vs) (n + 1) (91 :: k) (e :: s)) (91 :: k)):=by
 have hrd : rd (af vs) (n + 1) (91 :: k) (e :: s) = eG (rd (af vs) n k) (e :: s):=by rw [rd];exact qY F
 have he0 : bt (e :: s) (Int.toNat 0) = e.toNat:=bh e s
 have hel : (e :: s).length = s.length + 1:=rfl
 have hk0 : bt (91 :: k) (Int.toNat 0) = 91:=bh 91 k
 have hkl2 : (91 :: k).length = k.length + 1:=rfl
 by_cases h91 : e.toNat = 91
 ·obtain rfl:=bn h91 dC
  have cx_ls:=yN (s:=s) hR h (dx (.inl rfl) hk) oM oM
  refine jB [(0,_),(1,_),(2,_),(3,_)] Tryz.func114 Tryz.ntmps114 fun B hok hB hW=>?_
  repeat' (first | refine jM ?_ | (refine jo ?_;first | refine jO fun _=>?_ | refine aq F ?_) | refine al F F F ?_ | refine ac F F ?_ | refine ad F F ?_ | (refine aj (an (id:=7) _ (fun _ h=>h) ai ?_);refine jW 8 [1,2,3,4] (aa 12 30) ?_;(refine jG (aa 12 31) 0 F (bJ F F F F) ?_);refine jA 5 F ?_;(refine aM F F F cx_ls F ?_;rintro _ G hle ⟨q1,r1,ok1,rfl,hyes,hno⟩;skip);refine jS (aa 12 63) ?_;refine jT 0 [6,7,8,9,10,11] (aa 12 4095) ?_;refine jQ ?_))
  refine jZ (vs:=[_,_,_]) F ⟨F,F,F,trivial⟩ F ⟨hle,F,?_⟩
  rw [aB,hrd]
  exact ⟨_,_,_,F,hyes,hno⟩
 ·have hno : eG (rd (af vs) n k) (e :: s) = none:=by unfold eG;dsimp only;rw [if_neg h91]
  refine jB [(0,_),(1,_),(2,_),(3,_)] Tryz.func114 Tryz.ntmps114 fun B hok hB hW=>?_
  repeat' (first | refine jM ?_ | (refine jo ?_;first | refine jO fun _=>?_ | refine aq F ?_) | refine al F F F ?_ | (refine ac F (by first | rfl | (refine decide_eq_true ?_;(omega))) ?_) | refine ad F F ?_)
  refine jZ (vs:=[_,_,_]) F ⟨F,F,F,trivial⟩ F ⟨Gh.le.refl _,F,?_⟩
  rw [aB,hrd]
  exact ⟨_,_,_,F,fun h=>(by cases h),fun _=>hno⟩
theorem yJ {n : Nat} {u : Value} {vs : List bL} {k s : act} {e : UInt8} (hR : ke n u vs) (h : SchR G u vs) (hk : aJ (af vs) (63 :: k) = true) (hs : s.length ≤ 1999999) (hn : n ≤ 999) :
  bx acs 114 [Ag [u],S (e :: s),S (63 :: k),I (n + 1 : Nat)] G (ck (af vs) (rd (af vs) (n + 1) (63 :: k) (e :: s)) (63 :: k)):=by
 have edn : ((n + 1 : Nat) : Int) - 1 = (n : Nat):=oM
 have hrd : rd (af vs) (n + 1) (63 :: k) (e :: s) = if e.toNat = 45 then some (.nd 63 [] 0 [],s) else if e.toNat = 43 then (rd (af vs) n k s).map fun x=>(.nd 63 [] 0 [x.1],x.2) else none:=by
  rw [rd];unfold eB
  dsimp only
  rw [if_neg (show ¬ (63 : UInt8).toNat = 91 by decide),if_pos (show (63 : UInt8).toNat = 63 from rfl)]
 have he0 : bt (e :: s) (Int.toNat 0) = e.toNat:=bh e s
 have hel : (e :: s).length = s.length + 1:=rfl
 have hk0 : bt (63 :: k) (Int.toNat 0) = 63:=bh 63 k
 have hkl2 : (63 :: k).length = k.length + 1:=rfl
 rw [hrd]
 by_cases h45 : e.toNat = 45
 ·rw [if_pos h45]
  refine jB [(0,_),(1,_),(2,_),(3,_)] Tryz.func114 Tryz.ntmps114 fun B hok hB hW=>?_
  repeat' (first | refine jM ?_ | (refine jo ?_;first | refine jO fun _=>?_ | refine aq F ?_) | refine al F F F ?_ | (refine ac F (by first | rfl | (refine decide_eq_true ?_;(omega))) ?_) | refine ad F F ?_ | (refine aj (an (id:=10) _ (fun _ h=>h) ai ?_);refine jW 5 [0,3,4] (aa 8 25) ?_;(refine jG (aa 8 27) 1 F (am F F) ?_);refine jA 2 F ?_;(refine jO fun _=>?_);refine jS (aa 8 31) ?_;refine jT 0 [5,6,7] (aa 8 255) ?_;refine jQ ?_))
  rename_i y
  refine Nx.sealC (b:=y) fun G2 hG2 hsy=>?_
  refine jZ (vs:=[_,_,_]) F ⟨F,F,F,trivial⟩ F ⟨hG2,F,?_⟩
  rw [aB]
  exact ⟨_,_,_,F,fun _=>⟨_,y,F,F,.non k y hsy⟩,fun h=>(by cases h)⟩
 rw [if_neg h45]
 by_cases h43 : e.toNat = 43
 ·rw [if_pos h43]
  have cx_rd:=hR G k s h (dx (.inr rfl) hk) oM
  rw [← edn] at cx_rd
  refine jB [(0,_),(1,_),(2,_),(3,_)] Tryz.func114 Tryz.ntmps114 fun B hok hB hW=>?_
  repeat' (first | refine jM ?_ | (refine jo ?_;first | refine jO fun _=>?_ | refine aq F ?_ | refine jV (am F F) ?_ | refine jF fun _=>?_) | refine al F F F ?_ | refine ac F F ?_ | (refine ad F (by first | rfl | (refine decide_eq_false ?_;(omega))) ?_) | (refine aj (an (id:=13) _ (fun _ h=>h) ai ?_);refine jW 9 [1,2,3,4,5,6] (aa 15 126) ?_;(refine jG (aa 15 127) 0 F (bJ F F F F) ?_);refine jA 7 F ?_;(refine aM F F F cx_rd F ?_;rintro _ G hle ⟨q1,r1,ok1,rfl,hyes,hno⟩;skip);refine jS (aa 15 255) ?_;refine jT 0 [8,9,10,11,12,13,14] (aa 15 32767) ?_;refine jQ ?_))
  rename_i y1 y8
  refine Nx.sealC (b:=y1) fun G2 hG2 hs1=>?_
  refine Nx.sealC (b:=y8) fun G3 hG3 hsg=>?_
  refine jZ (vs:=[_,_,_]) F ⟨F,F,F,trivial⟩ F ⟨((hle.trans hG2).trans hG3),F,?_⟩
  rw [aB]
  refine ⟨_,_,_,F,fun hb=>?_,fun hb=>by rw [hno hb];rfl⟩
  obtain ⟨w,wb,rfl,hf,hrep⟩:=hyes hb
  exact ⟨.nd 63 [] 0 [w],y8,F,by rw [hf];rfl,.opt k y8 y1 wb 1 w (Nat.le_refl _) hsg (hs1.mono hG3) (hrep.mono (hG2.trans hG3))⟩
 ·rw [if_neg h43]
  refine jB [(0,_),(1,_),(2,_),(3,_)] Tryz.func114 Tryz.ntmps114 fun B hok hB hW=>?_
  repeat' (first | refine jM ?_ | (refine jo ?_;first | refine jO fun _=>?_ | refine aq F ?_) | refine al F F F ?_ | (refine ac F (by first | rfl | (refine decide_eq_true ?_;(omega))) ?_) | (refine ad F (by first | rfl | (refine decide_eq_false ?_;(omega))) ?_))
  refine jZ (vs:=[_,_,_]) F ⟨F,F,F,trivial⟩ F ⟨Gh.le.refl _,F,?_⟩
  rw [aB]
  exact ⟨_,_,_,F,fun h=>(by cases h),fun _=>rfl⟩
theorem yL {n : Nat} {u : Value} {vs : List bL} {k s : act} {e : UInt8} {t : Ty} (hR : ke n u vs) (h : SchR G u vs) (hw : SchW (af vs)) (hk : aJ (af vs) k = true) (hrf : aX (af vs) k = some t) (hs : s.length ≤ 1999999) (hn : n ≤ 999) :
  bx acs 114 [Ag [u],S (e :: s),S k,I (n + 1 : Nat)] G (ck (af vs) (rd (af vs) (n + 1) k (e :: s)) k):=by
 obtain ⟨r,rfl⟩:=fa hrf
 have hkk:=cQ (c7 hk)
 have hrd : rd (af vs) (n + 1) (64 :: r) (e :: s) = a6 (af vs) (rd (af vs) n) t (e :: s):=by
  rw [rd];unfold eB
  dsimp only
  rw [if_neg (show ¬ (64 : UInt8).toNat = 91 by decide),if_neg (show ¬ (64 : UInt8).toNat = 63 by decide),hrf]
 have hvl : vs.length ≤ 8:=by have:=hw.len;unfold af at this;simpa using this
 have href:=dP vs (64 :: r)
 have cx_rf:=gE (k:=64 :: r) h oM hkk.1 oM
 rcases hr : dU vs (64 :: r) with _ | x
 ·rw [hr,hrf] at href;cases href
 rw [hr] at href cx_rf
 have htx : x.2 = t:=by rw [hrf] at href;exact Option.some.inj href
 subst htx
 have hx:=er hr
 have cx_na : bx acs 153 [Ag [u],S (e :: s),S (64 :: r),I (n + 1 : Nat)] G (ck (af vs) (a6 (af vs) (rd (af vs) n) x.2 (e :: s)) (64 :: r)):=by
  have hso:=(hw.ty _ (List.mem_map_of_mem hx)).sort
  by_cases h1 : x.2.sort = 82 ∧ e.toNat = 123
  ·obtain rfl:=bn h1.2 dC
   exact aax hR h hw hx hrf cx_rf h1.1 hs oM oM
  by_cases h2 : x.2.sort = 69 ∧ e.toNat = 35
  ·obtain rfl:=bn h2.2 dC
   exact aay h hw hx hrf cx_rf h2.1 hs oM
  by_cases h3 : x.2.sort = 85 ∧ e.toNat = 60
  ·obtain rfl:=bn h3.2 dC
   exact aaw hR h hw hx hrf cx_rf h3.1 hs oM
  refine aav h.sl.one cx_rf ?_ oM oM
  rcases hso with h4 | h4 | h4 <;> omega
 have hel : (e :: s).length = s.length + 1:=rfl
 have hk0 : bt (64 :: r) (Int.toNat 0) = 64:=bh 64 r
 have hkl2 : (64 :: r).length = r.length + 1:=rfl
 refine jB [(0,_),(1,_),(2,_),(3,_)] Tryz.func114 Tryz.ntmps114 fun B hok hB hW=>?_
 repeat' (first | refine jM ?_ | (refine jo ?_;first | refine jO fun _=>?_ | refine aq F ?_ | refine aV F ?_ | (refine aM F F F cx_na F ?_;rintro _ G hle ⟨q1,r1,ok1,rfl,hyes,hno⟩;skip)) | refine al F F F ?_ | refine ac F F ?_ | refine ad F F ?_)
 refine jZ (vs:=[_,_,_]) F ⟨F,F,F,trivial⟩ F ⟨hle,F,?_⟩
 rw [aB,hrd]
 exact ⟨_,_,_,F,hyes,hno⟩
theorem yI {n : Nat} {u : Value} {vs : List bL} {s : act} {c e : UInt8} (hu : u.oneCell' = true) (hc : c = 110 ∨ c = 116 ∨ c = 102) (hr : aX (af vs) [c] = none) (hs : s.length ≤ 1999999) (hn : n ≤ 999) :
  bx acs 114 [Ag [u],S (e :: s),S [c],I (n + 1 : Nat)] G (ck (af vs) (rd (af vs) (n + 1) [c] (e :: s)) [c]):=by
 have hrd:=kO (ts:=af vs) (n:=n) (s:=e :: s) hc hr
 have hel : (e :: s).length = s.length + 1:=rfl
 have cx_pl : bx acs 154 [Ag [u],S (e :: s),S [c]] G (ck (af vs) (rd (af vs) (n + 1) [c] (e :: s)) [c]):=by
  rw [hrd]
  rcases hc with rfl | rfl | rfl
  ·rw [if_pos rfl];exact wP hu oM
  ·rw [if_neg dC,if_pos rfl];exact wO hu oM (by simp)
  ·rw [if_neg dC,if_neg dC];exact wQ hu oM
 clear hrd
 rcases hc with rfl | rfl | rfl
 all_goals
  refine jB [(0,_),(1,_),(2,_),(3,_)] Tryz.func114 Tryz.ntmps114 fun B hok hB hW=>?_
  repeat' (first | refine jX ?_ | (refine jo ?_;first | refine jO fun _=>?_ | refine aq F ?_ | refine aV F ?_ | (refine aM F F F cx_pl F ?_;rintro _ G hle ⟨q1,r1,ok1,rfl,hyes,hno⟩;skip)) | refine al F F F ?_ | refine ad F F ?_)
  refine jZ (vs:=[_,_,_]) F ⟨F,F,F,trivial⟩ F ⟨hle,F,?_⟩
  rw [aB]
  exact ⟨_,_,_,F,hyes,hno⟩
theorem jr {u : Value} {vs : List bL} (hw : SchW (af vs)) : ∀ n,n ≤ 1000 → ke n u vs
 | 0,_=>fun G k s _ _ _=>tr (.inr rfl) oM
 | n + 1,hn=>fun G k s h hk hs=>by
  have hR:=jr (u:=u) (vs:=vs) hw n oM
  match s,hs with
  | [],_=>exact tr (.inl F) hn
  | e :: s,hs =>
   simp only [List.length_cons] at hs
   match k,hk with
   | [],hk=>cases hk
   | c :: k,hk =>
    by_cases h1 : c.toNat = 91
    ·obtain rfl:=bn h1 dC
     exact yK hR h hk oM oM
    by_cases h2 : c.toNat = 63
    ·obtain rfl:=bn h2 dC
     exact yJ hR h hk oM oM
    have h91 : ¬ (c.toNat = 91 ∨ c.toNat = 63):=fun h=>by rcases h with h | h <;> omega
    cases hr : aX (af vs) (c :: k) with
    | some t=>exact yL hR h hw hk hr oM oM
    | none =>
     rcases ew hk h91 hr with e1 | e1 | e1
     all_goals
      simp only [List.cons.injEq] at e1
      obtain ⟨rfl,rfl⟩:=e1
      exact yI h.sl.one (by simp) hr oM oM
theorem yQ {s k w : act} (h : s.length ≤ 1048576 ∧ k.length ≤ 1048576 ∧ w.length ≤ 1048576) (hno : eZ s k w = none) : bx acs 79 [S s,S k,S w] G (fun v _=>∃ u q,v = Tu [u,.pointer q,Bo false]):=by
 by_cases hk : cz s k = true
 case neg =>
  have hk2 : cz s k = false:=by simpa using hk
  have cx_lk1 : ∀ G,bx acs 83 [S s,S k] G (fun v _=>∃ u,v = Tu [u,Bo false]):=fun G=>by
   refine (eW (G:=G) (s:=s) (k:=k) oM oM).mono ?_
   rintro v G' L' ⟨h1,h2,u,vs,rfl,_⟩
   exact ⟨h1,h2,u,by rw [hk2]⟩
  refine jB [(0,_),(1,_),(2,_)] Tryz.func79 Tryz.ntmps79 fun B hok hB hW=>?_
  repeat' (first | refine jR ?_ | (refine jo ?_;first | refine aE F ?_ | (refine aM F F F (cx_lk1 _) F ?_;rintro _ G hle ⟨u1,rfl⟩;skip)) | refine aw F F F ?_ | refine ac F F ?_)
  all_goals refine jZ (vs:=[_,_,_]) F ⟨F,F,F,trivial⟩ F ⟨hle,F,?_⟩
  all_goals exact ⟨_,_,F⟩
 obtain ⟨ts,hs,hki,hw⟩:=hY hk
 have hvo : bZ ts k w = none:=by unfold eZ at hno;rw [hs] at hno;dsimp only at hno;rwa [if_pos hki] at hno
 have cx_lka : ∀ G,bx acs 83 [S s,S k] G (fun v G'=>∃ a c vs,v = Tu [.slice a vs.length c,Bo true] ∧ SchR G' (.slice a vs.length c) vs ∧ af vs = ts):=fun G=>by
  refine (eW (G:=G) (s:=s) (k:=k) oM oM).mono ?_
  rintro v G' L' ⟨h1,h2,u,vs,rfl,h4,_,h6⟩
  obtain ⟨_,⟨rfl,h0⟩ | ⟨b,o,cap,rfl,_,_⟩⟩:=h4.sl
  ·exact ⟨h1,h2,none,0,vs,by rw [hk,h0],by rw [h0];exact h4,h6 ts hs hki⟩
  ·exact ⟨h1,h2,_,cap,vs,by rw [hk],h4,h6 ts hs hki⟩
 by_cases hl : w.length ≤ 400
 case neg =>
  refine jB [(0,_),(1,_),(2,_)] Tryz.func79 Tryz.ntmps79 fun B hok hB hW=>?_
  repeat' (first | refine jR ?_ | (refine jo ?_;first | refine aq F ?_ | (refine aM F F F (cx_lka _) F ?_;rintro _ G hle ⟨av1,cv1,vs1,rfl,hR1,hT1⟩;skip)) | refine al F F F ?_ | refine ac F (ar oM) ?_)
  all_goals refine jZ (vs:=[_,_,_]) F ⟨F,F,F,trivial⟩ F ⟨hle,F,?_⟩
  all_goals exact ⟨_,_,F⟩
 refine jB [(0,_),(1,_),(2,_)] Tryz.func79 Tryz.ntmps79 fun B hok hB hW=>?_
 repeat' (first | refine jR ?_ | (refine jo ?_;first | refine aq F ?_ | refine jV (am F F) ?_ | (refine aM F F F (cx_lka _) F ?_;rintro _ G hle ⟨av1,cv1,vs1,rfl,hR1,hT1⟩;skip)) | refine al F F F ?_ | refine ad F (ay oM) ?_)
 have hR:=jr (u:=.slice av1 vs1.length cv1) (vs:=vs1) (by rw [hT1];exact hw) 12 oM G k w hR1 (by rw [hT1];exact hki) oM
 obtain ⟨f,hf⟩ : ∃ f,f = rd (af vs1) 12 k w:=⟨_,rfl⟩
 rw [← hf] at hR
 have cx_rd:=hR
 clear hR
 repeat' (first | refine jR ?_ | (refine jo ?_;first | refine aE F ?_ | refine aq F ?_ | (refine aM F F F cx_rd F ?_;rintro _ G hle ⟨q1,r1,ok1,rfl,hyes,hno⟩;skip)) | refine kq F F (fun _=>?_) (fun _=>?_))
 all_goals rename_i hok
 ·have hr : decide (r1 = []) = false:=decide_eq_false fun h=>by
   obtain ⟨v,b,_,h2,_⟩:=hyes hok
   unfold bZ at hvo
   rw [if_pos hl,← hT1,← hf,h2,h] at hvo
   cases hvo
  refine jZ (vs:=[_,_,_]) F ⟨F,F,F,trivial⟩ F ⟨(Gh.le.trans aS hle),F,?_⟩
  exact ⟨_,_,by rw [hr];rfl⟩
 ·refine jZ (vs:=[_,_,_]) F ⟨F,F,F,trivial⟩ F ⟨(Gh.le.trans aS hle),F,?_⟩
  exact ⟨_,_,F⟩
theorem yP {s k w : act} {v : V} {ts : List Ty} (h : s.length ≤ 1048576 ∧ k.length ≤ 1048576 ∧ w.length ≤ 1048576) (hs : aT s = some ts) (hki : aJ ts k = true) (hvo : bZ ts k w = some v) :
  bx acs 79 [S s,S k,S w] G (fun r G'=>∃ u b,r = Tu [u,Pt b 0,Bo true] ∧ RepR G' ts v k b):=by
 have hw:=ci hs
 have hk : cz s k = true:=by unfold cz;rw [hs];exact hki
 have hl : w.length ≤ 400:=by
  by_cases hl : w.length ≤ 400
  ·exact hl
  ·unfold bZ at hvo;rw [if_neg hl] at hvo;cases hvo
 have h12 : rd ts 12 k w = some (v,[]):=by
  unfold bZ at hvo
  rw [if_pos hl] at hvo
  split at hvo
  ·rename_i v' hv;rw [hv];exact congrArg (fun x=>some (x,[])) (Option.some.inj hvo)
  ·cases hvo
 have cx_lka : ∀ G,bx acs 83 [S s,S k] G (fun v G'=>∃ a c vs,v = Tu [.slice a vs.length c,Bo true] ∧ SchR G' (.slice a vs.length c) vs ∧ af vs = ts):=fun G=>by
  refine (eW (G:=G) (s:=s) (k:=k) oM oM).mono ?_
  rintro v G' L' ⟨h1,h2,u,vs,rfl,h4,_,h6⟩
  obtain ⟨_,⟨rfl,h0⟩ | ⟨b,o,cap,rfl,_,_⟩⟩:=h4.sl
  ·exact ⟨h1,h2,none,0,vs,by rw [hk,h0],by rw [h0];exact h4,h6 ts hs hki⟩
  ·exact ⟨h1,h2,_,cap,vs,by rw [hk],h4,h6 ts hs hki⟩
 refine jB [(0,_),(1,_),(2,_)] Tryz.func79 Tryz.ntmps79 fun B hok hB hW=>?_
 repeat' (first | refine jR ?_ | (refine jo ?_;first | refine aq F ?_ | refine jV (am F F) ?_ | (refine aM F F F (cx_lka _) F ?_;rintro _ G hle ⟨av1,cv1,vs1,rfl,hR1,hT1⟩;skip)) | refine al F F F ?_ | refine ad F (ay oM) ?_)
 subst hT1
 have cx_rd : bx acs 114 [Ag [.slice av1 vs1.length cv1],S w,S k,I (12 : Nat)] G (fun r G'=>∃ b,r = Tu [Pt b 0,S [],Bo true] ∧ RepR G' (af vs1) v k b):=by
  refine (jr (u:=.slice av1 vs1.length cv1) (vs:=vs1) hw 12 oM G k w hR1 hki oM).mono ?_
  rintro r G' L' ⟨h1,h2,q,rest,ok,rfl,h3,h4⟩
  cases ok with
  | false=>rw [h12] at h4;cases h4 rfl
  | true =>
   obtain ⟨v',b,rfl,h5,h6⟩:=h3 rfl
   rw [h12] at h5
   simp only [Option.some.injEq,Prod.mk.injEq] at h5
   obtain ⟨rfl,rfl⟩:=h5
   exact ⟨h1,h2,b,F,h6⟩
 refine jo ?_
 refine aM F F F cx_rd F ?_
 rintro _ G2 hle2 ⟨b,rfl,hrep⟩
 repeat' (first | refine jR ?_ | (refine jo ?_;refine aE F ?_) | refine aw F F F ?_)
 refine jZ (vs:=[_,_,_]) F ⟨F,F,F,trivial⟩ F ⟨(Gh.le.trans hle hle2),F,?_⟩
 exact ⟨_,b,F,hrep⟩
theorem tm {b : Nat} {l : act} (hm : 0 < l.length ∧ l.length ≤ 1000000000) : cx acs 142 [Pt b 0,S l] G [.blk b (.cells (List.toArray [.pointer none,aH]) d7 (0,0))]
  (fun r L'=>∃ b2 c2,r = Tu [I l.length,.nilIface] ∧ L' = [.acc (.slice (some ⟨b2,0,none⟩) l.length (c2 + 1)) gu 1 l.length (bi l),.blk b (.cells (List.toArray [Pt b 0,.slice (some ⟨b2,0,none⟩) l.length (c2 + 1)]) d7 (0,0))]):=by
 refine jH [(0,_),(1,_)] Tryz.func142 Tryz.ntmps142 fun B hB hW=>?_
 repeat' (first | refine jR ?_ | (refine jo ?_;first | refine ak F ?_ | refine aaN F F F oM fun _ _=>?_ | refine jD F F F ?_ | (refine ag F F F xD F ?_;rintro _ _ rfl;dsimp only [zA,fA])))
 exact aO (vs:=[_,_]) F ⟨F,F,trivial⟩ F (List.Sublist.refl _) ⟨F,_,_,F,F⟩
theorem yW {b : Nat} : cx acs 143 [Pt b 0] G [.blk b (.cells (List.toArray [.pointer none,aH]) d7 (0,0))] (fun r L'=>r = S [] ∧ L' = []):=by
 refine jH [(0,_)] Tryz.func143 Tryz.ntmps143 fun B hB hW=>?_
 repeat' (first | refine jR ?_ | (refine aj (an (id:=1) _ (fun _ h=>h) ai ?_);refine jT 6 [0,1,2,5,6,7] (aa 12 231) ?_;(refine jG (aa 12 239) 3 F (aA F F F) ?_);(refine jG (aa 12 255) 4 F (yf F) ?_);(refine jG (aa 12 511) 8 F (aA F F F) ?_);(refine jG (aa 12 1023) 9 F (ao F) ?_);(refine jG (aa 12 2047) 10 F (ya F F) ?_);refine jT 0 [11] (aa 12 4095) ?_;refine jQ ?_))
 refine jZ (vs:=[_]) F ⟨F,trivial⟩ F ⟨F,F,?_⟩
 rfl
def mt (b : Nat) (q : Option (Nat × Nat)) (l : act) : List Own:=match q with
 | none=>[.blk b (.cells (List.toArray [.pointer none,aH]) d7 (0,0))]
 | some (b2,c2)=>[.acc (.slice (some ⟨b2,0,none⟩) l.length (c2 + 1)) gu 1 l.length (bi l),.blk b (.cells (List.toArray [Pt b 0,.slice (some ⟨b2,0,none⟩) l.length (c2 + 1)]) d7 (0,0))]
theorem tK {b b2 c2 : Nat} {l m : act} {L : List Own} : (Own.acc (.slice (some ⟨b2,0,none⟩) (l.length + m.length) (c2 + 1)) gu 1 (l.length + m.length) (bi l ++ bi m) :: .blk b (.cells (List.toArray [Pt b 0,.slice (some ⟨b2,0,none⟩) (l.length + m.length) (c2 + 1)]) d7 (0,0)) :: L) =
  Own.acc (.slice (some ⟨b2,0,none⟩) (l ++ m).length (c2 + 1)) gu 1 (l ++ m).length (bi (l ++ m)) :: .blk b (.cells (List.toArray [Pt b 0,.slice (some ⟨b2,0,none⟩) (l ++ m).length (c2 + 1)]) d7 (0,0)) :: L:=by
 simp [bi]
theorem iK {w : Nat} {x : act} {t : Int} {a : Option Addr} {k : Nat} (hw : sO w x t []) (h : w = 110 ∨ w = 116 ∨ w = 102 ∨ w = 69) (hx : x.length ≤ 100000) : av acs 100 [Ag [U8 (w : Nat),S x,I t,.slice a ([] : List V).length k]] G (· = S (V.nd w x t []).bys):=by
 have hty:=o5 hw
 unfold sO at hw
 rcases h with rfl | rfl | rfl | rfl
 ·simp only [Nat.reduceEqDiff,false_and,or_false,true_and] at hw
  obtain ⟨rfl,m,hm0,hm1,hx1,hnum0⟩:=hw
  have cx_pnB:=gY (G:=G) (s:=x) (top:=999999) oM
  refine jE [(0,_)] Tryz.func100 Tryz.ntmps100 fun B hB=>?_
  repeat' (first | refine jR ?_ | (refine jo ?_;first | refine jO fun _=>?_ | refine ak F ?_ | (refine c8 F F F (e7 oM) F ?_;rintro _ ⟨n,rfl,hnum⟩)) | refine ac F F ?_)
  obtain rfl:=hnum _ hnum0
  repeat' (first | refine jR ?_ | (refine jo ?_;refine ab F F F (fz oM) F ?_))
  refine jY (vs:=[_]) ?_
  rw [ax,V.bys];simp [f9,hnum0]
 ·refine jE [(0,_)] Tryz.func100 Tryz.ntmps100 fun B hB=>?_
  repeat' (first | refine jR ?_ | (refine jo ?_;first | refine jO fun _=>?_ | refine ak F ?_ | refine ab F F F (py oM) F ?_) | refine ac F F ?_ | refine ad F F ?_)
  refine jY (vs:=[_]) ?_
  rw [ax,V.bys];rfl
 ·simp only [Nat.reduceEqDiff,false_and,or_false,true_and,false_or] at hw
  obtain ⟨rfl,rfl | rfl⟩:=hw
  all_goals
   refine jE [(0,_)] Tryz.func100 Tryz.ntmps100 fun B hB=>?_
   repeat' (first | refine jR ?_ | (refine jo ?_;first | refine jO fun _=>?_ | refine ak F ?_) | refine ac F F ?_ | refine ad F F ?_)
   refine jY (vs:=[_]) ?_
   rw [ax,V.bys];rfl
 ·have h7 : (aK t).length ≤ 3:=b8 oM
  refine jE [(0,_)] Tryz.func100 Tryz.ntmps100 fun B hB=>?_
  repeat' (first | refine jR ?_ | (refine jo ?_;first | refine jO fun _=>?_ | refine ak F ?_ | refine ab F F F (fz oM) F ?_) | refine ac F F ?_ | refine ad F F ?_)
  refine jY (vs:=[_]) ?_
  rw [ax,V.bys];rfl
theorem uB {a : Option Addr} {k : Nat} : av acs 100 [Ag [U8 (63 : Nat),S [],I 0,.slice a ([] : List V).length k]] G (· = S (V.nd 63 [] 0 []).bys):=by
 refine jE [(0,_)] Tryz.func100 Tryz.ntmps100 fun B hB=>?_
 repeat' (first | refine jR ?_ | (refine jo ?_;first | refine jO fun _=>?_ | refine ak F ?_ | refine jV (ao F) ?_) | refine ac F F ?_ | refine ad F F ?_)
 refine jY (vs:=[_]) ?_
 rw [ax,V.bys];rfl
theorem vZ {w : Nat} {t : Int} {u : V} {b o k : Nat} {d : VC} (h : w = 63 ∨ w = 85 ∨ w = 61) (ht : 0 ≤ t ∧ t ≤ 200) (cx_bys : av acs 100 [Ag (b7 d)] G (· = S u.bys)) (hbl : u.bys.length ≤ 100000) (hs : cM G b o (b7 d)) :
  av acs 100 [Ag [U8 (w : Nat),S [],I t,.slice (some ⟨b,o,none⟩) 1 k]] G (· = S (V.nd w [] t [u]).bys):=by
 have hn3:=b8 (n:=t) oM
 have hn4:=b8 (n:=(u.bys.length : Nat)) oM
 have e1 : (V.nd w [] t [u]).bys = f9 w [] t 1 u.bys:=by rw [V.bys];simp [V.byss]
 rw [e1]
 rcases h with rfl | rfl | rfl
 all_goals
  refine jE [(0,_)] Tryz.func100 Tryz.ntmps100 fun B hB=>?_
  repeat' (first | refine jX ?_ | (refine jo ?_;first | refine jO fun _=>?_ | refine ak F ?_ | refine jV (ve F F aS F F F) ?_ | refine jV (ao F) ?_ | refine jV (aQ F F oM) ?_ | refine ab F F F cx_bys F ?_) | refine ac F F ?_ | refine ad F F ?_ | (refine aj (an (id:=28) _ (fun _ h=>h) ai ?_);refine jT 9 [0,3] (aa 11 9) ?_;(refine jG (aa 11 11) 1 F (aA F F F) ?_);(refine jG (aa 11 27) 4 F (aA F F F) ?_);(refine jG (aa 11 59) 5 F (aQ F F oM) ?_);(refine jG (aa 11 123) 6 F (ve F F aS F F F) ?_);refine jA 2 F ?_;(refine ab F F F (fz oM) F ?_);refine jS (aa 11 127) ?_;refine jA 7 F ?_;(refine ab F F F cx_bys F ?_);refine jS (aa 11 255) ?_;refine jA 8 F ?_;(refine ab F F F (py oM) F ?_);refine jS (aa 11 511) ?_;refine jW 0 [9,10] (aa 11 2047) ?_;refine jQ ?_))
  refine jY (vs:=[_]) ?_
  rw [ax];rfl
theorem v3 {ks : List V} {cs : List VC} {a : Option Addr} {k : Nat} (hk : ks.length ≤ 100000) (hcl : cs.length = ks.length) (hsl : a8 G (.slice a ks.length k) 4 cs.length (aI b7 cs)) (hfl : (V.byss ks).flatten.length ≤ 100000)
  (ih : ∀ i,i < ks.length → av acs 100 [Ag (b7 (ae cs i))] G (· = S (ae ks i).bys) ∧ (ae ks i).bys.length ≤ 100000) :
  av acs 100 [Ag [U8 (91 : Nat),S [],I 0,.slice a ks.length k]] G (· = S (V.nd 91 [] 0 ks).bys):=by
 have hkp:=eT ks.length
 have hk3:=b8 (n:=ks.length) oM
 have hnp : 0 < (aK ks.length).length ∧ (aK ks.length).length ≤ 1000000000:=oM
 refine jE [(0,_)] Tryz.func100 Tryz.ntmps100 fun B hB=>?_
 repeat' (first | refine jR ?_ | (refine jo ?_;first | refine jO fun _=>?_ | refine ak F ?_ | refine jL fun _=>?_ | refine jV (ao F) ?_ | refine ab F F F (fz oM) F ?_ | (refine ag F F F (tm oM) F ?_;rintro _ _ ⟨b3,c3,rfl,rfl⟩;dsimp only [zA,fA])) | refine ac F F ?_ | refine ad F F ?_)
 rename_i bv bb
 refine aR (ι:=Nat × Nat × Nat × act) (fun q=>q.1 ≤ ks.length ∧ q.2.2.2 = aK (ks.length : Nat) ++ ((V.byss ks).take q.1).flatten) (fun q=>[(5,Pt bb 0),(41,.slice a ks.length k),(42,I ks.length),(43,I q.1)]) (fun _=>G) (fun q=>[.acc (.slice (some ⟨q.2.1,0,none⟩) q.2.2.2.length (q.2.2.1 + 1)) gu 1 q.2.2.2.length (bi q.2.2.2),.blk bb (.cells (List.toArray [Pt bb 0,.slice (some ⟨q.2.1,0,none⟩) q.2.2.2.length (q.2.2.1 + 1)]) d7 (0,0)),.blk bv (.cells (List.toArray [U8 (91 : Nat),S [],I 0,.slice a ks.length k]) iv (0,0))]) (fun q=>ks.length - q.1) (0,b3,c3,aK (ks.length : Nat)) ?_ tU F aW (fun q Hq=>?_)
 ·exact ⟨Nat.zero_le _,by simp⟩
 obtain ⟨i,b2,c2,l⟩:=q
 dsimp only at Hq ⊢
 obtain ⟨hi0,hl⟩:=Hq
 have hj1:=j0 ks i
 have hll : l.length ≤ 200000:=by rw [hl,List.length_append];omega
 by_cases hi : i < ks.length
 ·obtain ⟨cx_bys,hbl⟩:=ih i hi
  obtain ⟨bf,of,cf,e,hs⟩:=hsl.expl oM
  simp only [Value.slice.injEq] at e
  obtain ⟨rfl,-,rfl⟩:=e
  have hm9 : l.length + (ae ks i).bys.length ≤ 1000000000:=oM
  repeat' (first | refine jM ?_ | (refine jo ?_;first | (refine jV (dD F F aS ?_) ?_;focus omega) | refine aV F ?_ | refine jL fun _=>?_ | refine jV (aD F F oM) ?_ | refine jC F F F ?_ | (refine lu F F F (oP (by (repeat (assumption));done)) rfl ?_;rintro _ _ ⟨b3,c3,rfl,rfl⟩;dsimp only [zA,fA]) | refine ab F F F cx_bys F ?_) | refine ac F (ar oM) ?_)
  rw [tK]
  exact aY (i + 1,_,_,l ++ (ae ks i).bys) ⟨by dsimp only;omega,by dsimp only;rw [hl,j3 hi,List.append_assoc]⟩ (by dsimp only;omega) tU rfl sB
 ·have hin : i = ks.length:=oM
  subst hin
  rw [← g6,List.take_length] at hl
  repeat' (first | refine jR ?_ | (refine jo ?_;(refine lu F F F (r7 oM) F ?_;rintro _ _ ⟨rfl,rfl⟩;dsimp only [zA,fA])) | refine ad F (ay oM) ?_)
  refine jY (vs:=[_]) ?_
  rw [ax,V.bys,hl,g6];rfl
theorem vY {ks : List V} {cs : List VC} {a : Option Addr} {k : Nat} (hk : ks.length ≤ 100000) (hcl : cs.length = ks.length) (hsl : a8 G (.slice a ks.length k) 4 cs.length (aI b7 cs)) (hfl : (V.byss ks).flatten.length ≤ 100000)
  (ih : ∀ i,i < ks.length → av acs 100 [Ag (b7 (ae cs i))] G (· = S (ae ks i).bys) ∧ 0 < (ae ks i).bys.length ∧ (ae ks i).bys.length ≤ 100000) :
  av acs 100 [Ag [U8 (82 : Nat),S [],I 0,.slice a ks.length k]] G (· = S (V.nd 82 [] 0 ks).bys):=by
 refine jE [(0,_)] Tryz.func100 Tryz.ntmps100 fun B hB=>?_
 repeat' (first | refine jR ?_ | (refine jo ?_;first | refine jO fun _=>?_ | refine ak F ?_ | refine jL fun _=>?_ | refine jV (ao F) ?_) | refine ad F F ?_)
 rename_i bv bb
 refine aR (ι:=Nat × Option (Nat × Nat) × act) (fun q=>q.1 ≤ ks.length ∧ q.2.2 = ((V.byss ks).take q.1).flatten ∧ (q.2.1 = none → q.2.2 = [])) (fun q=>[(8,Pt bb 0),(83,.slice a ks.length k),(84,I ks.length),(85,I q.1)]) (fun _=>G) (fun q=>mt bb q.2.1 q.2.2 ++ [.blk bv (.cells (List.toArray [U8 (82 : Nat),S [],I 0,.slice a ks.length k]) iv (0,0))]) (fun q=>ks.length - q.1) (0,none,[]) ?_ tU F (by dsimp only [mt];repeat (exact List.Sublist.refl _)) (fun q Hq=>?_)
 ·exact ⟨Nat.zero_le _,by simp,fun _=>rfl⟩
 obtain ⟨i,q,l⟩:=q
 dsimp only at Hq ⊢
 obtain ⟨hi0,hl,hl0⟩:=Hq
 have hj1:=j0 ks i
 have hll : l.length ≤ 200000:=by rw [hl];omega
 by_cases hi : i < ks.length
 ·obtain ⟨cx_bys,hbl⟩:=ih i hi
  obtain ⟨bf,of,cf,e,hs⟩:=hsl.expl oM
  simp only [Value.slice.injEq] at e
  obtain ⟨rfl,-,rfl⟩:=e
  have hm9 : l.length + (ae ks i).bys.length ≤ 1000000000:=oM
  have hbl0 : 0 < (ae ks i).bys.length ∧ (ae ks i).bys.length ≤ 1000000000:=oM
  have hfn:=j3 hi
  rw [← hl] at hfn
  cases q with
  | none =>
   obtain rfl:=hl0 rfl
   simp only [mt,List.cons_append,List.nil_append]
   repeat' (first | refine jM ?_ | (refine jo ?_;first | (refine jV (dD F F aS ?_) ?_;focus omega) | refine aV F ?_ | refine jL fun _=>?_ | refine jV (aD F F oM) ?_ | refine jC F F F ?_ | (refine ag F F F (tm oM) F ?_;rintro _ _ ⟨b3,c3,rfl,rfl⟩;dsimp only [zA,fA]) | refine ab F F F cx_bys F ?_) | refine ac F (ar oM) ?_)
   exact aY (i + 1,some (_,_),(ae ks i).bys) ⟨by dsimp only;omega,by dsimp only;rw [hfn];rfl,fun h=>(by cases h)⟩ (by dsimp only;omega) tU rfl (by dsimp only [mt];repeat (first | exact List.Sublist.refl _ | apply List.Sublist.cons_cons | apply List.Sublist.cons))
  | some q =>
   obtain ⟨b2,c2⟩:=q
   simp only [mt,List.cons_append,List.nil_append]
   repeat' (first | refine jM ?_ | (refine jo ?_;first | (refine jV (dD F F aS ?_) ?_;focus omega) | refine aV F ?_ | refine jL fun _=>?_ | refine jV (aD F F oM) ?_ | refine jC F F F ?_ | (refine lu F F F (oP (by (repeat (assumption));done)) rfl ?_;rintro _ _ ⟨b3,c3,rfl,rfl⟩;dsimp only [zA,fA]) | refine ab F F F cx_bys F ?_) | refine ac F (ar oM) ?_)
   rw [tK]
   exact aY (i + 1,some (_,_),l ++ (ae ks i).bys) ⟨by dsimp only;omega,by dsimp only;rw [hfn],fun h=>(by cases h)⟩ (by dsimp only;omega) tU rfl (by dsimp only [mt];repeat (first | exact List.Sublist.refl _ | apply List.Sublist.cons_cons | apply List.Sublist.cons))
 ·have hin : i = ks.length:=oM
  subst hin
  rw [← g6,List.take_length] at hl
  have e2 : (V.nd 82 [] 0 ks).bys = l ++ [0]:=by rw [V.bys,hl];rfl
  rw [e2]
  cases q with
  | none =>
   obtain rfl:=hl0 rfl
   simp only [mt,List.cons_append,List.nil_append]
   repeat' (first | refine jX ?_ | (refine jo ?_;(refine ag F F F yW F ?_;rintro _ _ ⟨rfl,rfl⟩;dsimp only [zA,fA])) | refine ad F (ay oM) ?_)
   refine jY (vs:=[_]) ?_
   rw [ax];rfl
  | some q =>
   obtain ⟨b2,c2⟩:=q
   simp only [mt,List.cons_append,List.nil_append]
   repeat' (first | refine jX ?_ | (refine jo ?_;(refine lu F F F (r7 oM) F ?_;rintro _ _ ⟨rfl,rfl⟩;dsimp only [zA,fA])) | refine ad F (ay oM) ?_)
   refine jY (vs:=[_]) ?_
   rw [ax]
theorem abM : ∀ (n : Nat) {v : V} {c : VC},v.tot ≤ n → v.tot ≤ 100000 → v.wf → V.rep G v c → av acs 100 [Ag (b7 c)] G (· = S v.bys):=by
 intro n
 induction n with
 | zero=>intro v c h1 _ _ _;have:=iQ v;omega
 | succ n ih =>
  intro v c h1 h2 hwf h
  obtain ⟨w,x,t,ks⟩:=v
  rw [V.wf] at hwf
  obtain ⟨hwf,hwk⟩:=hwf
  have hty:=o5 hwf
  rw [bU] at h1 h2
  obtain ⟨a,k,cs,rfl,hw,ht,h61,hcl,hsl,hks⟩:=mC h
  have hkl:=d6 ks
  have hfl:=ip ks hwk oM
  have hK : ∀ i,i < ks.length → av acs 100 [Ag (b7 (ae cs i))] G (· = S (ae ks i).bys) ∧ 0 < (ae ks i).bys.length ∧ (ae ks i).bys.length ≤ 100000:=fun i hi=>by
   have hti:=gc hi
   have hwi:=qF hwk hi
   have hbl:=iX _ hwi oM
   exact ⟨ih oM oM hwi (i5 hks i hi),oM,oM⟩
  have h1K : ks.length = 1 → (w = 63 ∨ w = 85 ∨ w = 61) → x = [] → av acs 100 [Ag (b7 ⟨w,x,t,a,ks.length,k⟩)] G (· = S (V.nd w x t ks).bys):=fun hk1 hw3 hx=>by
   obtain ⟨hk0,_,hk0l⟩:=hK 0 oM
   obtain ⟨bf,of,cf,e,hs⟩:=hsl.expl oM
   simp only [Value.slice.injEq] at e
   obtain ⟨rfl,-,rfl⟩:=e
   obtain ⟨u,rfl⟩:=List.length_eq_one_iff.1 hk1
   obtain ⟨d,rfl⟩:=List.length_eq_one_iff.1 (show cs.length = 1 by rw [hcl];rfl)
   subst hx
   exact vZ hw3 hty hk0 hk0l hs
  rcases hwf with h7 | h7 | h7 | ⟨rfl,rfl,rfl,hk20,hk61⟩ | ⟨rfl,rfl,rfl,hk1,hk61⟩ | h7 | ⟨rfl,rfl,_,_,hk1,_⟩ | ⟨rfl,rfl,_,_,hk1,_⟩ | ⟨rfl,rfl,rfl,hpw,hka⟩
  ·obtain ⟨rfl,rfl,h8⟩:=h7
   exact iK (.inl ⟨F,F,h8⟩) (.inl F) (by dsimp only;omega)
  ·obtain ⟨rfl,rfl,h8⟩:=h7
   exact iK (.inr (.inl ⟨F,F,h8⟩)) (.inr (.inl F)) (by dsimp only;omega)
  ·obtain ⟨rfl,rfl,h8⟩:=h7
   exact iK (.inr (.inr (.inl ⟨F,F,h8⟩))) (.inr (.inr (.inl F))) (by dsimp only;omega)
  ·exact v3 oM hcl hsl oM fun i hi=>⟨(hK i hi).1,(hK i hi).2.2⟩
  ·by_cases hk0 : ks.length = 0
   ·obtain rfl:=List.eq_nil_of_length_eq_zero hk0
    exact uB
   ·exact h1K oM (.inl F) F
  ·obtain ⟨rfl,rfl,h8,h9,rfl⟩:=h7
   exact iK (.inr (.inr (.inr (.inr (.inr (.inl ⟨F,F,h8,h9,F⟩)))))) (.inr (.inr (.inr F))) (by simp)
  ·exact h1K hk1 (.inr (.inl F)) F
  ·exact h1K hk1 (.inr (.inr F)) F
  ·exact vY oM hcl hsl oM fun i hi=>⟨(hK i hi).1,(hK i hi).2.1,(hK i hi).2.2⟩
theorem tC {s : act} (h : s.length ≤ 999999) : av acs 87 [S s] G (· = S (aK s.length ++ s)):=by
 have hl:=b8 (n:=s.length) oM
 refine jE [(0,_)] Tryz.func87 Tryz.ntmps87 fun B hB=>?_
 repeat' (first | refine jM ?_ | (refine jo ?_;refine ab F F F (dk oM) F ?_))
 refine jY (vs:=[_]) ?_
 rfl
theorem zd {x : act} {t : Int} {ks : List V} (h : V.wf (.nd 110 x t ks)) : ∃ m : Int,0 ≤ m ∧ m ≤ 999999 ∧ aL x 999999 = some m:=by
 rw [V.wf] at h
 have h1:=h.1
 unfold sO at h1
 simp only [Nat.reduceEqDiff,false_and,or_false,true_and] at h1
 obtain ⟨_,_,m,h2,h3,_,h4⟩:=h1
 exact ⟨m,h2,h3,h4⟩
theorem kv {w : Nat} {x : act} {t : Int} {ks : List V} (h : V.wf (.nd w x t ks)) : V.wfs ks:=by rw [V.wf] at h;exact h.2
theorem wk {b cc : Nat} {v : Value} (h0 : 1 ≤ cc) (h : cM G b 0 [v]) : a8 G (.slice (some ⟨b,0,none⟩) 1 cc) 1 1 [v]:=⟨rfl,.inr ⟨b,0,cc,rfl,h0,h⟩⟩
theorem xP {b tc : Nat} {v : Value} (h : cM G b 0 [v]) : a8 G (.slice (some ⟨b,0,none⟩) 1 (tc + 1)) 1 1 [v]:=⟨rfl,.inr ⟨b,0,tc + 1,rfl,oM,h⟩⟩
theorem v4 {r tx : act} {b : Nat} {tg : List Int} {bs : List Nat} {KS : List V} {a a2 : Option Addr} {c c2 m : Nat} (hm : m = KS.length) (hm9 : m ≤ 100000) (htx : tx = [82] ∨ tx = [85]) (h2 : cM G b 0 [S (64 :: r),S tx,.slice a m c,.slice a2 m c2])
  (h3 : a8 G (.slice a m c) 1 m (aI gk tg)) (h4 : a8 G (.slice a2 m c2) 1 m (aI eC bs)) (htl : tg.length = m) (hbl : bs.length = m) (hfl : (V.byss KS).flatten.length ≤ 100000)
  (hk : ∀ i,i < m → ∃ u,ae KS i = V.nd 61 [] (ae tg i) [u] ∧ av acs 48 [Pt (ae bs i) 0] G (· = S u.bys) ∧ u.bys.length ≤ 100000 ∧ 0 ≤ ae tg i ∧ ae tg i ≤ 999999) :
  av acs 48 [Pt b 0] G (· = S ((V.byss KS).flatten ++ if tx = [82] then [0] else [])):=by
 refine jE [(0,_)] Tryz.func48 Tryz.ntmps48 fun B hB=>?_
 repeat' (first | refine jX ?_ | (refine jo ?_;refine jV (aG F F aS F F) ?_) | refine ad F F ?_)
 refine aR (ι:=Nat) (fun i=>i ≤ m) (fun i=>[(0,Pt b 0),(7,S (((V.byss KS).take i).flatten)),(8,I i)]) (fun _=>G) (fun i=>[]) (fun i=>m - i) 0 ?_ tU F aW (fun i Hi=>?_)
 ·exact Nat.zero_le _
 have hj1:=j0 KS i
 by_cases hi : i < m
 ·obtain ⟨u,hu1,cx_bys,hu2,hu3⟩:=hk i hi
  have hn3:=b8 hu3.2
  have hn4:=b8 (n:=(u.bys.length : Nat)) oM
  have hfn:=j3 (ks:=KS) (i:=i) oM
  have hub : (V.nd 61 [] (ae tg i) [u]).bys = aK (ae tg i) ++ (aK u.bys.length ++ u.bys):=by rw [V.bys];simp [V.byss,f9]
  rw [hu1,hub] at hfn
  have hxt : ae tg i = ae tg i:=rfl
  have hxi : ae bs i = ae bs i:=rfl
  obtain ⟨tgb,to,tc,e,hs1⟩:=h3.expl oM
  simp only [Value.slice.injEq] at e
  obtain ⟨rfl,-,rfl⟩:=e
  obtain ⟨kb,ko,kc,e,hs2⟩:=h4.expl oM
  simp only [Value.slice.injEq] at e
  obtain ⟨rfl,-,rfl⟩:=e
  repeat' (first | refine jX ?_ | (refine jo ?_;first | refine jV (aG F F aS F F) ?_ | (refine jV (fJ F F aS ?_ aS F) ?_;focus omega) | refine jV (ao F) ?_ | refine jV (aD F F oM) ?_ | refine ab F F F (dk oM) F ?_ | refine ab F F F (tC oM) F ?_ | refine ab F F F cx_bys F ?_) | refine ac F (ar oM) ?_)
  refine Nx.re (d:=7) (v':=S (((V.byss KS).take (i + 1)).flatten)) F (congrArg (fun l=>S l) ?_) ?_
  ·rw [hfn];simp
  exact aY (i + 1) oM oM tU F aW
 ·have hin : i = KS.length:=oM
  subst hin
  have hfe : (V.byss KS).take KS.length = V.byss KS:=by rw [← g6,List.take_length]
  rw [hfe]
  rcases htx with rfl | rfl
  all_goals
   repeat' (first | refine jX ?_ | (refine jo ?_;first | refine jV (aG F F aS F F) ?_ | refine jF fun _=>?_ | refine jV (dc F F (by (repeat (first | exact BL.nil | apply BL.lit rfl));done)) ?_ | refine jV (ao F) ?_) | refine ac F F ?_ | (refine ad F (by first | rfl | (refine decide_eq_false ?_;(omega))) ?_))
   refine jY (vs:=[_]) ?_
   rw [ax];first | rfl | (simp;done)
theorem v5 {ts : List Ty} (hw : SchW ts) {v : V} {k : act} {b : Nat} (h : RepR G ts v k b) : v.wf → v.tot ≤ 100000 → av acs 48 [Pt b 0] G (· = S v.bys):=by
 induction h with
 | leaf w x k tx b h1 h2 =>
  intro hwf ht
  rw [bU] at ht
  rcases h2 with ⟨rfl,rfl,rfl,_⟩ | ⟨rfl,rfl,rfl⟩ | ⟨rfl,rfl,rfl,rfl | rfl⟩
  ·obtain ⟨m,hm0,hm1,hnum0⟩:=zd hwf
   refine jE [(0,_)] Tryz.func48 Tryz.ntmps48 fun B hB=>?_
   repeat' (first | refine jX ?_ | (refine jo ?_;first | refine jV (aG F F aS F F) ?_ | (refine c8 F F F (gZ oM) F ?_;rintro _ ⟨n,rfl,hnum⟩)) | refine ac F F ?_)
   obtain rfl:=hnum _ hnum0
   repeat' (first | refine jR ?_ | (refine jo ?_;refine ab F F F (dk oM) F ?_))
   refine jY (vs:=[_]) ?_
   rw [ax,V.bys];simp [f9,hnum0]
  ·have htl : (39 :: (x ++ [39])).length = x.length + 2:=by simp
   have hdt : ∀ n : Nat,n = x.length → ((39 :: (x ++ [39])).take (1 + n)).drop 1 = x:=fun n hn=>by rw [hn,Nat.add_comm,List.take_succ_cons,List.drop_succ_cons,List.drop_zero,List.take_left]
   generalize 39 :: (x ++ [39]) = tx at *
   refine jE [(0,_)] Tryz.func48 Tryz.ntmps48 fun B hB=>?_
   repeat' (first | refine jX ?_ | (refine jo ?_;refine jV (aG F F aS F F) ?_) | refine ac F F ?_ | refine ad F F ?_ | (refine aj (an (id:=6) _ (fun _ h=>h) ai ?_);refine jT 7 [0,1,2,4,5,6] (aa 13 119) ?_;(refine jG (aa 13 127) 3 F (aG F F aS F F) ?_);(refine jG (aa 13 255) 7 F (aG F F aS F F) ?_);refine jW 2 [8,9,10] (aa 13 2047) ?_;refine jA 11 F ?_;((refine ab F F F (tC ?_) F ?_;(focus ((simp;omega);done))));refine jS (aa 13 4095) ?_;refine jT 0 [12] (aa 13 8191) ?_;refine jQ ?_))
   refine jY (vs:=[_]) ?_
   have e3 : (tx.take (((tx.length : Nat) : Int) - 1).toNat).drop (Int.toNat 1) = x:=by
    rw [show (((tx.length : Nat) : Int) - 1).toNat = 1 + x.length by omega];exact hdt _ F
   rw [ax,e3,V.bys];rfl
  ·refine jE [(0,_)] Tryz.func48 Tryz.ntmps48 fun B hB=>?_
   repeat' (first | refine jX ?_ | (refine jo ?_;first | refine jV (aG F F aS F F) ?_ | refine jF fun _=>?_ | refine jV (dc F F (by (repeat (first | exact BL.nil | apply BL.cons));done)) ?_) | refine ac F F ?_ | refine ad F F ?_)
   refine jY (vs:=[_]) ?_
   rw [ax,V.bys];rfl
  ·refine jE [(0,_)] Tryz.func48 Tryz.ntmps48 fun B hB=>?_
   repeat' (first | refine jX ?_ | (refine jo ?_;first | refine jV (aG F F aS F F) ?_ | refine jF fun _=>?_ | refine jV (dc F F (by (repeat (first | exact BL.nil | apply BL.cons));done)) ?_) | refine ac F F ?_ | refine ad F F ?_)
   refine jY (vs:=[_]) ?_
   rw [ax,V.bys];rfl
 | lst k b ks bs a c h1 h2 h3 hk ih =>
  intro hwf ht
  rw [bU] at ht
  have hwk:=kv hwf
  have hkl:=d6 ks
  have hk3:=b8 (n:=ks.length) oM
  have hfl:=ip ks hwk oM
  refine jE [(0,_)] Tryz.func48 Tryz.ntmps48 fun B hB=>?_
  repeat' (first | refine jX ?_ | (refine jo ?_;first | refine jV (aG F F aS F F) ?_ | refine jV (ao F) ?_ | refine ab F F F (dk oM) F ?_) | refine ac F F ?_ | refine ad F F ?_)
  refine Nx.re (d:=5) (v':=S (aK ks.length ++ ((V.byss ks).take 0).flatten)) F (congrArg (fun l=>S l) (by simp)) ?_
  refine aR (ι:=Nat) (fun i=>i ≤ ks.length) (fun i=>[(0,Pt b 0),(5,S (aK ks.length ++ ((V.byss ks).take i).flatten)),(6,I i)]) (fun _=>G) (fun i=>[]) (fun i=>ks.length - i) 0 ?_ tU F aW (fun i Hi=>?_)
  ·exact Nat.zero_le _
  have hj1:=j0 ks i
  by_cases hi : i < ks.length
  ·have hti:=gc hi
   have hwi:=qF hwk hi
   have cx_bys:=ih i hi hwi oM
   have hbl:=iX _ hwi oM
   have hxi : ae bs i = ae bs i:=rfl
   obtain ⟨kb,ko,kc,e,hs⟩:=h2.expl oM
   simp only [Value.slice.injEq] at e
   obtain ⟨rfl,-,rfl⟩:=e
   repeat' (first | refine jX ?_ | (refine jo ?_;first | refine jV (aG F F aS F F) ?_ | (refine jV (fJ F F aS ?_ aS F) ?_;focus omega) | refine jV (ao F) ?_ | refine jV (aD F F oM) ?_ | refine ab F F F cx_bys F ?_) | refine ac F (ar oM) ?_)
   refine Nx.re (d:=5) (v':=S (aK ks.length ++ ((V.byss ks).take (i + 1)).flatten)) F (congrArg (fun l=>S l) (by rw [j3 hi];simp)) ?_
   exact aY (i + 1) oM oM tU F aW
  ·have hin : i = ks.length:=oM
   subst hin
   repeat' (first | refine jR ?_ | (refine jo ?_;first | refine jV (aG F F aS F F) ?_ | refine jV (ao F) ?_) | refine ad F (ay oM) ?_)
   refine jY (vs:=[_]) ?_
   rw [ax,V.bys,← g6,List.take_length];rfl
 | non k b h1 =>
  intro _ _
  refine jE [(0,_)] Tryz.func48 Tryz.ntmps48 fun B hB=>?_
  repeat' (first | refine jX ?_ | (refine jo ?_;first | refine jV (aG F F aS F F) ?_ | refine jF fun _=>?_ | refine jV (dc F F (by (repeat (first | exact BL.nil | apply BL.lit rfl));done)) ?_ | refine jV (ao F) ?_) | refine ac F F ?_ | refine ad F F ?_)
  refine jY (vs:=[_]) ?_
  rfl
 | opt k b kb b' cc v h0 h1 h2 h3 ih =>
  intro hwf ht
  simp only [bU,V.tots] at ht
  have hwv:=(kv hwf).1
  have cx_bys:=ih hwv oM
  have hbl:=iX _ hwv oM
  refine jE [(0,_)] Tryz.func48 Tryz.ntmps48 fun B hB=>?_
  repeat' (first | refine jX ?_ | (refine jo ?_;first | refine jV (aG F F aS F F) ?_ | refine jV (ao F) ?_) | refine ac F F ?_ | refine ad F F ?_ | (refine aj (an (id:=19) _ (fun _ h=>h) ai ?_);refine jT 8 [2,3,4] (aa 11 28) ?_;(refine jG (aa 11 60) 5 F (aG F F aS F F) ?_);(refine jG (aa 11 124) 6 F (aQ F F oM) ?_);(refine jG (aa 11 252) 7 F (aG F F aS F F) ?_);refine cy [0,8] kR dC ⟨?_,?_,trivial⟩;(focus (refine a9 F F ?_;(refine jF fun _=>?_);refine jS (aa 11 253) ?_;((refine jG (aa 11 255) 1 F (dc F F (by (repeat (first | exact BL.nil | apply BL.lit rfl));done)) ?_));refine jA 8 F ?_;(refine ab F F F cx_bys F ?_);refine jS (aa 11 511) ?_;refine jW 0 [9,10] (aa 11 2047) ?_;refine jQ ?_));rotate_left 1;(focus (refine a9 F F ?_;(refine ab F F F cx_bys F ?_);refine jS (aa 11 508) ?_;refine jA 0 F ?_;(refine jF fun _=>?_);refine jS (aa 11 509) ?_;((refine jG (aa 11 511) 1 F (dc F F (by (repeat (first | exact BL.nil | apply BL.lit rfl));done)) ?_));refine jW 0 [9,10] (aa 11 2047) ?_;refine jQ ?_));rotate_left 1))
  all_goals refine jY (vs:=[_]) ?_
  all_goals (rw [ax,V.bys];simp [f9,V.byss];rfl)
 | recd k b t fs bs a a2 c c2 h0 h1 h2 h3 h4 h5 hk ih =>
  intro hwf ht
  obtain ⟨r,rfl⟩:=fa h0.1
  rw [bU] at ht
  have hwk:=kv hwf
  have hml : (fs.map (fun p : Fld × V=>V.nd 61 [] p.1.tag [p.2])).length = fs.length:=by simp
  have hnt : ∀ i,i < fs.length → ae (fs.map (fun p : Fld × V=>V.nd 61 [] p.1.tag [p.2])) i = V.nd 61 [] (ae fs i).1.tag [(ae fs i).2]:=fun i hi=>by rw [aU (by simpa using hi),aU hi];simp
  generalize hKS : fs.map (fun p : Fld × V=>V.nd 61 [] p.1.tag [p.2]) = KS at *
  have hfl:=ip KS hwk oM
  refine (v4 (tx:=[82]) (KS:=KS) hml.symm (by have:=d6 KS;omega) (.inl rfl) h1 h2 h3 (by simp) h4 oM fun i hi=>?_).mono fun v _ _ hv=>?_
  ·have hti:=gc (ks:=KS) (i:=i) oM
   have hwi:=qF hwk (i:=i) oM
   rw [hnt i hi] at hti hwi
   simp only [bU,V.tots] at hti
   have hwv:=(kv hwi).1
   have hbl:=iX _ hwv oM
   have htn : ae (fs.map fun p : Fld × V=>p.1.tag) i = (ae fs i).1.tag:=by rw [aU (by simpa using hi),aU hi];simp
   exact ⟨(ae fs i).2,by rw [hnt i hi,htn],ih i hi hwv oM,oM,by rw [htn];exact (fS hw h0.1 (h5 i hi)).symm⟩
  ·obtain ⟨g1,g2,hv⟩:=hv;exact ⟨g1,g2,by rw [hv,V.bys];rfl⟩
 | enm k b tgb t d h0 h1 h2 h3 =>
  intro _ _
  obtain ⟨r,rfl⟩:=fa h0.1
  have htg:=fS hw h0.1 h1
  have hn3:=b8 (n:=d.tag) oM
  refine jE [(0,_)] Tryz.func48 Tryz.ntmps48 fun B hB=>?_
  repeat' (first | refine jX ?_ | (refine jo ?_;refine jV (aG F F aS F F) ?_) | refine ad F F ?_)
  refine Nx.re (d:=7) (v':=S ((aK d.tag).take (0 * (aK d.tag).length))) F (congrArg (fun l=>S l) (by simp)) ?_
  refine aR (ι:=Nat) (fun i=>i ≤ 1) (fun i=>[(0,Pt b 0),(7,S ((aK d.tag).take (i * (aK d.tag).length))),(8,I i)]) (fun _=>G) (fun i=>[]) (fun i=>1 - i) 0 ?_ tU F aW (fun i Hi=>?_)
  ·exact Nat.zero_le _
  have hi2 : i = 0 ∨ i = 1:=oM
  rcases hi2 with rfl | rfl
  ·rw [Nat.zero_mul,List.take_zero]
   repeat' (first | refine jX ?_ | (refine jo ?_;first | refine jV (aG F F aS F F) ?_ | refine jV (ao F) ?_ | refine jV (aD F F oM) ?_ | refine ab F F F (dk oM) F ?_) | refine ac F F ?_ | refine ad F F ?_)
   refine Nx.re (d:=7) (v':=S ((aK d.tag).take (1 * (aK d.tag).length))) F (congrArg (fun l=>S l) (by simp)) ?_
   exact aY 1 oM oM tU F aW
  ·rw [Nat.one_mul,List.take_length]
   repeat' (first | refine jR ?_ | (refine jo ?_;first | refine jV (aG F F aS F F) ?_ | refine jV (ao F) ?_) | refine ad F F ?_)
   refine jY (vs:=[_]) ?_
   rw [ax,V.bys];rfl
 | uni k b tgb kb b' cc t d v hcc h0 h1 h2 h3 h4 hk ih =>
  intro hwf ht
  obtain ⟨r,rfl⟩:=fa h0.1
  have htg:=fS hw h0.1 h1
  simp only [bU,V.tots] at ht
  have hwv:=(kv hwf).1
  have hbl:=iX _ hwv oM
  have hn3:=b8 (n:=d.tag) oM
  have hn4:=b8 (n:=(v.bys.length : Nat)) oM
  have hub : (V.nd 61 [] d.tag [v]).bys = aK d.tag ++ (aK v.bys.length ++ v.bys):=by rw [V.bys];simp [V.byss,f9]
  refine (v4 (tx:=[85]) (KS:=[V.nd 61 [] d.tag [v]]) (tg:=[d.tag]) (bs:=[b']) F (by simp) (.inr F) h2 (xP h3) (wk hcc h4) F F ?_ fun i hi=>?_).mono fun u _ _ hu=>?_
  ·simp only [V.byss,List.flatten_cons,List.flatten_nil,List.append_nil,hub,List.length_append];omega
  ·have : i = 0:=by have h9 : i < 1:=hi;omega
   subst this
   exact ⟨v,F,ih hwv oM,oM,htg.symm⟩
  ·obtain ⟨g1,g2,hu⟩:=hu;exact ⟨g1,g2,by rw [hu,V.bys];simp [V.byss,f9,hub]⟩
end Go.E
