/- Contracts and plain laws that the statement rests on, part 5. Conditions: as each says. -/
import Derived.Test.YtlkjjgmfhafnaabGreatDoorQ4
set_option linter.unusedVariables false
set_option linter.unusedSimpArgs false
namespace Go.E
set_option maxRecDepth 20000
set_option maxHeartbeats 2000000
theorem oT {f : ac8 → Option (V × ac8)} {r : ac8} : ∀ (ks : List V) (acc : List V),(∀ v ∈ ks,∀ r,f (v.bys ++ r) = some (v,r)) → bG f ks.length ((V.byss ks).flatten ++ r) acc = some (acc ++ ks,r)
 | [],acc,_=>by simp [bG,V.byss]
 | v :: ks,acc,h=>by
  rw [V.byss,List.flatten_cons,List.append_assoc,List.length_cons,bG,h v (by simp)]
  dsimp only
  rw [oT ks (acc ++ [v]) fun u hu=>h u (by simp [hu])]
  simp
theorem gf {f : ac8 → ac8 → Option (V × ac8)} {k p : ac8} {v : V} (h : f k p = some (v,[])) : cQ f k p = some v:=by unfold cQ;rw [h]
theorem ox (p : Fld × V) : (c7 p).bys = aX p.1.tag ++ (aX p.2.bys.length ++ p.2.bys):=by
 show V.bys (.nd 61 [] p.1.tag [p.2]) = _
 rw [V.bys];simp [V.byss,gj]
theorem aag (r : ac8) : bj (0 :: r) = some (0,r):=by rw [bj,if_pos dC];rfl
theorem qo {ts : List Ty} {f : ac8 → ac8 → Option (V × ac8)} {t : Ty} (hw : TyW t) {r : ac8} : ∀ (fs : List (Fld × V)) (m : Nat) (last : Int) (acc : List V),fs.length < m → (∀ p ∈ fs,p.1 ∈ t.fields ∧ p.2.out ≠ cW ts p.1 ∧ last < p.1.tag ∧ p.2.bys.length ≤ 999999 ∧ f p.1.kind p.2.bys = some (p.2,[])) → fs.Pairwise (fun a b=>a.1.tag < b.1.tag) →
  bN ts f t m last ((V.byss (fs.map c7)).flatten ++ 0 :: r) acc = some (acc ++ fs.map c7,r)
 | [],m,last,acc,hm,_,_=>by
  obtain ⟨m,rfl⟩ : ∃ n,m = n + 1:=⟨m - 1,by simp at hm;omega⟩
  simp only [List.map_nil,V.byss,List.flatten_nil,List.nil_append,bN,aag,if_pos,List.append_nil]
 | p :: fs,m,last,acc,hm,hf,hp=>by
  obtain ⟨m,rfl⟩ : ∃ n,m = n + 1:=⟨m - 1,by simp at hm;omega⟩
  obtain ⟨h1,h2,h3,h4,h5⟩:=hf p (by simp)
  have ht:=(hw.fld _ h1).tag
  rw [List.pairwise_cons] at hp
  have ih:=qo (ts:=ts) (f:=f) hw (r:=r) fs m p.1.tag (acc ++ [c7 p]) (by simp at hm;omega) (fun q hq=>⟨(hf q (by simp [hq])).1,(hf q (by simp [hq])).2.1,hp.1 q hq,(hf q (by simp [hq])).2.2.2⟩) hp.2
  rw [List.map_cons,V.byss,List.flatten_cons,ox,bN]
  simp only [List.append_assoc]
  rw [gq oM oM]
  dsimp only
  rw [if_neg oM,j4 h4]
  dsimp only
  rw [if_neg oM,jk hw h1]
  dsimp only
  rw [gf h5]
  dsimp only
  rw [if_neg h2]
  show bN ts f t m p.1.tag _ (acc ++ [c7 p]) = _
  rw [ih];simp
theorem sU {ks : List V} {v : V} (h : v ∈ ks) : v.bys.length ≤ (V.byss ks).flatten.length:=by
 rw [lP]
 induction ks with
 | nil=>cases h
 | cons u ks ih =>
  simp only [List.map_cons,List.flatten_cons,List.length_append]
  rcases List.mem_cons.1 h with rfl | h
  ·omega
  ·have:=ih h;omega
theorem uh : ∀ {fs : List (Fld × V)},fs.length ≤ (V.byss (fs.map c7)).flatten.length
 | []=>by simp [V.byss]
 | p :: fs=>by
  have:=uh (fs:=fs)
  have h2:=fE p.1.tag
  rw [List.map_cons,V.byss,List.flatten_cons,List.length_append,ox]
  simp only [List.length_append,List.length_cons]
  omega
theorem pM {ts : List Ty} {k : ac8} {t : Ty} (h : a7 ts k = some t) : ∃ k',k = 64 :: k':=by
 cases k with
 | nil=>simp [a7,bJ] at h
 | cons c k' =>
  by_cases h64 : c.toNat = 64
  ·exact ⟨k',by rw [show c = 64 from UInt8.toNat_inj.1 h64]⟩
  ·exact (fm h F h64).elim
theorem oR {ts : List Ty} (hw : SchW ts) : ∀ (n : Nat) {k : ac8} {v : V},OfK ts k v → v.deep ≤ n → v.bys.length ≤ 999999 → ∀ r,rb ts n k (v.bys ++ r) = some (v,r)
 | 0,k,v,h,hd,_,r=>by
  obtain ⟨w,x,t,ks⟩:=v
  have hne : w ≠ 61:=by cases h <;> decide
  rw [cP hne] at hd;omega
 | n + 1,k,v,h,hd,hl,r=>by
  have ih:=fun {k : ac8} {v : V}=>oR hw n (k:=k) (v:=v)
  show fx ts (rb ts n) k (v.bys ++ r) = some (v,r)
  cases h with
  | num k m h1 h2 =>
   have e : V.bys (.nd 110 (bz m) 0 []) = aX m:=by rw [V.bys];unfold gj;rw [if_pos rfl,o3 h1 h2 dC];rfl
   have hrf : a7 ts (110 :: k) = none:=by cases h : a7 ts (110 :: k) with | none=>rfl | some t=>exact (fm h F dC).elim
   rw [e]
   unfold fx
   try dsimp only
   rw [if_neg dC,if_neg dC,hrf]
   try dsimp only
   rw [if_pos dC,gq h1 h2];rfl
  | txt k x h1 =>
   have e : V.bys (.nd 116 x 0 []) = aX x.length ++ x:=by rw [V.bys];rfl
   have hrf : a7 ts (116 :: k) = none:=by cases h : a7 ts (116 :: k) with | none=>rfl | some t=>exact (fm h F dC).elim
   rw [e] at hl ⊢
   rw [List.length_append] at hl
   unfold fx
   try dsimp only
   rw [if_neg dC,if_neg dC,hrf]
   try dsimp only
   rw [if_neg dC,if_pos dC,List.append_assoc,j4 oM]
   dsimp only
   rw [if_pos h1]
  | flg k x h1 =>
   have hrf : a7 ts (102 :: k) = none:=by cases h : a7 ts (102 :: k) with | none=>rfl | some t=>exact (fm h F dC).elim
   unfold fx
   try dsimp only
   rw [if_neg dC,if_neg dC,hrf]
   try dsimp only
   rw [if_neg dC,if_neg dC,if_pos dC]
   rcases h1 with rfl | rfl
   ·rw [show V.bys (.nd 102 [121,101,115] 0 []) = [1] by rw [V.bys];rfl];rfl
   ·rw [show V.bys (.nd 102 [110,111] 0 []) = [0] by rw [V.bys];rfl];rfl
  | lst k ks h1 h2 =>
   rw [cP dC] at hd
   have e : V.bys (.nd 91 [] 0 ks) = aX ks.length ++ (V.byss ks).flatten:=by rw [V.bys];rfl
   rw [e] at hl ⊢
   rw [List.length_append] at hl
   have hI:=oT (f:=rb ts n k) (r:=r) ks [] fun v hv r=>ih (h2 v hv) (by have:=V.deep_mem hv;omega) (by have:=sU hv;omega) r
   unfold fx
   try dsimp only
   rw [if_pos dC,List.append_assoc,gq oM oM]
   dsimp only
   rw [if_pos oM,Int.toNat_natCast,hI];rfl
  | non k =>
   rw [show V.bys (.nd 63 [] 0 []) = [0] by rw [V.bys];rfl]
   unfold fx
   try dsimp only
   rw [if_neg dC,if_pos dC];rfl
  | opt k v h1 =>
   rw [cP dC] at hd
   have hd2 : v.deep ≤ n:=by have:=V.deep_mem (ks:=[v]) (v:=v) (by simp);omega
   have e : V.bys (.nd 63 [] 0 [v]) = 1 :: v.bys:=by rw [V.bys];simp [V.byss,gj]
   rw [e] at hl ⊢
   rw [List.length_cons] at hl
   unfold fx
   try dsimp only
   rw [if_neg dC,if_pos dC]
   rw [show bX (1 :: v.bys ++ r) = some (true,v.bys ++ r) from rfl]
   try dsimp only
   rw [ih h1 hd2 oM];rfl
  | recd k t fs h1 h2 h3 h4 h5 h6 =>
   rw [cP dC] at hd
   obtain ⟨k',rfl⟩:=pM h1
   have e : V.bys (.nd 82 [] 0 (fs.map c7)) = (V.byss (fs.map c7)).flatten ++ [0]:=by rw [V.bys];rfl
   have hg:=uh (fs:=fs)
   rw [e] at hl ⊢
   rw [List.length_append] at hl
   have hW:=hw.ty t (cj h1)
   have hF:=qo (ts:=ts) (f:=rb ts n) hW (r:=r) fs (((V.byss (fs.map c7)).flatten ++ 0 :: r).length + 1) 0 [] (by rw [List.length_append];omega) (fun p hp=>by
    have hdp : p.2.deep ≤ n:=by
     have h7:=V.deep_mem (List.mem_map_of_mem (f:=c7) hp)
     have h8 : (c7 p).deep = p.2.deep:=by
      show V.deep (.nd 61 [] p.1.tag [p.2]) = _
      rw [V.deep,if_pos rfl];simp [V.deeps]
     omega
    have hbp : p.2.bys.length ≤ 999999:=by
     have h7:=sU (List.mem_map_of_mem (f:=c7) hp)
     rw [ox] at h7
     simp only [List.length_append] at h7
     omega
    have ht:=(hW.fld _ (h3 p hp)).tag
    refine ⟨h3 p hp,h5 p hp,oM,hbp,?_⟩
    have:=ih (h4 p hp) hdp hbp []
    rwa [List.append_nil] at this) h6
   unfold fx
   try dsimp only
   rw [if_neg dC,if_neg dC,h1]
   try dsimp only
   unfold bZ
   rw [if_pos h2,List.append_assoc,List.singleton_append,hF];rfl
  | enm k t d h1 h2 h3 =>
   obtain ⟨k',rfl⟩:=pM h1
   have hW:=hw.ty t (cj h1)
   have ht:=(hW.fld _ h3).tag
   rw [show V.bys (.nd 69 [] d.tag []) = aX d.tag by rw [V.bys];rfl]
   unfold fx
   try dsimp only
   rw [if_neg dC,if_neg dC,h1]
   try dsimp only
   unfold bZ
   rw [if_neg oM,gq oM oM]
   dsimp only
   rw [jk hW h3]
   dsimp only
   rw [if_pos h2]
  | uni k t d v h1 h2 h3 h4 h5 =>
   rw [cP dC] at hd
   have hd2 : v.deep ≤ n:=by have:=V.deep_mem (ks:=[v]) (v:=v) (by simp);omega
   obtain ⟨k',rfl⟩:=pM h1
   have hW:=hw.ty t (cj h1)
   have ht:=(hW.fld _ h4).tag
   have e : V.bys (.nd 85 [] d.tag [v]) = aX d.tag ++ (aX v.bys.length ++ v.bys):=by rw [V.bys];simp [V.byss,gj]
   rw [e] at hl ⊢
   simp only [List.length_append] at hl
   unfold fx
   try dsimp only
   rw [if_neg dC,if_neg dC,h1]
   try dsimp only
   unfold bZ
   simp only [List.append_assoc]
   rw [if_neg h2,gq oM oM]
   dsimp only
   rw [jk hW h4]
   dsimp only
   rw [if_neg h3,j4 oM]
   dsimp only
   have:=ih h5 hd2 oM []
   rw [List.append_nil] at this
   rw [gf this];rfl
def jq (ts : List Ty) (k b : ac8) : Option V:=match rb ts 12 k b with
 | some (v,[])=>if v.bys = b ∧ v.out.length ≤ 400 then some v else none
 | _=>none
theorem lF {ts : List Ty} (hw : SchW ts) {k b : ac8} (hb : b.length ≤ 999999) {v : V} : jq ts k b = some v ↔ OfK ts k v ∧ v.deep ≤ 12 ∧ v.out.length ≤ 400 ∧ v.bys = b:=by
 constructor
 ·intro h
  unfold jq at h
  split at h
  ·rename_i u hu
   obtain ⟨g1,g2⟩:=lb _ _ _ _ hu
   split at h
   ·rename_i hc
    simp only [Option.some.injEq] at h;subst h
    exact ⟨g1,g2,hc.2,hc.1⟩
   ·cases h
  ·cases h
 ·rintro ⟨h1,h2,h3,rfl⟩
  have:=oR hw 12 h1 h2 hb []
  rw [List.append_nil] at this
  unfold jq
  rw [this]
  dsimp only
  rw [if_pos ⟨rfl,h3⟩]
theorem sm {ts : List Ty} (hw : SchW ts) {k b : ac8} (hb : b.length ≤ 999999) {v : V} : jq ts k b = some v ↔ rb ts 13 k b = some (v,[]) ∧ v.deep ≤ 12 ∧ v.out.length ≤ 400 ∧ v.bys = b:=by
 rw [lF hw hb]
 constructor
 ·rintro ⟨h1,h2,h3,rfl⟩
  have:=oR hw 13 h1 oM hb []
  rw [List.append_nil] at this
  exact ⟨this,h2,h3,F⟩
 ·rintro ⟨h1,h2,h3,h4⟩
  exact ⟨(lb _ _ _ _ h1).1,h2,h3,h4⟩
theorem dA {s r : ac8} {b : Bool} (h : bX s = some (b,r)) : s = (if b = true then 1 else 0) :: r:=by
 unfold bX at h
 split at h
 ·cases h
 ·rename_i c q
  split at h
  ·rename_i hc
   simp only [Option.some.injEq,Prod.mk.injEq] at h
   obtain ⟨rfl,rfl⟩:=h
   rw [bm hc dC];rfl
  ·split at h
   ·rename_i hc
    simp only [Option.some.injEq,Prod.mk.injEq] at h
    obtain ⟨rfl,rfl⟩:=h
    rw [bm hc dC];rfl
   ·cases h
theorem nS (r : ac8) : bX (0 :: r) = some (false,r):=by rw [bX,if_pos dC]
theorem rv (r : ac8) : bX (1 :: r) = some (true,r):=by rw [bX,if_neg dC,if_pos dC]
section
variable {ts : List Ty}
end
variable {ts : List Ty}
inductive LoK (ts : List Ty) : ac8 → V → Prop
 | num (k : ac8) (n : Int) : 0 ≤ n → LoK ts (110 :: k) (.nd 110 (bz n) 0 [])
 | txt (k x : ac8) : df (39 :: (x ++ [39])) = true → LoK ts (116 :: k) (.nd 116 x 0 [])
 | flg (k x : ac8) : x = [121,101,115] ∨ x = [110,111] → LoK ts (102 :: k) (.nd 102 x 0 [])
 | lst (k : ac8) (ks : List V) : (∀ v ∈ ks,LoK ts k v) → LoK ts (91 :: k) (.nd 91 [] 0 ks)
 | non (k : ac8) : LoK ts (63 :: k) (.nd 63 [] 0 [])
 | opt (k : ac8) (v : V) : LoK ts k v → LoK ts (63 :: k) (.nd 63 [] 0 [v])
 | recd (k : ac8) (t : Ty) (fs : List (Fld × V)) : a7 ts k = some t → t.sort = 82 → (∀ p ∈ fs,p.1 ∈ t.fields) → (∀ p ∈ fs,LoK ts p.1.kind p.2) → LoK ts k (.nd 82 [] 0 (fs.map c7))
 | enm (k : ac8) (t : Ty) (d : Fld) : a7 ts k = some t → t.sort = 69 → d ∈ t.fields → LoK ts k (.nd 69 [] d.tag [])
 | uni (k : ac8) (t : Ty) (d : Fld) (v : V) : a7 ts k = some t → t.sort ≠ 82 → t.sort ≠ 69 → d ∈ t.fields → LoK ts d.kind v → LoK ts k (.nd 85 [] d.tag [v])
variable {ts : List Ty} {st : Bool}
theorem mh {e : UInt8} {t : ac8} (h0 : e.toNat ≠ 0) (h1 : e.toNat ≠ 1) : bX (e :: t) = none:=by rw [bX,if_neg h0,if_neg h1]
variable {ts : List Ty}
theorem nA {f : ac8 → Option (V × ac8)} (h : ∀ s v r,f s = some (v,r) → r.length < s.length) : ∀ (m : Nat) (s : ac8) (acc : List V) {x : List V × ac8},bG f m s acc = some x → x.2.length + m ≤ s.length
 | 0,s,acc,x,e=>by simp only [bG,Option.some.injEq] at e;subst e;dsimp only;omega
 | m + 1,s,acc,x,e=>by
  unfold bG at e
  cases hf : f s with
  | none=>rw [hf] at e;cases e
  | some y =>
   rw [hf] at e
   obtain ⟨v,r⟩:=y
   have h1:=nA h m r _ e
   have h2:=h _ _ _ hf
   omega
theorem lf {f : ac8 → ac8 → Option (V × ac8)} {t : Ty} : ∀ (m : Nat) (last : Int) (s : ac8) (acc : List V) {x : List V × ac8},bN ts f t m last s acc = some x → x.2.length < s.length
 | 0,_,_,_,_,e=>by cases e
 | m + 1,last,s,acc,x,e=>by
  unfold bN at e
  cases hn : bj s with
  | none=>rw [hn] at e;cases e
  | some y =>
   rw [hn] at e
   obtain ⟨n,r⟩:=y
   have hl:=bE hn
   dsimp only at e
   split at e
   ·simp only [Option.some.injEq] at e;subst e;exact hl
   ·split at e
    ·cases e
    ·rename_i p r' hp
     have hl2:=d4 hp
     split at e
     ·cases e
     ·split at e
      ·have:=lf m n r' _ e;omega
      ·split at e
       ·cases e
       ·have:=lf m n r' _ e;omega
theorem s5 {f : ac8 → ac8 → Option (V × ac8)} {t : Ty} {s r : ac8} {v : V} (e : bZ ts f t s = some (v,r)) : r.length < s.length:=by
 unfold bZ at e
 split at e
 ·cases hi : bN ts f t (s.length + 1) 0 s [] with
  | none=>rw [hi] at e;cases e
  | some y=>rw [hi] at e;cases e;exact lf _ _ _ _ hi
 ·split at e
  ·cases e
  ·rename_i n q hn
   have hl:=bE hn
   split at e
   ·cases e
   ·rename_i d hd
    split at e
    ·cases e;exact hl
    ·split at e
     ·cases e
     ·rename_i p r' hp
      have hl2:=d4 hp
      cases ha : cQ f d.kind p with
      | none=>rw [ha] at e;cases e
      | some w=>rw [ha] at e;cases e;omega
theorem oQ : ∀ (n : Nat) (k s : ac8) (v : V) (r : ac8),rb ts n k s = some (v,r) → r.length < s.length
 | 0,_,_,_,_,e=>by cases e
 | n + 1,k,s,v,r,e=>by
  have ih:=oQ n
  replace e : fx ts (rb ts n) k s = some (v,r):=e
  cases k with
  | nil=>cases e
  | cons c k =>
   unfold fx at e
   dsimp only at e
   split at e
   ·split at e
    ·cases e
    ·rename_i q1 q hn
     have hl:=bE hn
     split at e
     ·cases hi : bG (rb ts n k) q1.toNat q [] with
      | none=>rw [hi] at e;cases e
      | some y=>rw [hi] at e;cases e;have:=nA (ih k) _ _ _ hi;omega
     ·cases e
   ·split at e
    ·cases hb : bX s with
     | none=>rw [hb] at e;cases e
     | some y =>
      rw [hb] at e
      obtain ⟨b,q⟩:=y
      have hl : s.length = q.length + 1:=by rw [dA hb];rfl
      cases b with
      | false=>cases e;omega
      | true =>
       dsimp only at e
       cases hf : rb ts n k q with
       | none=>rw [hf] at e;cases e
       | some y=>rw [hf] at e;obtain ⟨w,q2⟩:=y;cases e;have:=ih _ _ _ _ hf;dsimp only;omega
    ·split at e
     ·exact s5 e
     ·split at e
      ·cases hn : bj s with
       | none=>rw [hn] at e;cases e
       | some y=>rw [hn] at e;obtain ⟨a,q⟩:=y;cases e;exact bE hn
      ·split at e
       ·split at e
        ·cases e
        ·rename_i p q hp
         have hl2:=d4 hp
         split at e
         ·cases e;omega
         ·cases e
       ·split at e
        ·cases hb : bX s with
         | none=>rw [hb] at e;cases e
         | some y=>rw [hb] at e;obtain ⟨b,q⟩:=y;have hl : s.length = q.length + 1:=by { rw [dA hb];rfl };cases e;dsimp only;omega
        ·cases e
theorem aac {n : Nat} {k : ac8} : rb ts n k [] = none:=by
 cases h : rb ts n k [] with
 | none=>rfl
 | some x=>have:=oQ n k [] x.1 x.2 h;simp at this
theorem vA {n : Nat} {k s : ac8} : rb ts (n + 1) (91 :: k) s = match bj s with
      | none=>none
      | some (m,r)=>if m ≤ 20 then (bG (rb ts n k) m.toNat r []).map fun x=>(.nd 91 [] 0 x.1,x.2) else none:=by
  rw [rb];unfold fx;dsimp only;rw [if_pos dC]
  all_goals (rcases bj s with _ | ⟨b,r⟩)
  all_goals rfl
theorem vz {n : Nat} {k s : ac8} : rb ts (n + 1) (63 :: k) s = match bX s with
      | none=>none
      | some (false,r)=>some (.nd 63 [] 0 [],r)
      | some (true,r)=>(rb ts n k r).map fun x=>(.nd 63 [] 0 [x.1],x.2):=by
  rw [rb];unfold fx;dsimp only;rw [if_neg dC,if_pos dC]
  all_goals (rcases bX s with _ | ⟨b,r⟩)
  all_goals (try cases b)
  all_goals rfl
theorem wT {n : Nat} {r s : ac8} {t : Ty} (h : a7 ts (64 :: r) = some t) : rb ts (n + 1) (64 :: r) s = bZ ts (rb ts n) t s:=by
 rw [rb];unfold fx;dsimp only;rw [if_neg dC,if_neg dC,h]
theorem aad {n : Nat} {s : ac8} (h : a7 ts [110] = none) : rb ts (n + 1) [110] s = (bj s).map fun x=>(.nd 110 (bz x.1) 0 [],x.2):=by
 rw [rb];unfold fx;dsimp only;rw [if_neg dC,if_neg dC,h];dsimp only;rw [if_pos dC]
theorem aab {n : Nat} {s : ac8} (h : a7 ts [116] = none) : rb ts (n + 1) [116] s = match b5 s with
          | none=>none
          | some (p,r)=>if df (39 :: (p ++ [39])) = true then some (.nd 116 p 0 [],r) else none:=by
  rw [rb];unfold fx;dsimp only;rw [if_neg dC,if_neg dC,h];dsimp only;rw [if_neg dC,if_pos dC]
  all_goals (rcases b5 s with _ | ⟨b,r⟩)
  all_goals rfl
theorem aae {n : Nat} {s : ac8} (h : a7 ts [102] = none) : rb ts (n + 1) [102] s = (bX s).map fun x=>(.nd 102 (if x.1 = true then [121,101,115] else [110,111]) 0 [],x.2):=by
 rw [rb];unfold fx;dsimp only;rw [if_neg dC,if_neg dC,h];dsimp only;rw [if_neg dC,if_neg dC,if_pos dC]
theorem nz {f : ac8 → Option (V × ac8)} (h : ∀ s v r,f s = some (v,r) → v.tot + 100 * r.length ≤ 100 * s.length) : ∀ (m : Nat) (s : ac8) (acc : List V) {x : List V × ac8},bG f m s acc = some x → V.tots x.1 + 100 * x.2.length ≤ V.tots acc + 100 * s.length
 | 0,s,acc,x,e=>by simp only [bG,Option.some.injEq] at e;subst e;exact Nat.le_refl _
 | m + 1,s,acc,x,e=>by
  unfold bG at e
  cases hf : f s with
  | none=>rw [hf] at e;cases e
  | some y =>
   rw [hf] at e
   obtain ⟨v,r⟩:=y
   have h1:=nz h m r _ e
   have h2:=h _ _ _ hf
   have e2 : V.tots (acc ++ [v]) = V.tots acc + v.tot:=by simp [eY,V.tots]
   omega
theorem lc {f : ac8 → ac8 → Option (V × ac8)} (h : ∀ k s v r,f k s = some (v,r) → v.tot + 100 * r.length ≤ 100 * s.length) {t : Ty} : ∀ (m : Nat) (last : Int) (s : ac8) (acc : List V) {x : List V × ac8},bN ts f t m last s acc = some x → V.tots x.1 + 100 * x.2.length + 100 ≤ V.tots acc + 100 * s.length
 | 0,_,_,_,_,e=>by cases e
 | m + 1,last,s,acc,x,e=>by
  unfold bN at e
  cases hn : bj s with
  | none=>rw [hn] at e;cases e
  | some y =>
   rw [hn] at e
   obtain ⟨n,r⟩:=y
   have hl:=bE hn
   dsimp only at e
   split at e
   ·simp only [Option.some.injEq] at e;subst e;dsimp only;omega
   ·split at e
    ·cases e
    ·rename_i p r' hp
     have hl2:=d4 hp
     split at e
     ·cases e
     ·split at e
      ·have:=lc h m n r' _ e;omega
      ·rename_i d hd
       split at e
       ·cases e
       ·rename_i v hv
        have h1:=lc h m n r' _ e
        have h2:=h _ _ _ _ (cO hv)
        have e2 : V.tots (acc ++ [V.nd 61 [] d.tag [v]]) = V.tots acc + (20 + v.tot):=by simp [eY,V.tots,V.tot]
        simp only [List.length_nil] at h2
        split at h1
        ·omega
        ·omega
theorem s4 {f : ac8 → ac8 → Option (V × ac8)} (h : ∀ k s v r,f k s = some (v,r) → v.tot + 100 * r.length ≤ 100 * s.length) {t : Ty} {s r : ac8} {v : V} (e : bZ ts f t s = some (v,r)) : v.tot + 100 * r.length ≤ 100 * s.length:=by
 unfold bZ at e
 split at e
 ·cases hi : bN ts f t (s.length + 1) 0 s [] with
  | none=>rw [hi] at e;cases e
  | some y =>
   rw [hi] at e;cases e
   have:=lc h _ _ _ _ hi
   simp only [V.tot,V.tots,List.length_nil] at this ⊢;omega
 ·split at e
  ·cases e
  ·rename_i n q hn
   have hl:=bE hn
   split at e
   ·cases e
   ·rename_i d _
    split at e
    ·cases e;simp only [V.tot,V.tots,List.length_nil];omega
    ·split at e
     ·cases e
     ·rename_i p r' hp
      have hl2:=d4 hp
      cases ha : cQ f d.kind p with
      | none=>rw [ha] at e;cases e
      | some w =>
       rw [ha] at e;cases e
       have:=h _ _ _ _ (cO ha)
       simp only [V.tot,V.tots,List.length_nil] at this ⊢;omega
theorem je : ∀ (n : Nat) (k s : ac8) (v : V) (r : ac8),rb ts n k s = some (v,r) → v.tot + 100 * r.length ≤ 100 * s.length
 | 0,_,_,_,_,e=>by cases e
 | n + 1,k,s,v,r,e=>by
  have ih:=je n
  replace e : fx ts (rb ts n) k s = some (v,r):=e
  cases k with
  | nil=>cases e
  | cons c k =>
   unfold fx at e
   dsimp only at e
   split at e
   ·split at e
    ·cases e
    ·rename_i q1 q hn
     have hl:=bE hn
     split at e
     ·cases hi : bG (rb ts n k) q1.toNat q [] with
      | none=>rw [hi] at e;cases e
      | some y =>
       rw [hi] at e;cases e
       have:=nz (ih k) _ _ _ hi
       simp only [V.tot,V.tots,List.length_nil] at this ⊢;omega
     ·cases e
   ·split at e
    ·cases hb : bX s with
     | none=>rw [hb] at e;cases e
     | some y =>
      rw [hb] at e
      obtain ⟨b,q⟩:=y
      have hl : s.length = q.length + 1:=by rw [dA hb];rfl
      cases b with
      | false=>cases e;simp only [V.tot,V.tots,List.length_nil];omega
      | true =>
       dsimp only at e
       cases hf : rb ts n k q with
       | none=>rw [hf] at e;cases e
       | some y=>rw [hf] at e;obtain ⟨w,q2⟩:=y;cases e;have:=ih _ _ _ _ hf;simp only [V.tot,V.tots,List.length_nil];omega
    ·split at e
     ·exact s4 ih e
     ·split at e
      ·cases hn : bj s with
       | none=>rw [hn] at e;cases e
       | some y =>
        rw [hn] at e;obtain ⟨a,q⟩:=y;cases e
        have hl:=bE hn
        obtain ⟨h0,h1,_⟩:=cn hn
        have:=vZ (m:=a) h1
        simp only [V.tot,V.tots];omega
      ·split at e
       ·split at e
        ·cases e
        ·rename_i p q hp
         have hl2:=d4 hp
         split at e
         ·cases e;simp only [V.tot,V.tots];omega
         ·cases e
       ·split at e
        ·cases hb : bX s with
         | none=>rw [hb] at e;cases e
         | some y =>
          rw [hb] at e;obtain ⟨b,q⟩:=y
          have hl : s.length = q.length + 1:=by rw [dA hb];rfl
          cases e
          cases b
          all_goals (simp [V.tot,V.tots];omega)
        ·cases e
theorem mg {f : ac8 → Option (V × ac8)} {m : Nat} {t r : ac8} {acc : List V} {v : V} (hf : f t = some (v,r)) : bG f (m + 1) t acc = bG f m r (acc ++ [v]):=by
 rw [bG,hf]
theorem oS {f : ac8 → Option (V × ac8)} {m : Nat} {t : ac8} {acc : List V} (hf : f t = none) : bG f (m + 1) t acc = none:=by
 rw [bG,hf]
theorem ru {f : ac8 → ac8 → Option (V × ac8)} {ty : Ty} {m : Nat} {la : Int} {t r : ac8} {acc : List V} (h : bj t = some (0,r)) : bN ts f ty (m + 1) la t acc = some (acc,r):=by rw [bN,h];dsimp only;rw [if_pos rfl]
theorem oX {f : ac8 → ac8 → Option (V × ac8)} {ty : Ty} {m : Nat} {la : Int} {t : ac8} {acc : List V} (h : bj t = none) : bN ts f ty (m + 1) la t acc = none:=by rw [bN,h]
theorem ld {f : ac8 → ac8 → Option (V × ac8)} {ty : Ty} {m : Nat} {la n : Int} {t r : ac8} {acc : List V} (h : bj t = some (n,r)) (h0 : n ≠ 0) (hp : b5 r = none) : bN ts f ty (m + 1) la t acc = none:=by rw [bN,h];dsimp only;rw [if_neg h0,hp]
theorem oW {f : ac8 → ac8 → Option (V × ac8)} {ty : Ty} {m : Nat} {la n : Int} {t r p r' : ac8} {acc : List V} (h : bj t = some (n,r)) (h0 : n ≠ 0) (hp : b5 r = some (p,r')) (hl : n ≤ la) : bN ts f ty (m + 1) la t acc = none:=by rw [bN,h];dsimp only;rw [if_neg h0,hp];dsimp only;rw [if_pos hl]
theorem nC {f : ac8 → ac8 → Option (V × ac8)} {ty : Ty} {m : Nat} {la n : Int} {t r p r' : ac8} {acc : List V} (h : bj t = some (n,r)) (h0 : n ≠ 0) (hp : b5 r = some (p,r')) (hl : ¬ n ≤ la) (hd : bR ty.fields n = none) : bN ts f ty (m + 1) la t acc = bN ts f ty m n r' acc:=by rw [bN,h];dsimp only;rw [if_neg h0,hp];dsimp only;rw [if_neg hl,hd]
theorem oV {f : ac8 → ac8 → Option (V × ac8)} {ty : Ty} {m : Nat} {la n : Int} {t r p r' : ac8} {acc : List V} {d : Fld} (h : bj t = some (n,r)) (h0 : n ≠ 0) (hp : b5 r = some (p,r')) (hl : ¬ n ≤ la) (hd : bR ty.fields n = some d) (ha : cQ f d.kind p = none) : bN ts f ty (m + 1) la t acc = none:=by rw [bN,h];dsimp only;rw [if_neg h0,hp];dsimp only;rw [if_neg hl,hd];dsimp only;rw [ha]
theorem oU {f : ac8 → ac8 → Option (V × ac8)} {ty : Ty} {m : Nat} {la n : Int} {t r p r' : ac8} {acc : List V} {d : Fld} {v : V} (h : bj t = some (n,r)) (h0 : n ≠ 0) (hp : b5 r = some (p,r')) (hl : ¬ n ≤ la) (hd : bR ty.fields n = some d) (ha : cQ f d.kind p = some v) : bN ts f ty (m + 1) la t acc = bN ts f ty m n r' (if v.out = cW ts d then acc else acc ++ [.nd 61 [] d.tag [v]]):=by rw [bN,h];dsimp only;rw [if_neg h0,hp];dsimp only;rw [if_neg hl,hd];dsimp only;rw [ha]
open Go.Proofs
variable {G : Gh}
def kN (n : Int) : Value:=if 0 ≤ n ∧ n ≤ 999999 then Tu [S (aX n),Bo true] else Tu [S [],Bo false]
theorem wC {n : Int} : an ac7 68 [I n] G (· = kN n):=by
 refine jE [(0,_)] Tryz.func68 Tryz.ntmps68 fun B hB=>?_
 repeat' (first | refine jR ?_ | (refine jo ?_;first | refine aG F ?_ | refine ar F ?_) | refine dN F F (fun _=>?_) (fun _=>?_) | refine ac F F ?_ | refine cB F (fun _=>?_) (fun _=>?_))
 ·refine jY (vs:=[_,_]) ?_
  rw [dM,kN,if_neg oM]
 ·refine jY (vs:=[_,_]) ?_
  rw [dM,kN,if_neg oM]
 ·refine Nx.addNil 5 1 ?_
  refine aT (ι:=Value × ac8 × Int) (fun i=>0 ≤ i.2.2 ∧ i.2.2 ≤ 999999 ∧ i.2.1 ++ aX i.2.2 = aX n ∧ i.2.1.length ≤ 100) (fun i=>[(0,I i.2.2),(4,i.1)]) (fun _=>G) (fun i=>[.acc i.1 5 1 i.2.1.length (bw i.2.1)]) (fun i=>i.2.2.toNat) (aI,[],n) ?_ tU F aZ (fun i hI=>?_)
  ·dsimp only;refine ⟨?_,?_,?_,?_⟩ <;> first | omega | simp
  ·obtain ⟨v,l,m⟩:=i
   dsimp only at hI ⊢
   repeat' (first | refine jM ?_ | (refine jo ?_;first | refine jF fun _=>?_ | refine ng F F F F F F F F oM fun _=>?_ | refine jV (abU F (by (repeat (first | exact BL.nil | apply BL.cons | apply BL.ap));done)) ?_) | refine cB F (fun _=>?_) (fun _=>?_))
   ·have h1:=gU (n:=m) oM
    (refine aY (_,l ++ [u8 (m % 128 + 128)],m / 128) ?_ ?_ tU F (by (dsimp only;simp only [wM,List.length_append,List.length_cons,List.length_nil,Nat.zero_add];repeat (first | exact List.nil_sublist _ | apply List.Sublist.cons_cons))))
    ·refine ⟨?_,?_,?_,?_⟩ <;> dsimp only
     ·omega
     ·omega
     ·rw [← hI.2.2.1,h1,Int.add_comm];simp
     ·have:=bx (n:=n) oM
      rw [← hI.2.2.1,h1] at this
      simp at this ⊢;omega
    ·dsimp only;omega
   ·refine jY (vs:=[_,_]) ?_
    rw [dM,kN,if_pos oM,← hI.2.2.1,fu oM hI.1]
theorem eB {n : Int} (h : 0 ≤ n ∧ n ≤ 999999) : an ac7 35 [I n] G (· = S (aX n)):=by
 have e : kN n = Tu [S (aX n),Bo true]:=by rw [kN,if_pos h]
 have cx_NumPut : an ac7 68 [I n] G (· = Tu [S (aX n),Bo true]):=by rw [← e];exact wC
 refine jE [(0,_)] Tryz.func35 Tryz.ntmps35 fun B hB=>?_
 repeat' (first | refine jR ?_ | (refine jo ?_;refine ab F F F cx_NumPut F ?_))
 refine jY (vs:=[_]) ?_
 rfl
theorem na {s : ac8} (h : s.length ≤ 999999) : an ac7 36 [S s] G (· = S (aX s.length ++ s)):=by
 have:=bx (n:=s.length) oM
 refine jE [(0,_)] Tryz.func36 Tryz.ntmps36 fun B hB=>?_
 repeat' (first | refine jM ?_ | (refine jo ?_;refine ab F F F (eB oM) F ?_))
 refine jY (vs:=[_]) ?_
 rfl
theorem ab8 {s : ac8} (h : s.length ≤ 9000000000000000000) : an ac7 67 [S s] G (· = I (eD s)):=by
 refine jE [(0,_)] Tryz.func67 Tryz.ntmps67 fun B hB=>?_
 repeat' (refine jR ?_)
 refine aT (ι:=Nat × Int) (fun i=>i.1 ≤ s.length ∧ 0 ≤ i.2 ∧ i.2 < 9973 ∧ pF i.2 (s.drop i.1) = eD s) (fun i=>[(0,S s),(3,I i.2),(6,I s.length),(7,I i.1)]) (fun _=>G) (fun i=>[]) (fun i=>s.length - i.1) (0,1) ?_ tU F aZ (fun i hI=>?_)
 ·dsimp only;refine ⟨?_,?_,?_,?_⟩ <;> first | omega | rfl
 ·obtain ⟨i,m⟩:=i
  dsimp only at hI ⊢
  have:=gN s i
  repeat' (first | refine jX ?_ | refine cB F (fun _=>?_) (fun _=>?_))
  ·obtain ⟨c,h1,h2⟩:=fS (l:=s) (i:=i) oM
   refine aY (i + 1,(m * 31 + bt s i) % 9973) ?_ ?_ tU F aZ
   ·refine ⟨?_,?_,?_,?_⟩ <;> dsimp only
    ·omega
    ·omega
    ·omega
    ·rw [← hI.2.2.2,h1,h2];rfl
   ·dsimp only;omega
  ·refine jY (vs:=[_]) ?_
   have : i = s.length:=oM
   rw [aw,← hI.2.2.2,this,List.drop_length];rfl
theorem i3 {s : ac8} (h : s.length ≤ 9000000000000000000) : an ac7 152 [S s] G (· = I (eD s)):=by
 refine jE [(0,_)] Tryz.func152 Tryz.ntmps152 fun B hB=>?_
 repeat' (refine jR ?_)
 refine aT (ι:=Nat × Int) (fun i=>i.1 ≤ s.length ∧ 0 ≤ i.2 ∧ i.2 < 9973 ∧ pF i.2 (s.drop i.1) = eD s) (fun i=>[(0,S s),(3,I i.2),(4,I i.1)]) (fun _=>G) (fun i=>[]) (fun i=>s.length - i.1) (0,1) ?_ tU F aZ (fun i hI=>?_)
 ·dsimp only;refine ⟨?_,?_,?_,?_⟩ <;> first | omega | rfl
 ·obtain ⟨i,m⟩:=i
  dsimp only at hI ⊢
  have:=gN s i
  repeat' (first | refine jX ?_ | refine cB F (fun _=>?_) (fun _=>?_))
  ·obtain ⟨c,h1,h2⟩:=fS (l:=s) (i:=i) oM
   refine aY (i + 1,(31 * m + bt s i) % 9973) ?_ ?_ tU F aZ
   ·refine ⟨?_,?_,?_,?_⟩ <;> dsimp only
    ·omega
    ·omega
    ·omega
    ·rw [← hI.2.2.2,h1,h2,Int.mul_comm];rfl
   ·dsimp only;omega
  ·refine jY (vs:=[_]) ?_
   have : i = s.length:=oM
   rw [aw,← hI.2.2.2,this,List.drop_length];rfl
theorem im {s : ac8} (h : s.length ≤ 9000000000000000000) : an ac7 34 [S s] G (· = Tu [S (fZ s),Bo (mz s)]):=by
 have h1:=iN s
 have h2:=k3 s
 have h3 : s.length ≤ 100 → (aX s.length).length ≤ 3:=fun h=>bx oM
 refine jE [(0,_)] Tryz.func34 Tryz.ntmps34 fun B hB=>?_
 repeat' (first | refine jX ?_ | (refine jo ?_;first | refine ab F F F (na oM) F ?_ | refine ab F F F (ab8 ‹_›) F ?_ | refine ab F F F (eB oM) F ?_) | refine cB F (fun _=>?_) (fun _=>?_))
 ·refine jY (vs:=[_,_]) ?_
  exact yb oM
 ·refine jY (vs:=[_,_]) ?_
  rw [dM,← rV oM]
  simp [frame]
  rfl
theorem wj {s : ac8} (h : s.length ≤ 999999) : an ac7 110 [S s] G (· = S (frame s)):=by
 have h1:=iN s
 have h2:=k3 s
 have h3 : (aX s.length).length ≤ 3:=bx oM
 refine jE [(0,_)] Tryz.func110 Tryz.ntmps110 fun B hB=>?_
 repeat' (first | refine jR ?_ | (refine aj (am (id:=1) _ (fun _ h=>h) ai ?_);refine jT 9 [2,3,6,8] (aa 13 332) ?_;refine bA [0,4] kR dC ⟨?_,?_,trivial⟩;(focus (refine aM F F ?_;(refine jF fun _=>?_);refine jS (aa 13 333) ?_;((refine jG (aa 13 335) 1 F (cX F F (by (repeat (first | exact BL.nil | apply BL.lit rfl));done)) ?_));refine jA 4 F ?_;((refine ab F F F (dy ?_) F ?_;focus omega));refine jS (aa 13 351) ?_;refine jW 4 [5,7] (aa 13 511) ?_;refine jA 9 F ?_;((refine ab F F F (i3 ?_) F ?_;focus omega));refine jS (aa 13 1023) ?_;refine jA 10 F ?_;((refine ab F F F (dy ?_) F ?_;focus omega));refine jS (aa 13 2047) ?_;refine jW 0 [11,12] (aa 13 8191) ?_;refine jQ ?_));rotate_left 1;(focus (refine aM F F ?_;((refine ab F F F (dy ?_) F ?_;focus omega));refine jS (aa 13 348) ?_;refine bA [0,9] kR dC ⟨?_,?_,trivial⟩;(focus (refine aM F F ?_;(refine jF fun _=>?_);refine jS (aa 13 349) ?_;((refine jG (aa 13 351) 1 F (cX F F (by (repeat (first | exact BL.nil | apply BL.lit rfl));done)) ?_));refine jW 4 [5,7] (aa 13 511) ?_;refine jA 9 F ?_;((refine ab F F F (i3 ?_) F ?_;focus omega));refine jS (aa 13 1023) ?_;refine jA 10 F ?_;((refine ab F F F (dy ?_) F ?_;focus omega));refine jS (aa 13 2047) ?_;refine jW 0 [11,12] (aa 13 8191) ?_;refine jQ ?_));rotate_left 1;(focus (refine aM F F ?_;((refine ab F F F (i3 ?_) F ?_;focus omega));refine jS (aa 13 860) ?_;refine bA [0,10] kR dC ⟨?_,?_,trivial⟩;(focus (refine aM F F ?_;(refine jF fun _=>?_);refine jS (aa 13 861) ?_;((refine jG (aa 13 863) 1 F (cX F F (by (repeat (first | exact BL.nil | apply BL.lit rfl));done)) ?_));refine jW 3 [5,7] (aa 13 1023) ?_;refine jA 10 F ?_;((refine ab F F F (dy ?_) F ?_;focus omega));refine jS (aa 13 2047) ?_;refine jW 0 [11,12] (aa 13 8191) ?_;refine jQ ?_));rotate_left 1;(focus (refine aM F F ?_;((refine ab F F F (dy ?_) F ?_;focus omega));refine jS (aa 13 1884) ?_;refine jA 0 F ?_;(refine jF fun _=>?_);refine jS (aa 13 1885) ?_;((refine jG (aa 13 1887) 1 F (cX F F (by (repeat (first | exact BL.nil | apply BL.lit rfl));done)) ?_));refine jW 0 [5,7,11,12] (aa 13 8191) ?_;refine jQ ?_));rotate_left 1));rotate_left 2));rotate_left 3))
 all_goals refine jY (vs:=[_]) ?_
 all_goals (rw [aw];simp [frame])
theorem kG {s : ac8} (h : s.length ≤ 9000000000000000000) : an ac7 73 [S s] G (· = Tu [S (fZ s),Bo (mz s)]):=by
 refine jE [(0,_)] Tryz.func73 Tryz.ntmps73 fun B hB=>?_
 repeat' (first | refine jR ?_ | (refine jo ?_;refine ab F F F (wj oM) F ?_) | refine cB F (fun _=>?_) (fun _=>?_))
 ·refine jY (vs:=[_,_]) ?_
  exact yb oM
 ·refine jY (vs:=[_,_]) ?_
  exact rV oM
def ngV (o : Option (Int × ac8)) : Value:=match o with
 | some (n,r)=>Tu [I n,S r,Bo true]
 | none=>Tu [I 0,S [],Bo false]
def tkV (o : Option (ac8 × ac8)) : Value:=match o with
 | some (p,r)=>Tu [S p,S r,Bo true]
 | none=>Tu [S [],S [],Bo false]
def fM : Nat → Nat → ac8 → Option (Int × ac8)
 | 0,_,s=>bj s
 | 1,m,s=>f8 m s
 | 2,m,s=>fN m s
 | _,_,_=>none
theorem qq : ∀ {i m : Nat},fM i m [] = none
 | 0,_=>rfl
 | 1,_=>rfl
 | 2,_=>rfl
 | _ + 3,_=>rfl
def dt : Nat → Int
 | 0=>1
 | 1=>128
 | 2=>16384
 | _=>2097152
def jy : Nat → Nat
 | 0=>1
 | 1=>128
 | 2=>16384
 | _=>2097152
theorem qu {m : Nat} {c : UInt8} {r : ac8} (h : c.toNat < 128) : fM 0 m (c :: r) = some ((c.toNat : Int),r):=by show bj (c :: r) = _;rw [bj,if_pos h]
theorem qy {m : Nat} {c : UInt8} {r : ac8} (h : ¬ c.toNat < 128) : fM 0 m (c :: r) = fM 1 (c.toNat % 128) r:=by show bj (c :: r) = f8 (c.toNat % 128) r;rw [bj,if_neg h]
theorem m4 {i m : Nat} {c : UInt8} {r : ac8} (h : c.toNat = 0) (hi : 1 ≤ i) : fM i m (c :: r) = none:=by
 match i,hi with
 | 1,_=>show f8 m (c :: r) = none;rw [f8,if_pos oM,if_pos h]
 | 2,_=>show fN m (c :: r) = none;rw [fN,if_pos oM,if_pos (.inl h)]
 | _ + 3,_=>rfl
theorem qt {m : Nat} {c : UInt8} {r : ac8} (h : c.toNat < 128) (h0 : c.toNat ≠ 0) : fM 1 m (c :: r) = some (((m + c.toNat * 128 : Nat) : Int),r):=by show f8 m (c :: r) = _;rw [f8,if_pos h,if_neg h0]
theorem qx {m : Nat} {c : UInt8} {r : ac8} (h : ¬ c.toNat < 128) : fM 1 m (c :: r) = fM 2 (m + c.toNat % 128 * 128) r:=by show f8 m (c :: r) = fN (m + c.toNat % 128 * 128) r;rw [f8,if_neg h]
theorem qr {m : Nat} {c : UInt8} {r : ac8} (h : c.toNat < 128) (h0 : c.toNat ≠ 0) (hm : m + c.toNat * 16384 ≤ 999999) : fM 2 m (c :: r) = some (((m + c.toNat * 16384 : Nat) : Int),r):=by show fN m (c :: r) = _;rw [fN,if_pos h,if_neg oM]
theorem qz {m : Nat} {c : UInt8} {r : ac8} (h : c.toNat < 128) (hm : ¬ m + c.toNat * 16384 ≤ 999999) : fM 2 m (c :: r) = none:=by show fN m (c :: r) = _;rw [fN,if_pos h,if_pos oM]
theorem qv {m : Nat} {c : UInt8} {r : ac8} (h : ¬ c.toNat < 128) : fM 2 m (c :: r) = none:=by show fN m (c :: r) = _;rw [fN,if_neg h]
theorem d7 {s : ac8} (hs : s.length ≤ 1000000) : an ac7 78 [S s] G (· = ngV (bj s)):=by
 refine jE [(0,_)] Tryz.func78 Tryz.ntmps78 fun B hB=>?_
 repeat' (refine jR ?_)
 refine aT (ι:=Nat × Nat) (fun q=>(q.1 ≤ s.length ∧ q.1 ≤ 3) ∧ q.2 < jy q.1 ∧ bj s = fM q.1 q.2 (s.drop q.1)) (fun q=>[(0,S s),(5,I q.2),(6,I (dt q.1)),(7,I q.1)]) (fun _=>G) (fun q=>[]) (fun q=>s.length - q.1) (0,0) ?_ tU F aZ (fun q Hq=>?_)
 ·exact ⟨⟨Nat.zero_le _,by decide⟩,by decide,F⟩
 obtain ⟨i,m⟩:=q
 dsimp only at Hq ⊢
 obtain ⟨⟨hi0,hi3⟩,hm,hng⟩:=Hq
 by_cases hi : i < s.length
 case neg =>
  have hno : bj s = none:=by rw [hng,List.drop_of_length_le oM];exact qq
  rw [hno]
  repeat' (first | refine jR ?_ | (refine jo ?_;refine ar F ?_) | refine ak F F (aC oM) ?_ | refine ad F F ?_)
  all_goals refine jY (vs:=[_,_,_]) ?_
  all_goals rfl
 by_cases h3 : i = 3
 ·subst h3
  have hno : bj s = none:=by rw [hng];rfl
  rw [hno]
  repeat' (first | refine jR ?_ | (refine jo ?_;refine aG F ?_) | refine ax F F (ay oM) ?_ | refine ad F F ?_)
  all_goals refine jY (vs:=[_,_,_]) ?_
  all_goals rfl
 obtain ⟨c,hc1,hc2⟩:=fS hi
 rw [hc1] at hng
 have hc3 : bt s ((i : Int).toNat) = c.toNat:=hc2
 have hcl:=c.toNat_lt
 have hdl : s.drop ((i : Int) + 1).toNat = s.drop (i + 1):=by congr 1
 obtain rfl | rfl | rfl : i = 0 ∨ i = 1 ∨ i = 2:=oM
 ·have hm : m < 1:=hm
  rw [show dt 0 = 1 from rfl]
  by_cases h1 : c.toNat < 128
  ·rw [qu h1] at hng
   rw [hng]
   repeat' (first | refine jM ?_ | (refine jo ?_;first | refine aG F ?_ | refine ar F ?_) | refine ax F F (ay oM) ?_ | refine ak F F F ?_ | (refine ac F (by first | rfl | (refine decide_eq_true ?_;(omega))) ?_) | refine ad F (aC oM) ?_ | (refine aj (am (id:=11) _ (fun _ h=>h) ai ?_);refine jW 0 [0,1,2,3,4,5,6,7] (aa 8 255) ?_;refine jQ ?_))
   all_goals (try rw [hdl])
   all_goals refine jY (vs:=[_,_,_]) ?_
   all_goals (rw [hc3];exact (aD _ _ _).trans (congrArg (fun z : Int=>Tu [I z,S (s.drop (0 + 1)),Bo true]) oM))
  ·rw [qy h1] at hng
   repeat' (first | refine jM ?_ | (refine jo ?_;refine aG F ?_) | refine ax F F (ay oM) ?_ | refine ac F F ?_ | refine ad F (aC oM) ?_)
   refine Nx.re (d:=5) (v':=I ((c.toNat % 128 : Nat) : Int)) F (congrArg (Value.int .i64) (by rw [hc3];omega)) ?_
   refine Nx.re (d:=6) (v':=I (dt 1)) F (congrArg (Value.int .i64) F) ?_
   refine Nx.re (d:=7) (v':=I ((1 : Nat) : Int)) F (congrArg (Value.int .i64) F) ?_
   exact aY (1,c.toNat % 128) ⟨⟨oM,oM⟩,by show _ < _;simp only [jy];omega,hng⟩ oM tU rfl aZ
 ·have hm : m < 128:=hm
  rw [show dt 1 = 128 from rfl]
  by_cases h1 : c.toNat < 128
  ·by_cases h0 : c.toNat = 0
   ·rw [m4 h0 dC] at hng
    rw [hng]
    repeat' (first | refine jM ?_ | (refine jo ?_;refine aG F ?_) | (refine ax F F (by first | rfl | (refine decide_eq_true ?_;(omega))) ?_) | (refine ac F (by first | rfl | (refine decide_eq_true ?_;(omega))) ?_))
    all_goals refine jY (vs:=[_,_,_]) ?_
    all_goals rfl
   rw [qt h1 h0] at hng
   rw [hng]
   repeat' (first | refine jM ?_ | (refine jo ?_;first | refine aG F ?_ | refine ar F ?_) | (refine ax F F (by first | rfl | (refine decide_eq_true ?_;(omega))) ?_) | refine ak F F (aC oM) ?_ | (refine ac F (by first | rfl | (refine decide_eq_true ?_;(omega))) ?_) | refine ad F (aC oM) ?_ | (refine aj (am (id:=11) _ (fun _ h=>h) ai ?_);refine jW 0 [0,1,2,3,4,5,6,7] (aa 8 255) ?_;refine jQ ?_))
   all_goals (try rw [hdl])
   all_goals refine jY (vs:=[_,_,_]) ?_
   all_goals (rw [hc3];exact (aD _ _ _).trans (congrArg (fun z : Int=>Tu [I z,S (s.drop (1 + 1)),Bo true]) oM))
  ·rw [qx h1] at hng
   repeat' (first | refine jM ?_ | (refine jo ?_;refine aG F ?_) | refine ax F F (ay oM) ?_ | refine ac F F ?_ | refine ad F (aC oM) ?_)
   refine Nx.re (d:=5) (v':=I ((m + c.toNat % 128 * 128 : Nat) : Int)) F (congrArg (Value.int .i64) (by rw [hc3];omega)) ?_
   refine Nx.re (d:=6) (v':=I (dt 2)) F (congrArg (Value.int .i64) (by show _ = (16384 : Int);omega)) ?_
   refine Nx.re (d:=7) (v':=I ((2 : Nat) : Int)) F (congrArg (Value.int .i64) F) ?_
   exact aY (2,m + c.toNat % 128 * 128) ⟨⟨oM,oM⟩,by show _ < _;simp only [jy];omega,hng⟩ oM tU rfl aZ
 ·have hm : m < 16384:=hm
  rw [show dt 2 = 16384 from rfl]
  by_cases h1 : c.toNat < 128
  ·by_cases h0 : c.toNat = 0
   ·rw [m4 h0 dC] at hng
    rw [hng]
    repeat' (first | refine jM ?_ | (refine jo ?_;refine aG F ?_) | (refine ax F F (by first | rfl | (refine decide_eq_true ?_;(omega))) ?_) | (refine ac F (by first | rfl | (refine decide_eq_true ?_;(omega))) ?_))
    all_goals refine jY (vs:=[_,_,_]) ?_
    all_goals rfl
   by_cases hbig : m + c.toNat * 16384 ≤ 999999
   case neg =>
    rw [qz h1 hbig] at hng
    rw [hng]
    repeat' (first | refine jM ?_ | (refine jo ?_;first | refine aG F ?_ | refine ar F ?_) | (refine ax F F (by first | rfl | (refine decide_eq_true ?_;(omega))) ?_) | refine ak F F (aC oM) ?_ | (refine ac F (by first | rfl | (refine decide_eq_true ?_;(omega))) ?_))
    all_goals refine jY (vs:=[_,_,_]) ?_
    all_goals rfl
   rw [qr h1 h0 hbig] at hng
   rw [hng]
   repeat' (first | refine jM ?_ | (refine jo ?_;first | refine aG F ?_ | refine ar F ?_) | (refine ax F F (by first | rfl | (refine decide_eq_true ?_;(omega))) ?_) | refine ak F F (aC oM) ?_ | (refine ac F (by first | rfl | (refine decide_eq_true ?_;(omega))) ?_) | refine ad F (aC oM) ?_ | (refine aj (am (id:=11) _ (fun _ h=>h) ai ?_);refine jW 0 [0,1,2,3,4,5,6,7] (aa 8 255) ?_;refine jQ ?_))
   all_goals (try rw [hdl])
   all_goals refine jY (vs:=[_,_,_]) ?_
   all_goals (rw [hc3];exact (aD _ _ _).trans (congrArg (fun z : Int=>Tu [I z,S (s.drop (2 + 1)),Bo true]) oM))
  ·rw [qv h1] at hng
   repeat' (first | refine jM ?_ | (refine jo ?_;refine aG F ?_) | refine ax F F (ay oM) ?_ | refine ac F F ?_ | refine ad F (aC oM) ?_)
   refine Nx.re (d:=5) (v':=I ((m + c.toNat % 128 * 16384 : Nat) : Int)) F (congrArg (Value.int .i64) (by rw [hc3];omega)) ?_
   refine Nx.re (d:=6) (v':=I (dt 3)) F (congrArg (Value.int .i64) (by show _ = (2097152 : Int);omega)) ?_
   refine Nx.re (d:=7) (v':=I ((3 : Nat) : Int)) F (congrArg (Value.int .i64) F) ?_
   exact aY (3,m + c.toNat % 128 * 16384) ⟨⟨oM,oM⟩,by show _ < _;simp only [jy];omega,hng⟩ oM tU rfl aZ
theorem ku {s : ac8} (hs : s.length ≤ 1000000) : an ac7 76 [S s] G (· = ngV (bj s)):=by
 refine jE [(0,_)] Tryz.func76 Tryz.ntmps76 fun B hB=>?_
 repeat' (refine jR ?_)
 refine aT (ι:=Nat × Nat) (fun q=>(q.1 ≤ s.length ∧ q.1 ≤ 3) ∧ q.2 < jy q.1 ∧ bj s = fM q.1 q.2 (s.drop q.1)) (fun q=>[(0,S s),(5,I q.2),(6,I (dt q.1)),(7,I q.1)]) (fun _=>G) (fun q=>[]) (fun q=>s.length - q.1) (0,0) ?_ tU F aZ (fun q Hq=>?_)
 ·exact ⟨⟨Nat.zero_le _,by decide⟩,by decide,F⟩
 obtain ⟨i,m⟩:=q
 dsimp only at Hq ⊢
 obtain ⟨⟨hi0,hi3⟩,hm,hng⟩:=Hq
 by_cases hi : i < s.length
 case neg =>
  have hno : bj s = none:=by rw [hng,List.drop_of_length_le oM];exact qq
  rw [hno]
  repeat' (first | refine jR ?_ | (refine jo ?_;refine ar F ?_) | refine ak F F (aC oM) ?_ | refine ad F F ?_)
  all_goals refine jY (vs:=[_,_,_]) ?_
  all_goals rfl
 by_cases h3 : i = 3
 ·subst h3
  have hno : bj s = none:=by rw [hng];rfl
  rw [hno]
  repeat' (first | refine jR ?_ | (refine jo ?_;refine aG F ?_) | refine ax F F (ay oM) ?_ | refine ad F F ?_)
  all_goals refine jY (vs:=[_,_,_]) ?_
  all_goals rfl
 obtain ⟨c,hc1,hc2⟩:=fS hi
 rw [hc1] at hng
 have hc3 : bt s ((i : Int).toNat) = c.toNat:=hc2
 have hcl:=c.toNat_lt
 have hdl : s.drop ((i : Int) + 1).toNat = s.drop (i + 1):=by congr 1
 obtain rfl | rfl | rfl : i = 0 ∨ i = 1 ∨ i = 2:=oM
 ·have hm : m < 1:=hm
  rw [show dt 0 = 1 from rfl]
  by_cases h1 : c.toNat < 128
  ·rw [qu h1] at hng
   rw [hng]
   repeat' (first | refine jM ?_ | (refine jo ?_;first | refine aG F ?_ | refine ar F ?_) | refine ax F F (ay oM) ?_ | refine ak F F F ?_ | (refine ac F (by first | rfl | (refine decide_eq_true ?_;(omega))) ?_) | refine ad F (aC oM) ?_ | (refine aj (am (id:=11) _ (fun _ h=>h) ai ?_);refine jW 0 [0,1,2,3,4,5,6,7] (aa 8 255) ?_;refine jQ ?_))
   all_goals (try rw [hdl])
   all_goals refine jY (vs:=[_,_,_]) ?_
   all_goals (rw [hc3];exact (aD _ _ _).trans (congrArg (fun z : Int=>Tu [I z,S (s.drop (0 + 1)),Bo true]) oM))
  ·rw [qy h1] at hng
   repeat' (first | refine jM ?_ | (refine jo ?_;refine aG F ?_) | refine ax F F (ay oM) ?_ | refine ac F F ?_ | refine ad F (aC oM) ?_)
   refine Nx.re (d:=5) (v':=I ((c.toNat % 128 : Nat) : Int)) F (congrArg (Value.int .i64) (by rw [hc3];omega)) ?_
   refine Nx.re (d:=6) (v':=I (dt 1)) F (congrArg (Value.int .i64) F) ?_
   refine Nx.re (d:=7) (v':=I ((1 : Nat) : Int)) F (congrArg (Value.int .i64) F) ?_
   exact aY (1,c.toNat % 128) ⟨⟨oM,oM⟩,by show _ < _;simp only [jy];omega,hng⟩ oM tU rfl aZ
 ·have hm : m < 128:=hm
  rw [show dt 1 = 128 from rfl]
  by_cases h1 : c.toNat < 128
  ·by_cases h0 : c.toNat = 0
   ·rw [m4 h0 dC] at hng
    rw [hng]
    repeat' (first | refine jM ?_ | (refine jo ?_;refine aG F ?_) | (refine ax F F (by first | rfl | (refine decide_eq_true ?_;(omega))) ?_) | (refine ac F (by first | rfl | (refine decide_eq_true ?_;(omega))) ?_))
    all_goals refine jY (vs:=[_,_,_]) ?_
    all_goals rfl
   rw [qt h1 h0] at hng
   rw [hng]
   repeat' (first | refine jM ?_ | (refine jo ?_;first | refine aG F ?_ | refine ar F ?_) | (refine ax F F (by first | rfl | (refine decide_eq_true ?_;(omega))) ?_) | refine ak F F (aC oM) ?_ | (refine ac F (by first | rfl | (refine decide_eq_true ?_;(omega))) ?_) | refine ad F (aC oM) ?_ | (refine aj (am (id:=11) _ (fun _ h=>h) ai ?_);refine jW 0 [0,1,2,3,4,5,6,7] (aa 8 255) ?_;refine jQ ?_))
   all_goals (try rw [hdl])
   all_goals refine jY (vs:=[_,_,_]) ?_
   all_goals (rw [hc3];exact (aD _ _ _).trans (congrArg (fun z : Int=>Tu [I z,S (s.drop (1 + 1)),Bo true]) oM))
  ·rw [qx h1] at hng
   repeat' (first | refine jM ?_ | (refine jo ?_;refine aG F ?_) | refine ax F F (ay oM) ?_ | refine ac F F ?_ | refine ad F (aC oM) ?_)
   refine Nx.re (d:=5) (v':=I ((m + c.toNat % 128 * 128 : Nat) : Int)) F (congrArg (Value.int .i64) (by rw [hc3];omega)) ?_
   refine Nx.re (d:=6) (v':=I (dt 2)) F (congrArg (Value.int .i64) (by show _ = (16384 : Int);omega)) ?_
   refine Nx.re (d:=7) (v':=I ((2 : Nat) : Int)) F (congrArg (Value.int .i64) F) ?_
   exact aY (2,m + c.toNat % 128 * 128) ⟨⟨oM,oM⟩,by show _ < _;simp only [jy];omega,hng⟩ oM tU rfl aZ
 ·have hm : m < 16384:=hm
  rw [show dt 2 = 16384 from rfl]
  by_cases h1 : c.toNat < 128
  ·by_cases h0 : c.toNat = 0
   ·rw [m4 h0 dC] at hng
    rw [hng]
    repeat' (first | refine jM ?_ | (refine jo ?_;refine aG F ?_) | (refine ax F F (by first | rfl | (refine decide_eq_true ?_;(omega))) ?_) | (refine ac F (by first | rfl | (refine decide_eq_true ?_;(omega))) ?_))
    all_goals refine jY (vs:=[_,_,_]) ?_
    all_goals rfl
   by_cases hbig : m + c.toNat * 16384 ≤ 999999
   case neg =>
    rw [qz h1 hbig] at hng
    rw [hng]
    repeat' (first | refine jM ?_ | (refine jo ?_;first | refine aG F ?_ | refine ar F ?_) | (refine ax F F (by first | rfl | (refine decide_eq_true ?_;(omega))) ?_) | refine ak F F (aC oM) ?_ | (refine ac F (by first | rfl | (refine decide_eq_true ?_;(omega))) ?_))
    all_goals refine jY (vs:=[_,_,_]) ?_
    all_goals rfl
   rw [qr h1 h0 hbig] at hng
   rw [hng]
   repeat' (first | refine jM ?_ | (refine jo ?_;first | refine aG F ?_ | refine ar F ?_) | (refine ax F F (by first | rfl | (refine decide_eq_true ?_;(omega))) ?_) | refine ak F F (aC oM) ?_ | (refine ac F (by first | rfl | (refine decide_eq_true ?_;(omega))) ?_) | refine ad F (aC oM) ?_ | (refine aj (am (id:=11) _ (fun _ h=>h) ai ?_);refine jW 0 [0,1,2,3,4,5,6,7] (aa 8 255) ?_;refine jQ ?_))
   all_goals (try rw [hdl])
   all_goals refine jY (vs:=[_,_,_]) ?_
   all_goals (rw [hc3];exact (aD _ _ _).trans (congrArg (fun z : Int=>Tu [I z,S (s.drop (2 + 1)),Bo true]) oM))
  ·rw [qv h1] at hng
   repeat' (first | refine jM ?_ | (refine jo ?_;refine aG F ?_) | refine ax F F (ay oM) ?_ | refine ac F F ?_ | refine ad F (aC oM) ?_)
   refine Nx.re (d:=5) (v':=I ((m + c.toNat % 128 * 16384 : Nat) : Int)) F (congrArg (Value.int .i64) (by rw [hc3];omega)) ?_
   refine Nx.re (d:=6) (v':=I (dt 3)) F (congrArg (Value.int .i64) (by show _ = (2097152 : Int);omega)) ?_
   refine Nx.re (d:=7) (v':=I ((3 : Nat) : Int)) F (congrArg (Value.int .i64) F) ?_
   exact aY (3,m + c.toNat % 128 * 16384) ⟨⟨oM,oM⟩,by show _ < _;simp only [jy];omega,hng⟩ oM tU rfl aZ
theorem ot {s : ac8} (hs : s.length ≤ 1000000) : an ac7 203 [S s] G (· = tkV (b5 s)):=by
 have cx_ng0:=d7 (G:=G) (s:=s) hs
 unfold b5
 cases hg : bj s with
 | none =>
  rw [hg] at cx_ng0
  have cx_ng : an ac7 78 [S s] G (· = Tu [I 0,S [],Bo false]):=cx_ng0
  refine jE [(0,_)] Tryz.func203 Tryz.ntmps203 fun B hB=>?_
  repeat' (first | refine jR ?_ | (refine jo ?_;first | refine aG F ?_ | refine ab F F F cx_ng F ?_) | refine ax F F F ?_ | refine ac F F ?_)
  all_goals refine jY (vs:=[_,_,_]) ?_
  all_goals rfl
 | some z =>
  obtain ⟨n,r⟩:=z
  obtain ⟨h0,h1,_⟩:=cn hg
  have hl:=bE hg
  rw [hg] at cx_ng0
  have cx_ng : an ac7 78 [S s] G (· = Tu [I n,S r,Bo true]):=cx_ng0
  dsimp only
  by_cases hb : n.toNat ≤ r.length
  ·rw [if_pos hb]
   refine jE [(0,_)] Tryz.func203 Tryz.ntmps203 fun B hB=>?_
   repeat' (first | refine jR ?_ | (refine jo ?_;first | refine ar F ?_ | refine ab F F F cx_ng F ?_) | refine ak F F F ?_ | refine ad F (aC oM) ?_ | (refine aj (am (id:=4) _ (fun _ h=>h) ai ?_);refine jW 0 [0,1,2,3,4,5,6,7,8] (aa 9 511) ?_;refine jQ ?_))
   all_goals refine jY (vs:=[_,_,_]) ?_
   all_goals rfl
  ·rw [if_neg hb]
   refine jE [(0,_)] Tryz.func203 Tryz.ntmps203 fun B hB=>?_
   repeat' (first | refine jR ?_ | (refine jo ?_;first | refine ar F ?_ | refine ab F F F cx_ng F ?_) | refine ak F F F ?_ | refine ac F (ay oM) ?_)
   all_goals refine jY (vs:=[_,_,_]) ?_
   all_goals rfl
def cD (s : ac8) : ac8 × Nat × Bool :=
 if bt s 0 ≠ 126 then ([],0,false)
 else if s.length = 1 then ([],0,true)
 else if 100 < bt s 1 then ([],0,false)
 else if s.length < 2 + bt s 1 then ([],0,true)
 else
  let body:=(s.take (2 + bt s 1)).drop 2
  if (frame body).isPrefixOf s then (body,(frame body).length,false)
  else if s.isPrefixOf (frame body) then ([],0,true)
  else ([],0,false)
def fg (s : ac8) : List ac8 × Nat × ac8 :=
 if h : s = [] then ([],0,[])
 else if 0 < (cD s).2.1 then
  let r:=fg (s.drop (cD s).2.1)
  ((cD s).1 :: r.1,r.2.1,r.2.2)
 else if (cD s).2.2 then ([],0,s)
 else
  let r:=fg (s.drop 1)
  (r.1,r.2.1 + 1,r.2.2)
termination_by s.length
decreasing_by
 all_goals simp only [List.length_drop]
 all_goals have:=List.length_pos_iff.2 h
 all_goals omega
theorem pg : fg [] = ([],0,[]):=by rw [fg];simp
theorem ph {s : ac8} (h : s ≠ []) (h1 : 0 < (cD s).2.1) : fg s = ((cD s).1 :: (fg (s.drop (cD s).2.1)).1,(fg (s.drop (cD s).2.1)).2.1,(fg (s.drop (cD s).2.1)).2.2):=by
 rw [fg];simp [h,h1]
theorem rY {s : ac8} (h : s ≠ []) (h1 : ¬ 0 < (cD s).2.1) (h2 : (cD s).2.2 = true) : fg s = ([],0,s):=by
 rw [fg];simp [h,h1,h2]
theorem pU {s : ac8} (h : s ≠ []) (h1 : ¬ 0 < (cD s).2.1) (h2 : (cD s).2.2 = false) : fg s = ((fg (s.drop 1)).1,(fg (s.drop 1)).2.1 + 1,(fg (s.drop 1)).2.2):=by
 rw [fg];simp [h,h1,h2]
def cq (s : ac8) : List ac8 × Nat × ac8:=if s.length ≤ 2000 then fg s else ([],0,[])
theorem yP (s : ac8) : (cD s).2.1 ≤ s.length:=by
 unfold cD
 split;· simp
 split;· simp
 split;· simp
 split;· simp
 simp only
 split
 ·rename_i h
  exact (List.isPrefixOf_iff_prefix.1 h).length_le
 split <;> simp
theorem rT {b : ac8} (h : b.length ≤ 100) : frame b = u8 126 :: u8 b.length :: (b ++ aX (eD b)):=by
 simp [frame,fu (n:=b.length) oM oM]
theorem xx (c : UInt8) (l : ac8) : bt (c :: l) 0 = c.toNat:=by simp [bt,List.getD]
theorem xw (c d : UInt8) (l : ac8) : bt (c :: d :: l) 1 = d.toNat:=by simp [bt,List.getD]
theorem l3 {k : Nat} (h : k < 256) : (u8 (k : Int)).toNat = k:=by have:=ep (a:=(k : Int)) oM;omega
theorem lu {b r : ac8} (h : b.length ≤ 100) : cD (frame b ++ r) = (b,(frame b).length,false):=by
 have e:=rT h
 have e1 : bt (frame b ++ r) 0 = 126:=by rw [e,List.cons_append,xx];exact l3 dC
 have e2 : bt (frame b ++ r) 1 = b.length:=by rw [e,List.cons_append,List.cons_append,xw];exact l3 oM
 have e3 : (frame b ++ r).length = b.length + 2 + (aX (eD b)).length + r.length:=by rw [e];simp;omega
 have e4 : ((frame b ++ r).take (2 + b.length)).drop 2 = b:=by
  rw [e];simp [Nat.add_comm 2,List.take_append]
 unfold cD
 rw [e1,if_neg (by simp),if_neg (by rw [e3];have : (aX (eD b)).length ≠ 0:=by { unfold aX;rw [num];split <;> simp };omega),e2,if_neg oM,if_neg oM,e4]
 simp
theorem ke {b : ac8} (h : b.length ≤ 100) : cq (frame b) = ([b],0,[]):=by
 have h1:=fG b oM
 have h2:=lu (b:=b) (r:=[]) h
 simp only [List.append_nil] at h2
 have h3 : frame b ≠ []:=by rw [rT h];simp
 have h4 : 0 < (frame b).length:=List.length_pos_iff.2 h3
 rw [cq,if_pos oM,ph h3 (by rw [h2];exact h4),h2]
 simp [pg]
theorem yW {s : ac8} (h : ((bt s 0 : Nat) : Int) ≠ 126) : cD s = ([],0,false):=by unfold cD;rw [if_pos oM]
theorem yV {s : ac8} (h : ¬ ((bt s 0 : Nat) : Int) ≠ 126) (h2 : (s.length : Int) = 1) : cD s = ([],0,true):=by unfold cD;rw [if_neg oM,if_pos oM]
theorem yU {s : ac8} (h : ¬ ((bt s 0 : Nat) : Int) ≠ 126) (h2 : ¬ (s.length : Int) = 1) (h3 : 100 < ((bt s 1 : Nat) : Int)) : cD s = ([],0,false):=by unfold cD;rw [if_neg oM,if_neg oM,if_pos oM]
theorem yT {s : ac8} (h : ¬ ((bt s 0 : Nat) : Int) ≠ 126) (h2 : ¬ (s.length : Int) = 1) (h3 : ¬ 100 < ((bt s 1 : Nat) : Int)) (h4 : (s.length : Int) < 2 + ((bt s 1 : Nat) : Int)) : cD s = ([],0,true):=by
 unfold cD;rw [if_neg oM,if_neg oM,if_neg oM,if_pos oM]
theorem rU {s : ac8} (h : ¬ ((bt s 0 : Nat) : Int) ≠ 126) (h2 : ¬ (s.length : Int) = 1) (h3 : ¬ 100 < ((bt s 1 : Nat) : Int)) (h4 : ¬ (s.length : Int) < 2 + ((bt s 1 : Nat) : Int)) :
  cD s = if (frame ((s.take (2 + (bt s 1 : Int)).toNat).drop 2)).isPrefixOf s then ((s.take (2 + (bt s 1 : Int)).toNat).drop 2,(frame ((s.take (2 + (bt s 1 : Int)).toNat).drop 2)).length,false)
   else if s.isPrefixOf (frame ((s.take (2 + (bt s 1 : Int)).toNat).drop 2)) then ([],0,true) else ([],0,false):=by
 unfold cD;rw [if_neg oM,if_neg oM,if_neg oM,if_neg oM]
 rw [show (2 + (bt s 1 : Int)).toNat = 2 + bt s 1 by omega]
theorem n0 {s : ac8} (h3 : ¬ 100 < ((bt s 1 : Nat) : Int)) : fZ ((s.take (2 + (bt s 1 : Int)).toNat).drop 2) = frame ((s.take (2 + (bt s 1 : Int)).toNat).drop 2):=by
 rw [fZ,if_pos (by simp;omega)]
theorem yS {s : ac8} (h : ¬ ((bt s 0 : Nat) : Int) ≠ 126) (h2 : ¬ (s.length : Int) = 1) (h3 : ¬ 100 < ((bt s 1 : Nat) : Int)) (h4 : ¬ (s.length : Int) < 2 + ((bt s 1 : Nat) : Int))
  (hp : (fZ ((s.take (2 + (bt s 1 : Int)).toNat).drop 2)).isPrefixOf s = true) : cD s = ((s.take (2 + (bt s 1 : Int)).toNat).drop 2,(fZ ((s.take (2 + (bt s 1 : Int)).toNat).drop 2)).length,false):=by
 rw [rU h h2 h3 h4,← n0 h3,if_pos hp]
theorem yR {s : ac8} (h : ¬ ((bt s 0 : Nat) : Int) ≠ 126) (h2 : ¬ (s.length : Int) = 1) (h3 : ¬ 100 < ((bt s 1 : Nat) : Int)) (h4 : ¬ (s.length : Int) < 2 + ((bt s 1 : Nat) : Int))
  (hp : (fZ ((s.take (2 + (bt s 1 : Int)).toNat).drop 2)).isPrefixOf s = false) (hq : s.isPrefixOf (fZ ((s.take (2 + (bt s 1 : Int)).toNat).drop 2)) = true) : cD s = ([],0,true):=by
 rw [rU h h2 h3 h4,← n0 h3,if_neg (by rw [hp];decide),if_pos hq]
theorem yQ {s : ac8} (h : ¬ ((bt s 0 : Nat) : Int) ≠ 126) (h2 : ¬ (s.length : Int) = 1) (h3 : ¬ 100 < ((bt s 1 : Nat) : Int)) (h4 : ¬ (s.length : Int) < 2 + ((bt s 1 : Nat) : Int))
  (hp : (fZ ((s.take (2 + (bt s 1 : Int)).toNat).drop 2)).isPrefixOf s = false) (hq : s.isPrefixOf (fZ ((s.take (2 + (bt s 1 : Int)).toNat).drop 2)) = false) : cD s = ([],0,false):=by
 rw [rU h h2 h3 h4,← n0 h3,if_neg (by rw [hp];decide),if_neg (by rw [hq];decide)]
def em (s : ac8) : Option ac8:=if s.length ≤ 2000 ∧ (cq s).2.1 = 0 ∧ (cq s).2.2 = [] then (match (cq s).1 with
 | [b]=>some b
 | _=>none) else none
theorem w9 {s : ac8} (h : 0 < (cD s).2.1) : (cD s).1.length ≤ 100 ∧ ∃ r,s = frame (cD s).1 ++ r ∧ s.drop (cD s).2.1 = r:=by
 unfold cD at h ⊢
 split at h
 ·exact absurd h (by simp)
 rw [if_neg aS]
 split at h
 ·exact absurd h (by simp)
 rw [if_neg aS]
 split at h
 ·exact absurd h (by simp)
 rw [if_neg aS]
 split at h
 ·exact absurd h (by simp)
 rw [if_neg aS]
 dsimp only at h ⊢
 split at h
 ·rename_i h1 h2 h3 h4 h5
  rw [if_pos h5]
  dsimp only
  obtain ⟨r,hr⟩:=List.isPrefixOf_iff_prefix.1 h5
  refine ⟨by simp;omega,r,hr.symm,?_⟩
  have e : ∀ bd : ac8,bd ++ r = s → s.drop bd.length = r:=fun bd h=>by rw [← h,List.drop_left]
  exact e _ hr
 ·split at h
  ·exact absurd h (by simp)
  ·exact absurd h (by simp)
theorem gh {s b : ac8} : em s = some b ↔ b.length ≤ 100 ∧ s = frame b:=by
 constructor
 ·intro h
  unfold em at h
  split at h
  ·rename_i hc
   obtain ⟨h1,h2,h3⟩:=hc
   have e : cq s = fg s:=by rw [cq,if_pos h1]
   rw [e] at h h2 h3
   by_cases hs : s = []
   ·subst hs;rw [pg] at h;cases h
   by_cases hh : 0 < (cD s).2.1
   ·obtain ⟨g1,r,g2,g3⟩:=w9 hh
    rw [ph hs hh,g3] at h h2 h3
    dsimp only at h h2 h3
    by_cases hr : r = []
    ·subst hr
     rw [pg] at h
     dsimp only at h
     simp only [Option.some.injEq] at h;subst h
     exact ⟨g1,by rw [List.append_nil] at g2;exact g2⟩
    ·exfalso
     by_cases hh2 : 0 < (cD r).2.1
     ·rw [ph hr hh2] at h
      simp at h
     ·by_cases hm : (cD r).2.2 = true
      ·rw [rY hr hh2 hm] at h3;exact hr h3
      ·rw [pU hr hh2 (by simpa using hm)] at h2
       simp at h2
   ·exfalso
    by_cases hm : (cD s).2.2 = true
    ·rw [rY hs hh hm] at h3;exact hs h3
    ·rw [pU hs hh (by simpa using hm)] at h2
     simp at h2
  ·cases h
 ·rintro ⟨h,rfl⟩
  have h1:=fG b oM
  unfold em
  rw [ke h,if_pos ⟨oM,rfl,rfl⟩]
theorem lj {s b : ac8} (h : em s = some b) : b.length ≤ 100:=(gh.1 h).1
theorem vR {a b r q : ac8} (ha : a.length ≤ 100) (hb : b.length ≤ 100) (h : frame a ++ r = frame b ++ q) : a = b ∧ r = q:=by
 have h1:=lu (b:=a) (r:=r) ha
 have h2:=lu (b:=b) (r:=q) hb
 rw [h,h2] at h1
 simp only [Prod.mk.injEq] at h1
 obtain ⟨rfl,_⟩:=h1
 exact ⟨F,List.append_cancel_left h⟩
theorem vQ {s : ac8} {b r : ac8} (hb : b.length ≤ 100) (h : 126 :: s = frame b ++ r) : bj s = some (((b.length : Nat) : Int),b ++ (aX (eD b) ++ r)):=by
 have e : s = aX b.length ++ (b ++ (aX (eD b) ++ r)):=by
  unfold frame at h
  simp only [List.cons_append,List.nil_append,List.cons.injEq,List.append_assoc] at h
  exact h.2
 rw [e]
 exact gq oM oM _
theorem wo {s : ac8} (hs : s ≠ []) (hs2 : s.length ≤ 9000000000000000000) : an ac7 111 [S s] G (· = Tu [S (cD s).1,I (cD s).2.1,Bo (cD s).2.2]):=by
 have h0:=List.length_pos_iff.2 hs
 refine jE [(0,_)] Tryz.func111 Tryz.ntmps111 fun B hB=>?_
 repeat' (first | refine jX ?_ | (refine jo ?_;first | (refine ab F F F (im ?_) F ?_;(focus ((simp;omega);done))) | refine ab F F F f2 F ?_) | refine cB F (fun _=>?_) (fun _=>?_) | refine gX F (fun _=>?_) (fun _=>?_))
 all_goals refine jY (vs:=[_,_,_]) ?_
 all_goals rw [aD]
 ·rw [yW aS];rfl
 ·rw [yV aS aS];rfl
 ·rw [yU aS aS aS];rfl
 ·rw [yT aS aS aS aS];rfl
 ·rw [yS aS aS aS aS aS];rfl
 ·rw [yR aS aS aS aS aS aS];rfl
 ·rw [yQ aS aS aS aS aS aS];rfl
theorem mL {s : ac8} (hs : s.length ≤ 9000000000000000000) : bM ac7 75 [S s] G [] (fun v L'=>∃ u,v = Tu [u,I (cq s).2.1,S (cq s).2.2,Bo (decide (s.length ≤ 2000))] ∧ L' = [.acc u ky 1 (cq s).1.length (iG (cq s).1)] ∧ qW u (cq s).1.length):=by
 by_cases h : s.length ≤ 2000
 ·have e : cq s = fg s:=by rw [cq,if_pos h]
  rw [e,decide_eq_true h]
  refine jH [(0,_)] Tryz.func75 Tryz.ntmps75 fun B hB hW=>?_
  repeat' (first | refine jR ?_ | refine ad F (aC oM) ?_)
  refine Nx.addNil ky 1 ?_
  refine aT (ι:=Value × List ac8 × Nat × ac8) (fun i=>i.2.1.length + i.2.2.1 + i.2.2.2.length ≤ 2000 ∧ (i.2.1 ++ (fg i.2.2.2).1,i.2.2.1 + (fg i.2.2.2).2.1,(fg i.2.2.2).2.2) = fg s) (fun i=>[(0,S i.2.2.2),(6,i.1),(7,I i.2.2.1)]) (fun _=>G) (fun i=>[.acc i.1 ky 1 i.2.1.length (iG i.2.1)]) (fun i=>i.2.2.2.length) (aI,[],0,s) ?_ tU F aZ (fun i hI=>?_)
  ·dsimp only;refine ⟨by simp;omega,by simp⟩
  ·obtain ⟨u,xs,j,t⟩:=i
   dsimp only at hI ⊢
   have hle:=yP t
   by_cases ht : t = []
   ·subst ht
    have e2 : fg s = (xs,j,[]):=by rw [← hI.2,pg];simp
    repeat' (first | refine jR ?_ | refine ad F F ?_)
    exact Nx.shp (.head _) fun hsh=>aP (vs:=[_,_,_,_]) F ⟨F,F,F,F,trivial⟩ F (List.Sublist.refl _) ⟨F,u,by rw [e2];rfl,by rw [e2],by rw [e2];exact hsh⟩
   ·have hpos:=List.length_pos_iff.2 ht
    repeat' (first | refine jM ?_ | (refine jo ?_;first | refine jF fun _=>?_ | refine ng F F F F F F F F oM fun _=>?_ | (refine ab F F F (wo (by (repeat (assumption));done) oM) rfl ?_)) | refine ac F (ay ‹_›) ?_ | refine cB F (fun _=>?_) (fun _=>?_) | refine gX F (fun _=>?_) (fun _=>?_))
    ·rename_i hh _ _
     have e2:=ph ht oM
     refine aY (_,xs ++ [(cD t).1],j,t.drop (cD t).2.1) ?_ ?_ tU F (by dsimp only;simp only [jP,List.length_append,List.length_cons,List.length_nil,Nat.zero_add];repeat (first | exact List.nil_sublist _ | apply List.Sublist.cons_cons))
     ·dsimp only
      refine ⟨by simp;omega,?_⟩
      rw [← hI.2,e2];simp
     ·dsimp only;simp;omega
    ·rename_i hh hm
     have e2 : fg s = (xs,j,t):=by rw [← hI.2,rY ht oM hm];simp
     exact Nx.shp (.head _) fun hsh=>aP (vs:=[_,_,_,_]) F ⟨F,F,F,F,trivial⟩ F (List.Sublist.refl _) ⟨F,u,by rw [e2];rfl,by rw [e2],by rw [e2];exact hsh⟩
    ·rename_i hh hm
     have e2:=pU ht oM hm
     refine aY (u,xs,j + 1,t.drop 1) ?_ ?_ tU F aZ
     ·dsimp only
      refine ⟨by simp;omega,?_⟩
      rw [← hI.2,e2];simp;omega
     ·dsimp only;simp;omega
 ·have e : cq s = ([],0,[]):=by rw [cq,if_neg h]
  rw [e,decide_eq_false h]
  refine jH [(0,_)] Tryz.func75 Tryz.ntmps75 fun B hB hW=>?_
  repeat' (first | refine jR ?_ | refine ac F (ay oM) ?_)
  refine Nx.addNil ky 1 ?_
  exact aP (vs:=[_,_,_,_]) F ⟨F,F,F,F,trivial⟩ F (List.Sublist.refl _) ⟨F,_,F,F,.inl ⟨F,F⟩⟩
theorem wi {s : ac8} {top : Int} (hs : s.length ≤ 2) (ht : 0 ≤ top ∧ top ≤ 1000) : an ac7 202 [S s,I top] G (fun v=>∃ gb,v = Bo gb):=by
 refine jE [(0,_),(1,_)] Tryz.func202 Tryz.ntmps202 fun B hB=>?_
 repeat' (refine jR ?_)
 refine aT (ι:=Nat × Int) (fun q=>q.1 ≤ s.length ∧ 0 ≤ q.2 ∧ q.2 < dt q.1) (fun q=>[(0,S s),(1,I top),(5,I q.2),(6,I (dt q.1)),(7,I q.1)]) (fun _=>G) (fun q=>[]) (fun q=>s.length - q.1) (0,0) ?_ tU F aZ (fun q Hq=>?_)
 ·exact ⟨Nat.zero_le _,by decide,by decide⟩
 obtain ⟨i,m⟩:=q
 dsimp only at Hq ⊢
 obtain ⟨hi0,hm0,hm1⟩:=Hq
 by_cases hi : i < s.length
 ·have hbl:=gN s i
  obtain rfl | rfl : i = 0 ∨ i = 1:=oM
  ·have hm1 : m < 1:=hm1
   rw [show dt 0 = 1 from rfl]
   have hb : bt s ((0 : Nat) : Int).toNat = bt s 0:=rfl
   repeat' (first | refine jM ?_ | refine ac F (ay oM) ?_)
   refine Nx.re (d:=6) (v':=I (dt 1)) F (congrArg (Value.int .i64) (by show _ = (128 : Int);omega)) ?_
   refine Nx.re (d:=7) (v':=I ((1 : Nat) : Int)) F (congrArg (Value.int .i64) F) ?_
   exact aY (1,m + ((bt s ((0 : Nat) : Int).toNat : Nat) : Int) % 128 * 1) ⟨oM,oM,by show _ < _;simp only [dt];omega⟩ oM tU rfl aZ
  ·have hm1 : m < 128:=hm1
   rw [show dt 1 = 128 from rfl]
   have hb : bt s ((1 : Nat) : Int).toNat = bt s 1:=rfl
   repeat' (first | refine jM ?_ | refine ac F (ay oM) ?_)
   refine Nx.re (d:=6) (v':=I (dt 2)) F (congrArg (Value.int .i64) (by show _ = (16384 : Int);omega)) ?_
   refine Nx.re (d:=7) (v':=I ((2 : Nat) : Int)) F (congrArg (Value.int .i64) F) ?_
   exact aY (2,m + ((bt s ((1 : Nat) : Int).toNat : Nat) : Int) % 128 * 128) ⟨oM,oM,by show _ < _;simp only [dt];omega⟩ oM tU rfl aZ
 ·have hu : 1 ≤ dt i ∧ dt i ≤ 16384:=by
   obtain rfl | rfl | rfl : i = 0 ∨ i = 1 ∨ i = 2:=oM
   all_goals decide
  generalize dt i = un at *
  all_goals repeat' (first | refine jM ?_ | (refine jo ?_;first | refine aG F ?_ | refine ar F ?_) | refine dN F F (fun _=>?_) (fun _=>?_) | refine ad F (aC oM) ?_)
  all_goals refine jY (vs:=[_]) ?_
  all_goals exact ⟨_,F⟩
theorem wg {s r : ac8} {n top : Int} (hs : s.length ≤ 100000) (h : bj s = some (n,r)) : an ac7 182 [S s,I top] G (· = Tu [I n,S r,Bo (decide (n ≤ top)),Bo (decide (n ≤ top))]):=by
 have cx_ng0:=d7 (G:=G) (s:=s) oM
 rw [h] at cx_ng0
 have cx_ng : an ac7 78 [S s] G (· = Tu [I n,S r,Bo true]):=cx_ng0
 refine jE [(0,_),(1,_)] Tryz.func182 Tryz.ntmps182 fun B hB=>?_
 repeat' (first | refine jR ?_ | (refine jo ?_;refine ab F F F cx_ng F ?_) | refine ac F F ?_)
 all_goals refine jY (vs:=[_,_,_,_]) ?_
 all_goals rfl
theorem wh {s : ac8} {top : Int} (hs : s.length ≤ 100000) (ht : 0 ≤ top ∧ top ≤ 1000) (h : bj s = none) : an ac7 182 [S s,I top] G (fun v=>∃ gb,v = Tu [I 0,S s,Bo false,Bo gb]):=by
 have cx_ng0:=d7 (G:=G) (s:=s) oM
 rw [h] at cx_ng0
 have cx_ng : an ac7 78 [S s] G (· = Tu [I 0,S [],Bo false]):=cx_ng0
 by_cases h2 : s.length ≤ 2
 ·have cx_grw:=wi (G:=G) h2 ht
  refine jE [(0,_),(1,_)] Tryz.func182 Tryz.ntmps182 fun B hB=>?_
  repeat' (first | refine jR ?_ | (refine jo ?_;refine ab F F F cx_ng F ?_) | (refine ad F (by first | rfl | (refine decide_eq_false ?_;(omega))) ?_))
  refine aT (ι:=Nat) (fun i=>i ≤ s.length) (fun i=>[(0,S s),(1,I top),(11,I (i : Nat))]) (fun _=>G) (fun i=>[]) (fun i=>s.length - i) 0 ?_ tU F aZ (fun i Hi=>?_)
  ·exact Nat.zero_le _
  by_cases hi : i < s.length
  ·have hbl:=gN s i
   repeat' (first | refine jM ?_ | refine ac F (ay oM) ?_ | refine cB F (fun _=>?_) (fun _=>?_))
   ·refine jY (vs:=[_,_,_,_]) ?_
    exact ⟨_,F⟩
   ·refine Nx.re (d:=11) (v':=I (i + 1 : Nat)) F (congrArg (Value.int .i64) oM) ?_
    exact aY (i + 1) oM oM tU F aZ
  ·repeat' (first | refine jR ?_ | (refine jo ?_;(refine cN F F F cx_grw F ?_;rintro _ ⟨gb,rfl⟩)) | refine ad F (aC oM) ?_)
   all_goals refine jY (vs:=[_,_,_,_]) ?_
   all_goals exact ⟨_,F⟩
 ·refine jE [(0,_),(1,_)] Tryz.func182 Tryz.ntmps182 fun B hB=>?_
  repeat' (first | refine jR ?_ | (refine jo ?_;refine ab F F F cx_ng F ?_) | refine ac F (ay oM) ?_ | refine ad F F ?_)
  all_goals refine jY (vs:=[_,_,_,_]) ?_
  all_goals exact ⟨_,F⟩
theorem pe {b r : ac8} (h : b.length ≤ 100) : frame b ++ r = 126 :: (aX b.length ++ (b ++ (aX (eD b) ++ r))):=by
 unfold frame
 simp only [List.cons_append,List.nil_append,List.append_assoc]
 rfl
def yj (s tx rest : ac8) (ok : Bool) : Prop:=(ok = true → tx.length ≤ 100 ∧ s = frame tx ++ rest) ∧ (ok = false → ∀ b r,b.length ≤ 100 → s ≠ frame b ++ r)
theorem xh {s : ac8} (h0 : s ≠ []) (hs : s.length ≤ 2000) : an ac7 153 [S s] G (fun v=>∃ tx rest ok gr,v = Tu [S tx,S rest,Bo ok,Bo gr] ∧ yj s tx rest ok):=by
 have hnof : ∀ {gr : Bool} {v : Value},(∀ b r,b.length ≤ 100 → s ≠ frame b ++ r) → v = Tu [S [],S s,Bo false,Bo gr] → ∃ tx rest ok gr,v = Tu [S tx,S rest,Bo ok,Bo gr] ∧ yj s tx rest ok:=fun h1 h2=>⟨_,_,_,_,h2,fun h=>(by cases h),fun _=>h1⟩
 cases s with
 | nil=>exact absurd F h0
 | cons c q =>
  have hel : (c :: q).length = q.length + 1:=rfl
  have hc0 : bt (c :: q) (Int.toNat 0) = c.toNat:=bi c q
  by_cases hc : c.toNat = 126
  case neg =>
   have hno : ∀ b r,b.length ≤ 100 → c :: q ≠ frame b ++ r:=fun b r hb e=>by
    rw [pe hb] at e
    simp only [List.cons.injEq] at e
    exact hc (by rw [e.1];rfl)
   refine jE [(0,_)] Tryz.func153 Tryz.ntmps153 fun B hB=>?_
   repeat' (first | refine jM ?_ | refine ac F (ay oM) ?_)
   all_goals refine jY (vs:=[_,_,_,_]) ?_
   all_goals exact hnof hno F
  obtain rfl:=bm hc dC
  have hdr : List.drop (Int.toNat 1) (126 :: q) = q:=rfl
  have hnum : ∀ b r,b.length ≤ 100 → (126 :: q : ac8) = frame b ++ r → bj q = some (((b.length : Nat) : Int),b ++ (aX (eD b) ++ r)):=fun b r hb e=>vQ hb e
  cases hg : bj q with
  | none =>
   have cx_pt0:=wh (G:=G) (s:=q) (top:=100) oM oM hg
   have hno : ∀ b r,b.length ≤ 100 → (126 :: q : ac8) ≠ frame b ++ r:=fun b r hb e=>by
    have:=hnum b r hb e
    rw [hg] at this;cases this
   rw [← hdr] at cx_pt0
   refine jE [(0,_)] Tryz.func153 Tryz.ntmps153 fun B hB=>?_
   repeat' (first | refine jM ?_ | (refine jo ?_;(refine cN F F F cx_pt0 F ?_;rintro _ ⟨gb,rfl⟩)) | refine ac F F ?_ | refine ad F F ?_)
   all_goals refine jY (vs:=[_,_,_,_]) ?_
   all_goals exact hnof hno F
  | some z =>
   obtain ⟨n,r⟩:=z
   obtain ⟨g0,g1,_⟩:=cn hg
   have hl:=bE hg
   have cx_pt1:=wg (G:=G) (s:=q) (top:=100) oM hg
   rw [← hdr] at cx_pt1
   by_cases hn : n ≤ 100
   case neg =>
    rw [decide_eq_false hn] at cx_pt1
    have hno : ∀ b r,b.length ≤ 100 → (126 :: q : ac8) ≠ frame b ++ r:=fun b r hb e=>by
     have:=hnum b r hb e
     rw [hg] at this
     simp only [Option.some.injEq,Prod.mk.injEq] at this
     omega
    refine jE [(0,_)] Tryz.func153 Tryz.ntmps153 fun B hB=>?_
    repeat' (first | refine jM ?_ | (refine jo ?_;refine ab F F F cx_pt1 F ?_) | refine ac F F ?_ | refine ad F F ?_)
    all_goals refine jY (vs:=[_,_,_,_]) ?_
    all_goals exact hnof hno F
   rw [decide_eq_true hn] at cx_pt1
   obtain ⟨m,rfl⟩ : ∃ m : Nat,n = (m : Int):=⟨n.toNat,oM⟩
   by_cases hm : m ≤ r.length
   case neg =>
    have hno : ∀ b r,b.length ≤ 100 → (126 :: q : ac8) ≠ frame b ++ r:=fun b r' hb e=>by
     have:=hnum b r' hb e
     rw [hg] at this
     simp only [Option.some.injEq,Prod.mk.injEq] at this
     obtain ⟨e1,e2⟩:=this
     have:=congrArg List.length e2
     simp only [List.length_append] at this
     omega
    refine jE [(0,_)] Tryz.func153 Tryz.ntmps153 fun B hB=>?_
    repeat' (first | refine jM ?_ | (refine jo ?_;refine ab F F F cx_pt1 F ?_) | refine ac F (ay oM) ?_ | refine ad F F ?_)
    all_goals refine jY (vs:=[_,_,_,_]) ?_
    all_goals exact hnof hno F
   have hq : q = aX m ++ r:=by
    obtain ⟨_,_,h⟩:=cn hg
    exact h
   have htl : (r.take m).length = m:=by rw [List.length_take];omega
   have htk : r.take ((m : Nat) : Int).toNat = r.take m:=rfl
   have hdk : r.drop ((m : Nat) : Int).toNat = r.drop m:=rfl
   have hsr:=iN (r.take m)
   have hsl:=k3 (r.take m)
   have hdl : (r.drop m).length = r.length - m:=List.length_drop
   have hall : ∀ b r',b.length ≤ 100 → (126 :: q : ac8) = frame b ++ r' → r.drop m = aX (eD (r.take m)) ++ r':=fun b r' hb e=>by
    have:=hnum b r' hb e
    rw [hg] at this
    simp only [Option.some.injEq,Prod.mk.injEq] at this
    obtain ⟨e1,e2⟩:=this
    have e3 : m = b.length:=oM
    rw [e2,e3,List.drop_left,List.take_left]
   by_cases hsh : (r.drop m).length < (aX (eD (r.take m))).length
   ·have hno : ∀ b r,b.length ≤ 100 → (126 :: q : ac8) ≠ frame b ++ r:=fun b r' hb e=>by
     have:=congrArg List.length (hall b r' hb e)
     simp only [List.length_append] at this
     omega
    refine jE [(0,_)] Tryz.func153 Tryz.ntmps153 fun B hB=>?_
    repeat' (first | refine jM ?_ | (refine jo ?_;first | refine ab F F F cx_pt1 F ?_ | (refine ab F F F (i3 ?_) F ?_;(focus ((simp;omega);done))) | (refine ab F F F (dy ?_) F ?_;(focus ((simp;omega);done)))) | (refine ac F ?_ ?_;(focus ((simp;omega);done))) | (refine ad F (by first | rfl | (refine decide_eq_false ?_;(omega))) ?_) | (refine aj (am (id:=12) _ (fun _ h=>h) ai ?_);refine jW 0 [0,1,2,3,4,5,6,7,8,9,10] (aa 11 2047) ?_;refine jQ ?_))
    all_goals refine jY (vs:=[_,_,_,_]) ?_
    all_goals exact hnof hno F
   by_cases hpre : (r.drop m).take (aX (eD (r.take m))).length = aX (eD (r.take m))
   case neg =>
    have hno : ∀ b r,b.length ≤ 100 → (126 :: q : ac8) ≠ frame b ++ r:=fun b r' hb e=>by
     refine hpre ?_
     rw [hall b r' hb e,List.take_left]
    refine jE [(0,_)] Tryz.func153 Tryz.ntmps153 fun B hB=>?_
    repeat' (first | refine jX ?_ | (refine jo ?_;first | refine ab F F F cx_pt1 F ?_ | (refine ab F F F (i3 ?_) F ?_;(focus ((simp;omega);done))) | (refine ab F F F (dy ?_) F ?_;(focus ((simp;omega);done)))) | refine ac F (ay ‹_›) ?_ | (refine ad F ?_ ?_;(focus ((first | rfl | (refine decide_eq_false ?_;(omega)) | (simp;omega));done))))
    all_goals refine jY (vs:=[_,_,_,_]) ?_
    all_goals exact hnof hno F
   have hyes : (126 :: q : ac8) = frame (r.take m) ++ (r.drop m).drop (aX (eD (r.take m))).length:=by
    rw [pe oM,htl,hq]
    congr 2
    conv=>lhs;rw [← List.take_append_drop m r]
    congr 1
    conv=>lhs;rw [← List.take_append_drop (aX (eD (r.take m))).length (r.drop m),hpre]
   refine jE [(0,_)] Tryz.func153 Tryz.ntmps153 fun B hB=>?_
   repeat' (first | refine jX ?_ | (refine jo ?_;first | refine ab F F F cx_pt1 F ?_ | (refine ab F F F (i3 ?_) F ?_;(focus ((simp;omega);done))) | (refine ab F F F (dy ?_) F ?_;(focus ((simp;omega);done)))) | (refine ad F ?_ ?_;(focus ((first | rfl | (refine decide_eq_false ?_;(omega)) | (simp [*];done) | (simp;omega));done))) | (refine aj (am (id:=15) _ (fun _ h=>h) ai ?_);refine jW 0 [0,1,2,3,4,5,6,7,8] (aa 9 511) ?_;refine jQ ?_))
   all_goals refine jY (vs:=[_,_,_,_]) ?_
   all_goals exact ⟨_,_,_,_,F,fun _=>⟨by rw [htk,htl];omega,hyes⟩,fun h=>(by cases h)⟩
theorem wK {ts : List Ty} {k s : ac8} {u : V} {t : ac8} {N : Nat} (hN : 12 ≤ N) (hl : s.length ≤ 400) (h : rd ts N k s = some (u,t)) : cg ts k s = if t = [] ∧ V.deep u ≤ 12 then some u else none:=by
 unfold cg
 rw [if_pos hl]
 cases h12 : rd ts 12 k s with
 | none =>
  dsimp only
  rw [if_neg]
  rintro ⟨_,hd⟩
  have:=xN _ 12 k s _ h hd
  rw [h12] at this;cases this
 | some x =>
  have h1:=xM (m:=N) hN h12
  rw [h] at h1
  have hd:=k7 _ _ _ _ h12
  obtain rfl:=Option.some.inj h1
  dsimp only at hd ⊢
  cases t with
  | nil=>dsimp only;rw [if_pos ⟨rfl,hd⟩]
  | cons c t=>dsimp only;rw [if_neg (fun h=>by cases h.1)]
theorem wL {ts : List Ty} {k s : ac8} {N : Nat} (hN : 12 ≤ N) (hl : s.length ≤ 400) (h : rd ts N k s = none) : cg ts k s = none:=by
 unfold cg
 rw [if_pos hl]
 cases h12 : rd ts 12 k s with
 | none=>rfl
 | some x=>rw [xM (m:=N) hN h12] at h;cases h
theorem tY {b : Nat} {qs : List cF} {k s : ac8} (hS : ScI G b qs) (hw : SchW (ao qs)) (hk : aO (ao qs) k = true) (hs : s.length ≤ 10000000) :
  bn ac7 92 [Pt b 0,Ag (ew k),S s] G (fun v G'=>(cg (ao qs) k s = none ∧ v = Tu [zP,Bo false]) ∨ ∃ u c,cg (ao qs) k s = some u ∧ v = Tu [Ag (ck c),Bo true] ∧ V.rep G' u c):=by
 unfold ew
 by_cases hl : s.length ≤ 400
 case neg =>
  have hno : cg (ao qs) k s = none:=by unfold cg;rw [if_neg hl]
  refine jB [(0,_),(1,_),(2,_)] Tryz.func92 Tryz.ntmps92 fun B hok hB hW=>?_
  repeat' (first | refine jR ?_ | (refine jo ?_;first | refine jO fun _=>?_ | refine jL fun _=>?_ | refine jV (al F F) ?_ | refine jC F F F ?_) | refine ac F (ay oM) ?_)
  all_goals refine jZ (vs:=[_,_]) F ⟨aF F F F F,F,trivial⟩ F ⟨Gh.le.refl _,F,?_⟩
  all_goals exact .inl ⟨hno,F⟩
 obtain ⟨N,hN⟩ : ∃ N,s.length + 12 ≤ N:=⟨_,Nat.le_refl _⟩
 have hN2 : 12 ≤ N:=oM
 have hV:=ri (sc:=b) hw N
 have cy_vl : ∀ {r : Nat},dq ac7 126 [Pt r 0,Ag (ew k)] G [dR r b s false] (ia (rd (ao qs) N k) r b s false):=fun {r}=>hV G r k s false hS hk oM oM
 refine jB [(0,_),(1,_),(2,_)] Tryz.func92 Tryz.ntmps92 fun B hok hB hW=>?_
 repeat' (first | refine jR ?_ | (refine jo ?_;first | refine jO fun _=>?_ | refine jL fun _=>?_ | refine jV (al F F) ?_ | refine aB F ?_) | refine ad F (aC oM) ?_)
 refine jo ?_
 rename_i r
 refine cI F F F (cy_vl (r:=r)) F ?_
 rintro _ G1 _ hle ⟨u1,c1,t1,b1,rfl,hrep,rfl,hP⟩
 dsimp only [zA,fA]
 obtain ⟨hPl,hP0,hP1⟩:=hP
 cases b1 with
 | true =>
  have hno : cg (ao qs) k s = none:=wL hN2 hl (by rcases (hP1 rfl).1 with h | h;cases h;exact h)
  repeat' (first | refine jR ?_ | (refine jo ?_;first | refine jL fun _=>?_ | refine jV (al F F) ?_ | refine jC F F F ?_ | refine ah F ?_ | refine aG F ?_) | refine ax F F F ?_ | refine ac F F ?_)
  all_goals refine jZ (vs:=[_,_]) F ⟨aF F F F F,F,trivial⟩ F ⟨hle,F,?_⟩
  all_goals exact .inl ⟨hno,F⟩
 | false =>
  have hrd:=(hP0 rfl).2
  have hof:=wK hN2 hl hrd
  have htt:=jc _ _ _ _ hrd
  dsimp only at htt
  by_cases ht : t1 = []
  case neg =>
   have hno : cg (ao qs) k s = none:=by rw [hof,if_neg (fun h=>ht h.1)]
   repeat' (first | refine jR ?_ | (refine jo ?_;first | refine jL fun _=>?_ | refine jV (al F F) ?_ | refine jC F F F ?_ | refine ah F ?_ | refine aG F ?_ | refine ar F ?_) | refine ax F F (ay ‹_›) ?_ | refine ak F F F ?_ | refine ac F F ?_)
   all_goals refine jZ (vs:=[_,_]) F ⟨aF F F F F,F,trivial⟩ F ⟨hle,F,?_⟩
   all_goals exact .inl ⟨hno,F⟩
  have hnn : ¬ t1 ≠ []:=fun h=>h ht
  have cx_dp:=wt (G:=G1) u1.tot (Nat.le_refl _) oM hrep
  have hdt:=n6 u1
  by_cases hd : V.deep u1 ≤ 12
  ·have hyes : cg (ao qs) k s = some u1:=by rw [hof,if_pos ⟨ht,hd⟩]
   repeat' (first | refine jR ?_ | (refine jo ?_;first | refine jL fun _=>?_ | refine jC F F F ?_ | refine ah F ?_ | refine aB F ?_ | refine ar F ?_ | refine ab F F F cx_dp F ?_) | (refine ak F F (by first | rfl | (refine decide_eq_false ?_;(assumption))) ?_) | refine ad F (aC oM) ?_)
   all_goals refine jZ (vs:=[_,_]) F ⟨aF F F F F,F,trivial⟩ F ⟨hle,F,?_⟩
   all_goals exact .inr ⟨u1,c1,hyes,F,hrep⟩
  ·have hno : cg (ao qs) k s = none:=by rw [hof,if_neg (fun h=>hd h.2)]
   repeat' (first | refine jR ?_ | (refine jo ?_;first | refine jL fun _=>?_ | refine jV (al F F) ?_ | refine jC F F F ?_ | refine ah F ?_ | refine aB F ?_ | refine ar F ?_ | refine ab F F F cx_dp F ?_) | (refine ak F F (by first | rfl | (refine decide_eq_false ?_;(assumption))) ?_) | refine ac F (ay oM) ?_)
   all_goals refine jZ (vs:=[_,_]) F ⟨aF F F F F,F,trivial⟩ F ⟨hle,F,?_⟩
   all_goals exact .inl ⟨hno,F⟩
theorem ik {s k : ac8} (h : bQ s k = true) : ∃ ts,aQ s = some ts ∧ aO ts k = true ∧ SchW ts:=by
 unfold bQ at h
 cases h1 : aQ s with
 | none=>rw [h1] at h;cases h
 | some ts=>rw [h1] at h;exact ⟨ts,F,h,cH h1⟩
def ff (s k v : ac8) : Option V:=match aQ s with
 | some ts=>if aO ts k = true then cg ts k v else none
 | none=>none
theorem xl {s k w : ac8} (h : s.length ≤ 1048576 ∧ k.length ≤ 1048576 ∧ w.length ≤ 1048576) (hno : ff s k w = none) : bn ac7 56 [S s,S k,S w] G (fun v _=>∃ p a b c,v = Tu [p,Ag [S a,S b,S c],zP,Bo false]):=by
 by_cases hk : bQ s k = true
 case neg =>
  have cx_bo1 : ∀ G,bn ac7 52 [S s,S k] G (fun v _=>∃ p a b c,v = Tu [p,Ag [S a,S b,S c],Bo false]):=fun G=>by
   refine (jw (G:=G) (s:=s) (k:=k) oM oM).mono ?_
   rintro v G' L' ⟨h1,h2,⟨_,p,a,b,c,rfl⟩ | ⟨b,qs,rfl,h4,h5,_⟩⟩
   ·exact ⟨h1,h2,p,a,b,c,F⟩
   ·exact absurd (by unfold bQ;rw [h4];exact h5) hk
  refine jB [(0,_),(1,_),(2,_)] Tryz.func56 Tryz.ntmps56 fun B hok hB hW=>?_
  repeat' (first | refine jR ?_ | (refine jo ?_;first | refine jL fun _=>?_ | refine jC F F F ?_ | refine jV (al F F) ?_ | (refine aK F F F (cx_bo1 _) F ?_;rintro _ G hle ⟨p1,a1,b1,c1,rfl⟩;skip)) | refine ac F F ?_)
  all_goals refine jZ (vs:=[_,_,_,_]) F ⟨F,aF F F F F,aF F F F F,F,trivial⟩ F ⟨hle,F,?_⟩
  all_goals exact ⟨_,_,_,_,F⟩
 obtain ⟨ts,hs,hki,hw⟩:=ik hk
 have hvo : cg ts k w = none:=by unfold ff at hno;rw [hs] at hno;dsimp only at hno;rwa [if_pos hki] at hno
 have cx_boa : ∀ G,bn ac7 52 [S s,S k] G (fun v G'=>∃ b qs,v = Tu [Pt b 0,Ag [S (sg k),S (bs k),S (nm k)],Bo true] ∧ ao qs = ts ∧ ScI G' b qs):=fun G=>by
  refine (jw (G:=G) (s:=s) (k:=k) oM oM).mono ?_
  rintro v G' L' ⟨h1,h2,⟨h4,_⟩ | ⟨b,qs,rfl,h4,h5,h6⟩⟩
  ·rw [h4] at hk;cases hk
  ·rw [hs] at h4;exact ⟨h1,h2,b,qs,F,(Option.some.inj h4).symm,h6⟩
 have cx_ri0 : ∀ G b qs,ao qs = ts → ScI G b qs → bn ac7 92 [Pt b 0,Ag [S (sg k),S (bs k),S (nm k)],S w] G (fun v _=>v = Tu [zP,Bo false]):=fun G b qs hq hS=>by
  subst hq
  refine (tY (G:=G) (b:=b) (s:=w) hS hw hki oM).mono ?_
  rintro v G' L' ⟨h1,h2,⟨_,rfl⟩ | ⟨u,c,h4,_⟩⟩
  ·exact ⟨h1,h2,F⟩
  ·rw [hvo] at h4;cases h4
 refine jB [(0,_),(1,_),(2,_)] Tryz.func56 Tryz.ntmps56 fun B hok hB hW=>?_
 repeat' (first | refine jR ?_ | (refine jo ?_;first | refine jL fun _=>?_ | refine jC F F F ?_ | refine aB F ?_ | (refine aK F F F (cx_boa _) F ?_;rintro _ G hle ⟨ba,qa,rfl,hT1,hR1⟩;skip) | (refine aK F F F ((cx_ri0 _ _ _) (by (repeat (assumption));done) (by (repeat (assumption));done)) rfl ?_;rintro _ G hle rfl;skip)) | refine ad F F ?_ | (refine aj (dY (id:=5) (tt:=7) F ai ?_);refine jW 5 [0,3,4] (aa 8 25) ?_;(refine jG (aa 8 27) 1 F (bD F F F F) ?_);(refine jG (aa 8 31) 2 F (bD F F F F) ?_);refine jA 5 F ?_;(refine jC F F F ?_);refine jK (aa 8 63) ?_;refine jA 6 F ?_;(refine jC F F F ?_);refine jK (aa 8 127) ?_;refine jW 0 [7] (aa 8 255) ?_;refine jQ ?_))
 all_goals refine jZ (vs:=[_,_,_,_]) F ⟨F,aF F F F F,aF F F F F,F,trivial⟩ F ⟨(Gh.le.trans aS hle),F,?_⟩
 all_goals exact ⟨_,_,_,_,F⟩
theorem xk {s k w : ac8} {u : V} {ts : List Ty} (h : s.length ≤ 1048576 ∧ k.length ≤ 1048576 ∧ w.length ≤ 1048576) (hs : aQ s = some ts) (hki : aO ts k = true) (hvo : cg ts k w = some u) :
  bn ac7 56 [S s,S k,S w] G (fun v G'=>∃ b qs cv,v = Tu [Pt b 0,Ag [S (sg k),S (bs k),S (nm k)],Ag (ck cv),Bo true] ∧ ao qs = ts ∧ ScI G' b qs ∧ V.rep G' u cv):=by
 have hw:=cH hs
 have hk : bQ s k = true:=by unfold bQ;rw [hs];exact hki
 have cx_boa : ∀ G,bn ac7 52 [S s,S k] G (fun v G'=>∃ b qs,v = Tu [Pt b 0,Ag [S (sg k),S (bs k),S (nm k)],Bo true] ∧ ao qs = ts ∧ ScI G' b qs):=fun G=>by
  refine (jw (G:=G) (s:=s) (k:=k) oM oM).mono ?_
  rintro v G' L' ⟨h1,h2,⟨h4,_⟩ | ⟨b,qs,rfl,h4,h5,h6⟩⟩
  ·rw [h4] at hk;cases hk
  ·rw [hs] at h4;exact ⟨h1,h2,b,qs,F,(Option.some.inj h4).symm,h6⟩
 have cx_ri1 : ∀ G b qs,ao qs = ts → ScI G b qs → bn ac7 92 [Pt b 0,Ag [S (sg k),S (bs k),S (nm k)],S w] G (fun v G'=>∃ cv,v = Tu [Ag (ck cv),Bo true] ∧ V.rep G' u cv):=fun G b qs hq hS=>by
  subst hq
  refine (tY (G:=G) (b:=b) (s:=w) hS hw hki oM).mono ?_
  rintro v G' L' ⟨h1,h2,⟨h4,_⟩ | ⟨u',c,h4,rfl,h5⟩⟩
  ·rw [hvo] at h4;cases h4
  ·rw [hvo] at h4;obtain rfl:=Option.some.inj h4;exact ⟨h1,h2,c,F,h5⟩
 refine jB [(0,_),(1,_),(2,_)] Tryz.func56 Tryz.ntmps56 fun B hok hB hW=>?_
 repeat' (first | refine jR ?_ | (refine jo ?_;first | refine jL fun _=>?_ | refine jC F F F ?_ | refine aB F ?_ | (refine aK F F F (cx_boa _) F ?_;rintro _ G hle ⟨ba,qa,rfl,hT1,hR1⟩;skip) | (refine aK F F F ((cx_ri1 _ _ _) (by (repeat (assumption));done) (by (repeat (assumption));done)) rfl ?_;rintro _ G hle ⟨cv,rfl,hrv⟩;skip)) | refine ad F F ?_)
 rename_i x7 x8 Ga hla x11 x13
 dsimp only [ck,VC.sl]
 (refine aj (am (id:=5) [.blk x13 (.cells (List.toArray [U8 (cv.what : Nat),S cv.text,I cv.tag,.slice cv.a cv.n cv.c]) iF (0,0)),.blk x11 (.cells (List.toArray [S (sg k),S (bs k),S (nm k)]) ut (0,0))] (by intro y hy;simp only [List.mem_cons,List.not_mem_nil,or_false] at hy ⊢;rcases hy with hy | hy <;> simp [hy]) ai ?_);refine jW 5 [0,3,4] (aa 8 25) ?_;(refine jG (aa 8 27) 1 F (bD F F F F) ?_);(refine jG (aa 8 31) 2 F (bD F F F F) ?_);refine jA 5 F ?_;(refine jC F F F ?_);refine jK (aa 8 63) ?_;refine jA 6 F ?_;(refine jC F F F ?_);refine jK (aa 8 127) ?_;refine jW 0 [7] (aa 8 255) ?_;refine jQ ?_)
 all_goals repeat' (refine jR ?_)
 all_goals refine jZ (vs:=[_,_,_,_]) F ⟨F,aF F F F F,aF F F F F,F,trivial⟩ F ⟨(Gh.le.trans aS hle),F,?_⟩
 all_goals exact ⟨ba,qa,cv,F,hT1,hR1.mono hle,hrv⟩
def eK (b : Nat) : List Value:=[Pt b 0]
instance : RowF eK 1:=⟨fun _=>rfl⟩
def gu (n : Int) : List Value:=[I n]
instance : RowF gu 1:=⟨fun _=>rfl⟩
abbrev acL : TypeId:=9
abbrev qj : TypeId:=147
inductive RepR (G : Gh) (ts : List Ty) : V → ac8 → Nat → Prop
 | leaf (w : Nat) (x k tx : ac8) (b : Nat) : b7 G b 0 [S k,S tx,aI,aI] → ((w = 110 ∧ k = [110] ∧ tx = x ∧ ∀ c ∈ x,a8 c = true) ∨ (w = 116 ∧ k = [116] ∧ tx = 39 :: (x ++ [39])) ∨ (w = 102 ∧ k = [102] ∧ tx = x ∧ (x = [121,101,115] ∨ x = [110,111]))) → RepR G ts (.nd w x 0 []) k b
 | lst (k : ac8) (b : Nat) (ks : List V) (bs : List Nat) (a : Option Addr) (c : Nat) : b7 G b 0 [S (91 :: k),S [],aI,.slice a ks.length c] → be G (.slice a ks.length c) 1 ks.length (aE eK bs) → bs.length = ks.length → (∀ i,i < ks.length → RepR G ts (ae ks i) k (ae bs i)) → RepR G ts (.nd 91 [] 0 ks) (91 :: k) b
 | non (k : ac8) (b : Nat) : b7 G b 0 [S (63 :: k),S [],aI,aI] → RepR G ts (.nd 63 [] 0 []) (63 :: k) b
 | opt (k : ac8) (b kb b' cc : Nat) (v : V) : 1 ≤ cc → b7 G b 0 [S (63 :: k),S [],aI,.slice (some ⟨kb,0,none⟩) 1 cc] → b7 G kb 0 [Pt b' 0] → RepR G ts v k b' → RepR G ts (.nd 63 [] 0 [v]) (63 :: k) b
 | recd (k : ac8) (b : Nat) (t : Ty) (fs : List (Fld × V)) (bs : List Nat) (a a2 : Option Addr) (c c2 : Nat) : a7 ts k = some t ∧ t.sort = 82 → b7 G b 0 [S k,S [82],.slice a fs.length c,.slice a2 fs.length c2] → be G (.slice a fs.length c) 1 fs.length (aE gu (fs.map fun p=>p.1.tag)) → be G (.slice a2 fs.length c2) 1 fs.length (aE eK bs) → bs.length = fs.length → (∀ i,i < fs.length → (ae fs i).1 ∈ t.fields) → (∀ i,i < fs.length → RepR G ts (ae fs i).2 (ae fs i).1.kind (ae bs i)) → RepR G ts (.nd 82 [] 0 (fs.map fun p=>.nd 61 [] p.1.tag [p.2])) k b
 | enm (k : ac8) (b tb : Nat) (t : Ty) (d : Fld) {tc : Nat} : a7 ts k = some t ∧ t.sort = 69 → d ∈ t.fields → b7 G b 0 [S k,S [69],.slice (some ⟨tb,0,none⟩) 1 (tc + 1),aI] → b7 G tb 0 [I d.tag] → RepR G ts (.nd 69 [] d.tag []) k b
 | uni (k : ac8) (b tb kb b' cc : Nat) (t : Ty) (d : Fld) (v : V) {tc : Nat} : 1 ≤ cc → a7 ts k = some t ∧ t.sort = 85 → d ∈ t.fields → b7 G b 0 [S k,S [85],.slice (some ⟨tb,0,none⟩) 1 (tc + 1),.slice (some ⟨kb,0,none⟩) 1 cc] → b7 G tb 0 [I d.tag] → b7 G kb 0 [Pt b' 0] → RepR G ts v d.kind b' → RepR G ts (.nd 85 [] d.tag [v]) k b
theorem RepR.mono {G G' : Gh} {ts : List Ty} (hl : Gh.le G G') {v : V} {k : ac8} {b : Nat} (h : RepR G ts v k b) : RepR G' ts v k b:=by
 induction h with
 | leaf w x k tx b h1 h2=>exact .leaf w x k tx b (h1.mono hl) h2
 | lst k b ks bs a c h1 h2 h3 _ ih=>exact .lst k b ks bs a c (h1.mono hl) (h2.mono hl) h3 ih
 | non k b h1=>exact .non k b (h1.mono hl)
 | opt k b kb b' cc v h0 h1 h2 _ ih=>exact .opt k b kb b' cc v h0 (h1.mono hl) (h2.mono hl) ih
 | recd k b t fs bs a a2 c c2 h0 h1 h2 h3 h4 h5 _ ih=>exact .recd k b t fs bs a a2 c c2 h0 (h1.mono hl) (h2.mono hl) (h3.mono hl) h4 h5 ih
 | enm k b tb t d h0 h1 h2 h3=>exact .enm k b tb t d h0 h1 (h2.mono hl) (h3.mono hl)
 | uni k b tb kb b' cc t d v hcc h0 h1 h2 h3 h4 _ ih=>exact .uni k b tb kb b' cc t d v hcc h0 h1 (h2.mono hl) (h3.mono hl) (h4.mono hl) ih
def cx (ts : List Ty) (f : Option (V × ac8)) (k : ac8) (v : Value) (G' : Gh) : Prop :=
 ∃ q rest ok,v = Tu [.pointer q,S rest,Bo ok] ∧ (ok = true → ∃ w b,q = some ⟨b,0,none⟩ ∧ f = some (w,rest) ∧ RepR G' ts w k b) ∧ (ok = false → f = none)
theorem sH {s : ac8} (hs : s.length ≤ 100000000) : an ac7 200 [S s] G (· = I ((s.takeWhile a8).length : Nat)):=by
 refine jE [(0,_)] Tryz.func200 Tryz.ntmps200 fun B hB=>?_
 repeat' (refine jR ?_)
 refine aT (ι:=Nat) (fun i=>i ≤ s.length ∧ i + ((s.drop i).takeWhile a8).length = (s.takeWhile a8).length) (fun i=>[(0,S s),(3,I i)]) (fun _=>G) (fun i=>[]) (fun i=>s.length - i) 0 ?_ tU F aZ (fun i Hi=>?_)
 ·exact ⟨Nat.zero_le _,by simp⟩
 obtain ⟨hi0,hi1⟩:=Hi
 by_cases hi : i < s.length
 ·obtain ⟨c,hc1,hc2⟩:=fS hi
  have hc3 : bt s ((i : Int).toNat) = c.toNat:=hc2
  rw [hc1,List.takeWhile_cons] at hi1
  by_cases hd : a8 c = true
  ·rw [if_pos hd] at hi1
   have hd2:=hd
   unfold a8 at hd2
   rw [decide_eq_true_eq] at hd2
   simp only [List.length_cons] at hi1
   repeat' (first | refine jM ?_ | (refine jo ?_;refine aG F ?_) | refine ax F F (ay oM) ?_ | refine ac F (ay oM) ?_)
   exact aY (i + 1) ⟨oM,oM⟩ oM tU F aZ
  ·rw [if_neg hd] at hi1
   have hd2 : ¬ (48 ≤ c.toNat ∧ c.toNat ≤ 57):=fun h=>hd (by unfold a8;rw [decide_eq_true_eq];exact h)
   simp only [List.length_nil] at hi1
   repeat' (first | refine jM ?_ | (refine jo ?_;first | refine aG F ?_ | refine ar F ?_) | refine ax F F (ay oM) ?_ | refine dN F F (fun _=>?_) (fun _=>?_) | (refine ad F (by first | rfl | (refine decide_eq_false ?_;(omega))) ?_))
   all_goals refine jY (vs:=[_]) ?_
   all_goals (rw [aw,← hi1];rfl)
 ·have : i = s.length:=oM
  rw [this,List.drop_length] at hi1
  simp only [List.takeWhile_nil,List.length_nil] at hi1
  repeat' (first | refine jR ?_ | (refine jo ?_;refine ar F ?_) | (refine ak F F (by first | rfl | (refine decide_eq_false ?_;(omega))) ?_) | refine ad F F ?_)
  all_goals refine jY (vs:=[_]) ?_
  all_goals (rw [aw,← hi1,this];rfl)
theorem oB (q : UInt8 → Bool) (s : ac8) : s.take ((((s.takeWhile q).length : Nat) : Int)).toNat = s.takeWhile q ∧ s.drop ((((s.takeWhile q).length : Nat) : Int)).toNat = s.dropWhile q:=by
 have h:=List.takeWhile_append_dropWhile (p:=q) (l:=s)
 have e : ((((s.takeWhile q).length : Nat) : Int)).toNat = (s.takeWhile q).length:=oM
 rw [e]
 constructor
 ·have h2 : (s.takeWhile q ++ s.dropWhile q).take (s.takeWhile q).length = s.takeWhile q:=List.take_left
  rwa [h] at h2
 ·have h2 : (s.takeWhile q ++ s.dropWhile q).drop (s.takeWhile q).length = s.dropWhile q:=List.drop_left
  rwa [h] at h2
theorem xf {u : Value} {ts : List Ty} {s : ac8} (hu : u.oneCell' = true) (hs : s.length ≤ 100000000) : bn ac7 181 [Ag [u],S s,S [110]] G (cx ts ((cm 999999 s).map fun x=>(.nd 110 (bz x.1) 0 [],x.2)) [110]):=by
 have cx_dg:=sH (G:=G) hs
 obtain ⟨e1,e2⟩:=oB a8 s
 have hwl:=dK a8 s
 have hlen : (s.take ((((s.takeWhile a8).length : Nat) : Int)).toNat).length ≤ 100000000:=by rw [e1];omega
 refine jB [(0,_),(1,_),(2,_)] Tryz.func181 Tryz.ntmps181 fun B hok hB hW=>?_
 repeat' (first | refine jM ?_ | (refine jo ?_;first | refine jO fun _=>?_ | refine ab F F F cx_dg F ?_ | (refine cN F F F (hO oM) F ?_;rintro _ ⟨n,rfl,hnum⟩)) | refine ac F F ?_ | (refine aj (am (id:=6) _ (fun _ h=>h) ai ?_);refine jW 5 [0,1,2,3,6,7,8,9] (aa 13 975) ?_;(refine jG (aa 13 991) 4 F (al F F) ?_);refine jA 5 F ?_;(refine jO fun _=>?_);refine jS (aa 13 1023) ?_;refine jT 0 [10,11,12] (aa 13 8191) ?_;refine jQ ?_))
 rename_i x3 x4
 refine Nx.sealC (b:=x4) fun G2 hG2 hsy=>?_
 refine jZ (vs:=[_,_,_]) F ⟨F,F,F,trivial⟩ F ⟨hG2,F,?_⟩
 rw [aD]
 rw [e1] at hnum hsy
 rw [e1,e2]
 refine ⟨_,_,_,F,fun h=>?_,fun h=>?_⟩
 ·cases hm : aR (s.takeWhile a8) 999999 with
  | none=>rw [hm] at h;cases h
  | some m =>
   have hmd:=(ee hm).2.1
   refine ⟨.nd 110 (bz m) 0 [],x4,F,by unfold cm;rw [hm];rfl,.leaf 110 _ _ _ _ hsy (.inl ⟨rfl,rfl,hmd,fun c hc=>List.all_eq_true.1 (List.all_takeWhile (l:=s) (p:=a8)) c (by rw [hmd];exact hc)⟩)⟩
 ·cases hm : aR (s.takeWhile a8) 999999 with
  | none=>unfold cm;rw [hm];rfl
  | some m=>rw [hm] at h;cases h
theorem oY {c : UInt8} {r : ac8} {i : Nat} (hc : i ≤ r.length) (hn : ∀ j,j < i → bt r j ≠ 39) (hi : i = r.length ∨ bt r i = 39 ∧ i < r.length) :
  (dm (c :: r) = if df ((c :: r).take (min (i + 2) (r.length + 1))) = true then some (.nd 116 (r.take i) 0 [],r.drop (i + 1)) else none) ∧ (df ((c :: r).take (min (i + 2) (r.length + 1))) = true → (c :: r).take (min (i + 2) (r.length + 1)) = 39 :: (r.take i ++ [39])):=by
 unfold dm
 dsimp only
 rcases hi with hi | ⟨h39,hlt⟩
 ·have hcut : aH 39 r = (r,[],false):=p6 fun j hj=>hn j oM
  have htk : (c :: r).take (min (i + 2) (r.length + 1)) = c :: r:=List.take_of_length_le (by simp;omega)
  have hno : df (c :: r) = false:=by
   unfold df
   refine decide_eq_false fun h=>?_
   obtain ⟨⟨h2,_⟩,_,h3,_⟩:=h
   simp only [List.length_cons] at h2
   rw [show (c :: r).length - 1 = (r.length - 1) + 1 by simp;omega,dW] at h3
   exact hn (r.length - 1) oM h3
  rw [hcut,htk,hno]
  exact ⟨by simp,fun h=>(by cases h)⟩
 ·have hcut:=m9 (k:=39) hlt hn h39
  have htk : (c :: r).take (min (i + 2) (r.length + 1)) = c :: (r.take i ++ [39]):=by
   rw [show min (i + 2) (r.length + 1) = (i + 1) + 1 by omega,List.take_succ_cons,eZ hlt]
   congr 1;congr 1;congr 1
   rw [aW hlt]
   have : bt r i = (r[i]).toNat:=by simp [bt,List.getD,List.getElem?_eq_getElem hlt]
   exact UInt8.toNat_inj.1 (by rw [← this,h39];rfl)
  rw [hcut,htk]
  dsimp only
  by_cases h : c.toNat = 39
  ·rw [if_pos h,show c = 39 from UInt8.toNat_inj.1 h]
   exact ⟨F,fun _=>rfl⟩
  ·have hno : ¬ df (c :: (r.take i ++ [39])) = true:=fun ht=>by
    unfold df at ht
    rw [decide_eq_true_eq] at ht
    exact h (by have:=ht.2.1;rwa [bi] at this)
   rw [if_neg h,if_neg hno]
   exact ⟨F,fun h2=>absurd h2 hno⟩
theorem xe {u : Value} {ts : List Ty} {s : ac8} (hu : u.oneCell' = true) (hs : s.length ≤ 100000000) (hne : s ≠ []) : bn ac7 181 [Ag [u],S s,S [116]] G (cx ts (dm s) [116]):=by
 match s,hne with
 | c :: r,_ =>
 simp only [List.length_cons] at hs
 have hcl : (c :: r).length = r.length + 1:=rfl
 refine jB [(0,_),(1,_),(2,_)] Tryz.func181 Tryz.ntmps181 fun B hok hB hW=>?_
 repeat' (first | refine jR ?_ | (refine jo ?_;refine jO fun _=>?_) | refine ac F F ?_ | refine ad F F ?_)
 rename_i x3
 refine aT (ι:=Nat) (fun i=>i ≤ r.length ∧ ∀ j,j < i → bt r j ≠ 39) (fun i=>[(1,S (c :: r)),(2,S [116]),(9,I (i + 1 : Nat))]) (fun _=>G) (fun i=>[]) (fun i=>r.length - i) 0 ?_ tU F (by repeat (exact List.nil_sublist _)) (fun i Hi=>?_)
 ·exact ⟨Nat.zero_le _,fun j hj=>absurd hj oM⟩
 obtain ⟨hi0,hi1⟩:=Hi
 have hb : bt (c :: r) ((i + 1 : Nat) : Int).toNat = bt r i:=dW c r i
 by_cases hi : i < r.length
 ·by_cases h39 : bt r i = 39
  ·have h39' : bt (c :: r) ((i + 1 : Nat) : Int).toNat = 39:=by rw [hb];exact h39
   have hq:=oY (c:=c) hi0 hi1 (.inr ⟨h39,hi⟩)
   have e3 : (min (((i + 1 : Nat) : Int) + 1) ((((c :: r).length : Nat) : Int))).toNat = min (i + 2) (r.length + 1):=oM
   have cx_tx:=e9 (G:=G) (s:=(c :: r).take (min (((i + 1 : Nat) : Int) + 1) ((((c :: r).length : Nat) : Int))).toNat) (by rw [List.length_take];omega)
   repeat' (first | refine jM ?_ | (refine jo ?_;first | refine aG F ?_ | refine jV (uK F F) ?_) | refine ax F F (ay oM) ?_ | refine ad F (aC oM) ?_ | (refine aj (am (id:=12) _ (fun _ h=>h) ai ?_);refine jW 6 [0,1,2,3,6,7,8,9,10,11] (aa 16 4047) ?_;(refine jG (aa 16 4063) 4 F (al F F) ?_);refine bA [5,12] kR dC ⟨?_,?_,trivial⟩;(focus (refine aM F F ?_;(refine jO fun _=>?_);refine jS (aa 16 4095) ?_;refine jA 12 F ?_;((refine ab F F F (e9 ?_) F ?_;(focus ((simp;omega);done))));refine jS (aa 16 8191) ?_;refine jW 0 [13,14,15] (aa 16 65535) ?_;refine jQ ?_));rotate_left 1;(focus (refine aM F F ?_;((refine ab F F F (e9 ?_) F ?_;(focus ((simp;omega);done))));refine jS (aa 16 8159) ?_;refine jA 5 F ?_;(refine jO fun _=>?_);refine jS (aa 16 8191) ?_;refine jW 0 [13,14,15] (aa 16 65535) ?_;refine jQ ?_));rotate_left 1))
   all_goals
    rename_i x4
    refine Nx.sealC (b:=x4) fun G2 hG2 hsy=>?_
    refine jZ (vs:=[_,_,_]) F ⟨F,F,F,trivial⟩ F ⟨hG2,F,?_⟩
    rw [aD]
    rw [e3] at hsy
    rw [e3]
    refine ⟨_,_,_,F,fun h=>?_,fun h=>?_⟩
    ·have htk:=hq.2 h
     rw [htk] at hsy
     have hdr : (c :: r).drop (min (i + 2) (r.length + 1)) = r.drop (i + 1):=by
      rcases Nat.lt_or_ge i r.length with h2 | h2
      ·rw [show min (i + 2) (r.length + 1) = (i + 1) + 1 by omega];rfl
      ·rw [List.drop_eq_nil_of_le (by simp;omega),List.drop_eq_nil_of_le oM]
     exact ⟨_,x4,F,by rw [hq.1,if_pos h,hdr],.leaf 116 _ _ _ _ hsy (.inr (.inl ⟨F,F,F⟩))⟩
    ·rw [hq.1,if_neg (by rw [h];decide)]
  ·have h39' : ¬ bt (c :: r) ((i + 1 : Nat) : Int).toNat = 39:=by rw [hb];exact h39
   repeat' (first | refine jM ?_ | (refine jo ?_;refine aG F ?_) | refine ax F F (ay oM) ?_ | refine ac F (ay oM) ?_)
   refine Nx.re (d:=9) (v':=I (i + 1 + 1 : Nat)) F (congrArg (Value.int .i64) oM) ?_
   exact aY (i + 1) ⟨oM,fun j hj=>(by
    rcases Nat.lt_or_ge j i with h | h
    ·exact hi1 j h
    ·have : j = i:=oM
     subst this;exact h39)⟩ oM tU F aZ
 ·have hq:=oY (c:=c) hi0 hi1 (.inl oM)
  have e3 : (min (((i + 1 : Nat) : Int) + 1) ((((c :: r).length : Nat) : Int))).toNat = min (i + 2) (r.length + 1):=oM
  have cx_tx:=e9 (G:=G) (s:=(c :: r).take (min (((i + 1 : Nat) : Int) + 1) ((((c :: r).length : Nat) : Int))).toNat) (by rw [List.length_take];omega)
  repeat' (first | refine jM ?_ | (refine jo ?_;first | refine ar F ?_ | refine jV (uK F F) ?_) | refine ak F F (aC oM) ?_ | refine ad F F ?_ | (refine aj (am (id:=12) _ (fun _ h=>h) ai ?_);refine jW 6 [0,1,2,3,6,7,8,9,10,11] (aa 16 4047) ?_;(refine jG (aa 16 4063) 4 F (al F F) ?_);refine bA [5,12] kR dC ⟨?_,?_,trivial⟩;(focus (refine aM F F ?_;(refine jO fun _=>?_);refine jS (aa 16 4095) ?_;refine jA 12 F ?_;((refine ab F F F (e9 ?_) F ?_;(focus ((simp;omega);done))));refine jS (aa 16 8191) ?_;refine jW 0 [13,14,15] (aa 16 65535) ?_;refine jQ ?_));rotate_left 1;(focus (refine aM F F ?_;((refine ab F F F (e9 ?_) F ?_;(focus ((simp;omega);done))));refine jS (aa 16 8159) ?_;refine jA 5 F ?_;(refine jO fun _=>?_);refine jS (aa 16 8191) ?_;refine jW 0 [13,14,15] (aa 16 65535) ?_;refine jQ ?_));rotate_left 1))
  all_goals
   rename_i x4
   refine Nx.sealC (b:=x4) fun G2 hG2 hsy=>?_
   refine jZ (vs:=[_,_,_]) F ⟨F,F,F,trivial⟩ F ⟨hG2,F,?_⟩
   rw [aD]
   rw [e3] at hsy
   rw [e3]
   refine ⟨_,_,_,F,fun h=>?_,fun h=>?_⟩
   ·have htk:=hq.2 h
    rw [htk] at hsy
    have hdr : (c :: r).drop (min (i + 2) (r.length + 1)) = r.drop (i + 1):=by
     rcases Nat.lt_or_ge i r.length with h2 | h2
     ·rw [show min (i + 2) (r.length + 1) = (i + 1) + 1 by omega];rfl
     ·rw [List.drop_eq_nil_of_le (by simp;omega),List.drop_eq_nil_of_le oM]
    exact ⟨_,x4,F,by rw [hq.1,if_pos h,hdr],.leaf 116 _ _ _ _ hsy (.inr (.inl ⟨F,F,F⟩))⟩
   ·rw [hq.1,if_neg (by rw [h];decide)]
theorem xg {u : Value} {ts : List Ty} {s : ac8} (hu : u.oneCell' = true) (hs : s.length ≤ 100000000) : bn ac7 181 [Ag [u],S s,S [102]] G (cx ts (dZ s) [102]):=by
 have hpf : ∀ l : ac8,l.isPrefixOf s = true ↔ l.length ≤ s.length ∧ s.take l.length = l:=fun l=>by
  rw [List.isPrefixOf_iff_prefix]
  constructor
  ·rintro ⟨t,rfl⟩;simp
  ·rintro ⟨h1,h2⟩;exact ⟨s.drop l.length,by rw [show l ++ s.drop l.length = s.take l.length ++ s.drop l.length from by rw [h2]];exact List.take_append_drop _ _⟩
 refine jB [(0,_),(1,_),(2,_)] Tryz.func181 Tryz.ntmps181 fun B hok hB hW=>?_
 repeat' (first | refine jR ?_ | (refine jo ?_;first | refine jO fun _=>?_ | refine jF fun _=>?_ | refine jV (av F) ?_) | refine ad F F ?_)
 rename_i x3 x4
 refine aT (ι:=Nat) (fun i=>i ≤ 2 ∧ (1 ≤ i → ([121,101,115] : ac8).isPrefixOf s = false) ∧ (2 ≤ i → ([110,111] : ac8).isPrefixOf s = false)) (fun i=>[(1,S s),(2,S [102]),(68,.slice (some ⟨x4,0,none⟩) 2 2),(69,I (2 : Nat)),(70,I i)]) (fun _=>G) (fun i=>[.blk x4 (.cells (List.toArray [S [121,101,115],S [110,111]]) acL (0,0))]) (fun i=>2 - i) 0 ?_ tU F sB (fun i Hi=>?_)
 ·exact ⟨Nat.zero_le _,fun h=>absurd h oM,fun h=>absurd h oM⟩
 obtain ⟨hi0,hi1,hi2⟩:=Hi
 have h3 : i = 0 ∨ i = 1 ∨ i = 2:=oM
 rcases h3 with rfl | rfl | rfl
 ·cases hp : ([121,101,115] : ac8).isPrefixOf s with
  | true =>
   obtain ⟨h1,h2⟩:=(hpf _).1 hp
   have h1' : (((([121,101,115] : ac8).length : Nat) : Int)) ≤ s.length:=oM
   have h2' : s.take (((([121,101,115] : ac8).length : Nat) : Int)).toNat = [121,101,115]:=h2
   repeat' (first | refine jM ?_ | (refine jo ?_;first | refine aG F ?_ | refine jV (aA F F oM) ?_ | refine ah F ?_) | refine ax F F (ay ‹_›) ?_ | (refine ac F (by first | rfl | (refine decide_eq_true ?_;(assumption))) ?_) | (refine aj (am (id:=17) _ (fun _ h=>h) ai ?_);refine jW 5 [0,1,4,5,6,7] (aa 11 243) ?_;(refine jG (aa 11 247) 2 F (al F F) ?_);refine jA 3 F ?_;(refine jO fun _=>?_);refine jS (aa 11 255) ?_;refine jT 0 [8,9,10] (aa 11 2047) ?_;refine jQ ?_))
   all_goals
    rename_i y
    refine Nx.sealC (b:=y) fun G2 hG2 hsy=>?_
    refine jZ (vs:=[_,_,_]) F ⟨F,F,F,trivial⟩ F ⟨hG2,F,?_⟩
    rw [aD]
    exact ⟨_,_,_,F,fun _=>⟨.nd 102 [121,101,115] 0 [],y,F,by unfold dZ;rw [hp,if_pos rfl];rfl,.leaf 102 _ _ _ _ hsy (.inr (.inr ⟨rfl,rfl,rfl,.inl rfl⟩))⟩,fun h=>(by cases h)⟩
  | false =>
   have hn : ¬ ((([121,101,115] : ac8).length : Nat) ≤ s.length ∧ s.take ([121,101,115] : ac8).length = [121,101,115]):=fun h=>by rw [(hpf _).2 h] at hp;cases hp
   have hn' : ¬ ((((([121,101,115] : ac8).length : Nat) : Int)) ≤ s.length ∧ s.take (((([121,101,115] : ac8).length : Nat) : Int)).toNat = [121,101,115]):=fun h=>hn ⟨oM,h.2⟩
   by_cases h1' : (((([121,101,115] : ac8).length : Nat) : Int)) ≤ s.length
   ·have h2' : ¬ s.take (((([121,101,115] : ac8).length : Nat) : Int)).toNat = [121,101,115]:=fun h=>hn' ⟨h1',h⟩
    repeat' (first | refine jM ?_ | (refine jo ?_;first | refine aG F ?_ | refine jV (aA F F oM) ?_ | refine ah F ?_) | refine ax F F (ay ‹_›) ?_ | refine ac F F ?_ | refine ad F (aC ‹_›) ?_)
    exact aY 1 ⟨oM,fun _=>rfl,fun h=>absurd h oM⟩ oM tU F aZ
   ·repeat' (first | refine jM ?_ | (refine jo ?_;first | refine ar F ?_ | refine jV (aA F F oM) ?_ | refine ah F ?_) | refine ak F F (aC ‹_›) ?_ | refine ac F F ?_ | refine ad F F ?_)
    exact aY 1 ⟨oM,fun _=>rfl,fun h=>absurd h oM⟩ oM tU F aZ
 ·have hy:=hi1 (Nat.le_refl _)
  cases hp : ([110,111] : ac8).isPrefixOf s with
  | true =>
   obtain ⟨h1,h2⟩:=(hpf _).1 hp
   have h1' : (((([110,111] : ac8).length : Nat) : Int)) ≤ s.length:=oM
   have h2' : s.take (((([110,111] : ac8).length : Nat) : Int)).toNat = [110,111]:=h2
   repeat' (first | refine jM ?_ | (refine jo ?_;first | refine aG F ?_ | refine jV (aA F F oM) ?_ | refine ah F ?_) | refine ax F F (ay ‹_›) ?_ | (refine ac F (by first | rfl | (refine decide_eq_true ?_;(assumption))) ?_) | (refine aj (am (id:=17) _ (fun _ h=>h) ai ?_);refine jW 5 [0,1,4,5,6,7] (aa 11 243) ?_;(refine jG (aa 11 247) 2 F (al F F) ?_);refine jA 3 F ?_;(refine jO fun _=>?_);refine jS (aa 11 255) ?_;refine jT 0 [8,9,10] (aa 11 2047) ?_;refine jQ ?_))
   all_goals
    rename_i y
    refine Nx.sealC (b:=y) fun G2 hG2 hsy=>?_
    refine jZ (vs:=[_,_,_]) F ⟨F,F,F,trivial⟩ F ⟨hG2,F,?_⟩
    rw [aD]
    exact ⟨_,_,_,F,fun _=>⟨.nd 102 [110,111] 0 [],y,F,by unfold dZ;rw [hy,if_neg dC,hp,if_pos rfl];rfl,.leaf 102 _ _ _ _ hsy (.inr (.inr ⟨rfl,rfl,rfl,.inr rfl⟩))⟩,fun h=>(by cases h)⟩
  | false =>
   have hn : ¬ ((([110,111] : ac8).length : Nat) ≤ s.length ∧ s.take ([110,111] : ac8).length = [110,111]):=fun h=>by rw [(hpf _).2 h] at hp;cases hp
   have hn' : ¬ ((((([110,111] : ac8).length : Nat) : Int)) ≤ s.length ∧ s.take (((([110,111] : ac8).length : Nat) : Int)).toNat = [110,111]):=fun h=>hn ⟨oM,h.2⟩
   by_cases h1' : (((([110,111] : ac8).length : Nat) : Int)) ≤ s.length
   ·have h2' : ¬ s.take (((([110,111] : ac8).length : Nat) : Int)).toNat = [110,111]:=fun h=>hn' ⟨h1',h⟩
    repeat' (first | refine jM ?_ | (refine jo ?_;first | refine aG F ?_ | refine jV (aA F F oM) ?_ | refine ah F ?_) | refine ax F F (ay ‹_›) ?_ | refine ac F F ?_ | refine ad F (aC ‹_›) ?_)
    exact aY 2 ⟨oM,fun _=>hy,fun _=>rfl⟩ oM tU F aZ
   ·repeat' (first | refine jM ?_ | (refine jo ?_;first | refine ar F ?_ | refine jV (aA F F oM) ?_ | refine ah F ?_) | refine ak F F (aC ‹_›) ?_ | refine ac F F ?_ | refine ad F F ?_)
    exact aY 2 ⟨oM,fun _=>hy,fun _=>rfl⟩ oM tU F aZ
 ·repeat' (first | refine jR ?_ | refine ad F F ?_)
  refine jZ (vs:=[_,_,_]) F ⟨F,F,F,trivial⟩ F ⟨Gh.le.refl _,F,?_⟩
  rw [aD]
  exact ⟨_,_,_,F,fun h=>(by cases h),fun _=>by unfold dZ;rw [hi1 oM,if_neg dC,hi2 oM,if_neg dC]⟩
theorem rc {u : Value} {x : bS} {s : ac8} (hs : s.length ≤ 100000000) (hu : u.oneCell' = true) (hf : be G (gn x) 4 x.2.fields.length (aE g5 x.2.fields)) (hl : x.2.fields.length ≤ 1000) :
  an ac7 199 [Ag [u],S s,Ag (i6 x)] G (fun v=>∃ n,v = Tu [Ag (g5 ((bR x.2.fields n).getD zF)),S (s.dropWhile a8),Bo ((aR (s.takeWhile a8) 200).isSome && (bR x.2.fields n).isSome)] ∧ ∀ m,aR (s.takeWhile a8) 200 = some m → n = m):=by
 have cx_dg:=sH (G:=G) hs
 obtain ⟨e1,e2⟩:=oB a8 s
 have hwl:=dK a8 s
 have hlen : (s.take ((((s.takeWhile a8).length : Nat) : Int)).toNat).length ≤ 100000000:=by rw [e1];omega
 simp only [i6]
 refine jE [(0,_),(1,_),(2,_)] Tryz.func199 Tryz.ntmps199 fun B hB=>?_
 repeat' (first | refine jM ?_ | (refine jo ?_;first | refine jO fun _=>?_ | refine jL fun _=>?_ | refine aB F ?_ | refine ab F F F cx_dg F ?_ | (refine cN F F F (hO oM) F ?_;rintro _ ⟨n,rfl,hnum⟩)))
 rename_i n
 have cx_fld:=hX (G:=G) (tag:=n) hf hl
 rw [e1] at hnum
 cases hm : (aR (s.take ((((s.takeWhile a8).length : Nat) : Int)).toNat) 200).isSome with
 | false =>
  repeat' (first | refine jR ?_ | (refine jo ?_;first | refine jL fun _=>?_ | refine jC F F F ?_ | refine ab F F F cx_fld F ?_) | (refine aj (dY (id:=4) (tt:=6) F ai ?_);refine jW 6 [1,2,3,4,5] (aa 11 62) ?_;(try (refine Nx.re (d:=34) (v':=Bo false) F (congrArg Value.bool F) ?_));refine jW 5 [6] (aa 11 126) ?_;(refine jG (aa 11 127) 0 F (bD F F F F) ?_);((refine jG (aa 11 255) 7 F (aJ F F ?_) ?_;(focus ((rfl);done))));refine jA 8 F ?_;(refine jC F F F ?_);refine jK (aa 11 511) ?_;refine jW 0 [9,10] (aa 11 2047) ?_;refine jQ ?_))
  all_goals refine jZ (vs:=[_,_,_]) F ⟨aF F F F F,F,F,trivial⟩ F ⟨F,F,?_⟩
  all_goals (rw [aD];exact ⟨n,by rw [e1] at hm;rw [hm,e2];rfl,hnum⟩)
 | true =>
  repeat' (first | refine jR ?_ | (refine jo ?_;first | refine jL fun _=>?_ | refine jC F F F ?_ | refine ab F F F cx_fld F ?_) | (refine aj (dY (id:=4) (tt:=6) F ai ?_);refine jW 6 [1,2,3,4,5] (aa 11 62) ?_;(try (refine Nx.re (d:=34) (v':=Bo true) F (congrArg Value.bool F) ?_));refine jW 5 [6] (aa 11 126) ?_;(refine jG (aa 11 127) 0 F (bD F F F F) ?_);((refine jG (aa 11 255) 7 F (a6 F F ?_) ?_;(focus ((rfl);done))));refine jA 8 F ?_;(refine jC F F F ?_);refine jK (aa 11 511) ?_;refine jW 0 [9,10] (aa 11 2047) ?_;refine jQ ?_))
  all_goals refine jZ (vs:=[_,_,_]) F ⟨aF F F F F,F,F,trivial⟩ F ⟨F,F,?_⟩
  all_goals (rw [aD];exact ⟨n,by rw [e1] at hm;rw [hm,e2];rfl,hnum⟩)
def gO (v : V) : Prop:=v.out.length + 1 ≤ 2 * v.tot
theorem j6 : ∀ {ks : List V},(∀ v ∈ ks,gO v) → di (V.outs ks) + ks.length ≤ 2 * V.tots ks
 | [],_=>by simp [V.outs,di]
 | v :: r,h=>by
  have h1:=h v (.head _)
  have h2:=j6 fun u hu=>h u (.tail _ hu)
  unfold gO at h1
  simp only [V.outs,di,List.map_cons,List.sum_cons,V.tots,List.length_cons] at *
  omega
theorem fL {w : Nat} {x : ac8} {t : Int} {ks : List V} (h : ∀ v ∈ ks,gO v) (ht : t ≤ 999999) : gO (.nd w x t ks):=by
 have h1:=j6 h
 have h2:=fF 44 (V.outs ks)
 rw [jf] at h2
 have h4:=rA (w:=w) (x:=x) (e:=ks.isEmpty) (j:=aV 44 (V.outs ks)) ht
 have h5:=d9 ks
 unfold gO
 rw [V.out,V.tot]
 omega
theorem o5 {α : Type} [Inhabited α] {l : List α} {x : α} (h : x ∈ l) : ∃ i,i < l.length ∧ ae l i = x:=by
 obtain ⟨i,hi,rfl⟩:=List.mem_iff_getElem.1 h
 exact ⟨i,hi,aW hi⟩
theorem fY {ts : List Ty} (hw : SchW ts) {k : ac8} {t : Ty} (h : a7 ts k = some t) {d : Fld} (hd : d ∈ t.fields) : d.tag ≤ 999999 ∧ 0 ≤ d.tag:=by
 have:=((hw.ty t (cj h)).fld d hd).tag
 omega
theorem fp {ts : List Ty} {k : ac8} {t : Ty} (h : a7 ts k = some t) : ∃ r,k = 64 :: r:=by
 unfold a7 at h
 cases k with
 | nil=>cases h
 | cons c r =>
  unfold bJ at h
  dsimp only at h
  by_cases h64 : c.toNat = 64
  ·exact ⟨r,by rw [show c = 64 from UInt8.toNat_inj.1 h64]⟩
  ·rw [if_neg h64] at h;cases h
theorem lh {ts : List Ty} (hw : SchW ts) {v : V} {k : ac8} {b : Nat} (h : RepR G ts v k b) : gO v:=by
 induction h with
 | leaf w x k tx b h1 h2=>exact fL (by simp) dC
 | lst k b ks bs a c h1 h2 h3 _ ih =>
  exact fL (fun v hv=>by obtain ⟨i,hi,rfl⟩:=o5 hv;exact ih i hi) dC
 | non k b h1=>exact fL (by simp) dC
 | opt k b kb b' cc v h0 h1 h2 _ ih=>exact fL (fun u hu=>by simp only [List.mem_singleton] at hu;subst hu;exact ih) dC
 | recd k b t fs bs a a2 c c2 h0 h1 h2 h3 h4 h5 _ ih =>
  refine fL (fun v hv=>?_) dC
  obtain ⟨p,hp,rfl⟩:=List.mem_map.1 hv
  obtain ⟨i,hi,rfl⟩:=o5 hp
  exact fL (fun u hu=>by simp only [List.mem_singleton] at hu;subst hu;exact ih i hi) (fY hw h0.1 (h5 i hi)).1
 | enm k b tgb t d h0 h1 h2 h3=>exact fL (by simp) (fY hw h0.1 h1).1
 | uni k b tgb kb b' cc t d v hcc h0 h1 h2 h3 h4 _ ih=>exact fL (fun u hu=>by simp only [List.mem_singleton] at hu;subst hu;exact ih) (fY hw h0.1 h1).1
theorem o7 {c : UInt8} {xs : List ac8} {i : Nat} (h : i < xs.length) : aV c (xs.take (i + 1)) = if 0 < i then aV c (xs.take i) ++ c :: ae xs i else ae xs i:=by
 rw [eZ h]
 by_cases hi : 0 < i
 ·rw [if_pos hi,lk]
  rw [ne_eq,List.take_eq_nil_iff]
  rintro (h0 | h0)
  ·omega
  ·subst h0;simp at h
 ·have : i = 0:=oM
  subst this;rfl
theorem iy {ts : List Ty} (hw : SchW ts) {v : V} {k : ac8} {b : Nat} (h : RepR G ts v k b) : v.tot ≤ 1000000000000 → an ac7 64 [Pt b 0] G (· = S v.out):=by
 induction h with
 | leaf w x k tx b h1 h2 =>
  intro _
  rcases h2 with ⟨rfl,rfl,rfl,_⟩ | ⟨rfl,rfl,rfl⟩ | ⟨rfl,rfl,rfl,_⟩
  all_goals
   refine jE [(0,_)] Tryz.func64 Tryz.ntmps64 fun B hB=>?_
   repeat' (first | refine jX ?_ | (refine jo ?_;refine jV (aL F F aS F F) ?_) | refine ad F F ?_)
   refine jY (vs:=[_]) ?_
   rw [aw,V.out];rfl
 | lst k b ks bs a c h1 h2 h3 hk ih =>
  intro ht
  rw [b6] at ht
  have hb:=j6 (ks:=ks) fun v hv=>by obtain ⟨i,hi,rfl⟩:=o5 hv;exact lh hw (hk i hi)
  have hol:=jf ks
  refine jE [(0,_)] Tryz.func64 Tryz.ntmps64 fun B hB=>?_
  repeat' (first | refine jX ?_ | (refine jo ?_;refine jV (aL F F aS F F) ?_) | refine ac F F ?_)
  refine aT (ι:=Nat) (fun i=>i ≤ ks.length) (fun i=>[(0,Pt b 0),(3,S (91 :: aV 44 ((V.outs ks).take i))),(4,I i)]) (fun _=>G) (fun i=>[]) (fun i=>ks.length - i) 0 ?_ tU F aZ (fun i Hi=>?_)
  ·exact Nat.zero_le _
  have hj1:=fF 44 ((V.outs ks).take i)
  have hj2:=er (V.outs ks) i
  have hj3 : ((V.outs ks).take i).length ≤ ks.length:=by rw [List.length_take];omega
  by_cases hi : i < ks.length
  ·have hti:=gl hi
   have cx_out:=ih i hi oM
   have hou:=lg hi
   have hxi : ae bs i = ae bs i:=rfl
   have hob:=lh hw (hk i hi)
   unfold gO at hob
   have hst:=o7 (c:=44) (xs:=V.outs ks) (i:=i) oM
   rw [hou] at hst
   obtain ⟨kb,ko,kc,e,hs⟩:=h2.expl oM
   simp only [Value.slice.injEq] at e
   obtain ⟨rfl,-,rfl⟩:=e
   by_cases h0 : 0 < i
   ·rw [if_pos h0] at hst
    repeat' (first | refine jX ?_ | (refine jo ?_;first | refine jV (aL F F aS F F) ?_ | (refine jV (fQ F F aS ?_ aS F) ?_;focus omega) | refine jV (av F) ?_ | refine jV (aA F F oM) ?_ | refine ab F F F cx_out F ?_) | refine ac F (ay oM) ?_)
    refine Nx.re (d:=3) (v':=S (91 :: aV 44 ((V.outs ks).take (i + 1)))) F (congrArg (fun l=>S l) (by rw [hst];simp)) ?_
    exact aY (i + 1) oM oM tU F aZ
   ·rw [if_neg h0] at hst
    have hi0 : i = 0:=oM
    subst hi0
    repeat' (first | refine jX ?_ | (refine jo ?_;first | (refine jV (iW F F aS ?_ aS F F) ?_;focus omega) | refine jV (aL F F aS F F) ?_ | refine jV (av F) ?_ | refine jV (aA F F oM) ?_ | refine ab F F F cx_out F ?_) | refine ac F (ay oM) ?_ | refine ad F F ?_)
    refine Nx.re (d:=3) (v':=S (91 :: aV 44 ((V.outs ks).take (0 + 1)))) F (congrArg (fun l=>S l) (by rw [hst];rfl)) ?_
    exact aY (0 + 1) oM oM tU F aZ
  ·have hin : i = ks.length:=oM
   subst hin
   repeat' (first | refine jX ?_ | (refine jo ?_;first | refine jV (aL F F aS F F) ?_ | refine jV (av F) ?_) | refine ad F (aC oM) ?_)
   refine jY (vs:=[_]) ?_
   rw [aw,V.out,← hol,List.take_length];rfl
 | non k b h1 =>
  intro _
  refine jE [(0,_)] Tryz.func64 Tryz.ntmps64 fun B hB=>?_
  repeat' (first | refine jX ?_ | (refine jo ?_;first | refine jV (aL F F aS F F) ?_ | refine jV (av F) ?_) | refine ac F F ?_ | refine ad F F ?_)
  refine jY (vs:=[_]) ?_
  rfl
 | opt k b kb b' cc v h0 h1 h2 h3 ih =>
  intro ht
  simp only [b6,V.tots] at ht
  have cx_out:=ih oM
  have hob:=lh hw h3
  unfold gO at hob
  refine jE [(0,_)] Tryz.func64 Tryz.ntmps64 fun B hB=>?_
  repeat' (first | refine jX ?_ | (refine jo ?_;first | refine jV (aL F F aS F F) ?_ | refine jV (av F) ?_ | refine jV (aN F F oM) ?_ | refine ab F F F cx_out F ?_) | refine ac F F ?_ | refine ad F F ?_)
  refine jY (vs:=[_]) ?_
  rw [aw,V.out];rfl
 | recd k b t fs bs a a2 c c2 h0 h1 h2 h3 h4 h5 hk ih =>
  intro ht
  obtain ⟨r,rfl⟩:=fp h0.1
  rw [b6] at ht
  have hB1 : ∀ v ∈ fs.map (fun p : Fld × V=>V.nd 61 [] p.1.tag [p.2]),gO v:=fun v hv=>by
   obtain ⟨p,hp,rfl⟩:=List.mem_map.1 hv
   obtain ⟨i,hi,rfl⟩:=o5 hp
   exact fL (fun u hu=>by simp only [List.mem_singleton] at hu;subst hu;exact lh hw (hk i hi)) (fY hw h0.1 (h5 i hi)).1
  have hb:=j6 hB1
  have hml : (fs.map (fun p : Fld × V=>V.nd 61 [] p.1.tag [p.2])).length = fs.length:=by simp
  have hol:=jf (fs.map (fun p : Fld × V=>V.nd 61 [] p.1.tag [p.2]))
  have hnt : ∀ i,i < fs.length → ae (fs.map (fun p : Fld × V=>V.nd 61 [] p.1.tag [p.2])) i = V.nd 61 [] (ae fs i).1.tag [(ae fs i).2]:=fun i hi=>by rw [aW (by simpa using hi),aW hi];simp
  generalize hKS : fs.map (fun p : Fld × V=>V.nd 61 [] p.1.tag [p.2]) = KS at *
  have cx_nmd : an ac7 106 [Pt b 0] G (· = S (V.out (.nd 82 [] 0 KS))):=by
   refine jE [(0,_)] Tryz.func106 Tryz.ntmps106 fun B hB=>?_
   repeat' (first | refine jR ?_ | (refine jo ?_;refine jV (aL F F aS F F) ?_) | refine ad F F ?_)
   refine aT (ι:=Nat) (fun i=>i ≤ fs.length) (fun i=>[(0,Pt b 0),(3,S (123 :: aV 44 ((V.outs KS).take i))),(4,I i)]) (fun _=>G) (fun i=>[]) (fun i=>fs.length - i) 0 ?_ tU F aZ (fun i Hi=>?_)
   ·exact Nat.zero_le _
   have hj1:=fF 44 ((V.outs KS).take i)
   have hj2:=er (V.outs KS) i
   have hj3 : ((V.outs KS).take i).length ≤ fs.length:=by rw [List.length_take];omega
   by_cases hi : i < fs.length
   ·have hti:=gl (ks:=KS) (i:=i) oM
    rw [hnt i hi] at hti
    simp only [b6,V.tots] at hti
    have cx_out:=ih i hi oM
    have hou:=lg (ks:=KS) (i:=i) oM
    rw [hnt i hi,gp] at hou
    have hxi : ae bs i = ae bs i:=rfl
    have htg:=fY hw h0.1 (h5 i hi)
    have hdl:=fT htg.1
    have hob:=lh hw (hk i hi)
    unfold gO at hob
    have hst:=o7 (c:=44) (xs:=V.outs KS) (i:=i) oM
    rw [hou] at hst
    have htn : ae (fs.map fun p : Fld × V=>p.1.tag) i = (ae fs i).1.tag:=by rw [aW (by simpa using hi),aW hi];simp
    have htl : (fs.map fun p : Fld × V=>p.1.tag).length = fs.length:=by simp
    obtain ⟨tgb,to,tc,e,hs1⟩:=h2.expl oM
    simp only [Value.slice.injEq] at e
    obtain ⟨rfl,-,rfl⟩:=e
    obtain ⟨kb,ko,kc,e,hs2⟩:=h3.expl oM
    simp only [Value.slice.injEq] at e
    obtain ⟨rfl,-,rfl⟩:=e
    by_cases hp0 : 0 < i
    ·rw [if_pos hp0] at hst
     repeat' (first | refine jX ?_ | (refine jo ?_;first | refine jV (aL F F aS F F) ?_ | refine jV (av F) ?_) | refine ac F (ay oM) ?_ | (refine aj (am (id:=12) _ (fun _ h=>h) ai ?_);refine jT 12 [0,1,2,3,5,11,12,13,15] (aa 21 47151) ?_;(refine jG (aa 21 47167) 4 F (aL F F aS F F) ?_);(refine jG (aa 21 47231) 6 F (aA F F oM) ?_);((refine jG (aa 21 47359) 7 F (fQ F F aS ?_ aS F) ?_;focus omega));(refine jG (aa 21 63743) 14 F (aL F F aS F F) ?_);(refine jG (aa 21 129279) 16 F (aA F F oM) ?_);((refine jG (aa 21 260351) 17 F (fQ F F aS ?_ aS F) ?_;focus omega));refine jA 8 F ?_;(refine ab F F F (eS oM) F ?_);refine jS (aa 21 260607) ?_;refine jW 3 [9,10] (aa 21 262143) ?_;refine jA 18 F ?_;(refine ab F F F cx_out F ?_);refine jS (aa 21 524287) ?_;refine jW 0 [19,20] (aa 21 2097151) ?_;refine jQ ?_))
     all_goals
      refine Nx.re (d:=3) (v':=S (123 :: aV 44 ((V.outs KS).take (i + 1)))) F (congrArg (fun l=>S l) (by rw [hst];simp)) ?_
      exact aY (i + 1) oM oM tU F aZ
    ·rw [if_neg hp0] at hst
     have hi0 : i = 0:=oM
     subst hi0
     repeat' (first | refine jM ?_ | (refine jo ?_;first | refine jV (aL F F aS F F) ?_ | refine jV (av F) ?_) | refine ac F (ay oM) ?_ | refine ad F F ?_ | (refine aj (am (id:=12) _ (fun _ h=>h) ai ?_);refine jT 12 [0,1,2,3,5,11,12,13,15] (aa 21 47151) ?_;(refine jG (aa 21 47167) 4 F (aL F F aS F F) ?_);(refine jG (aa 21 47231) 6 F (aA F F oM) ?_);((refine jG (aa 21 47359) 7 F (fQ F F aS ?_ aS F) ?_;focus omega));(refine jG (aa 21 63743) 14 F (aL F F aS F F) ?_);(refine jG (aa 21 129279) 16 F (aA F F oM) ?_);((refine jG (aa 21 260351) 17 F (iW F F aS ?_ aS F F) ?_;focus omega));refine jA 8 F ?_;(refine ab F F F (eS oM) F ?_);refine jS (aa 21 260607) ?_;refine jW 3 [9,10] (aa 21 262143) ?_;refine jA 18 F ?_;(refine ab F F F cx_out F ?_);refine jS (aa 21 524287) ?_;refine jW 0 [19,20] (aa 21 2097151) ?_;refine jQ ?_))
     all_goals
      refine Nx.re (d:=3) (v':=S (123 :: aV 44 ((V.outs KS).take (0 + 1)))) F (congrArg (fun l=>S l) (by rw [hst];simp [aV])) ?_
      exact aY (0 + 1) oM oM tU F aZ
   ·have hin : i = fs.length:=oM
    repeat' (first | refine jX ?_ | (refine jo ?_;first | refine jV (aL F F aS F F) ?_ | refine jV (av F) ?_) | refine ad F (aC oM) ?_)
    refine jY (vs:=[_]) ?_
    rw [aw,V.out,hin,← hml,← hol,List.take_length];rfl
  refine jE [(0,_)] Tryz.func64 Tryz.ntmps64 fun B hB=>?_
  repeat' (first | refine jX ?_ | (refine jo ?_;first | refine jV (aL F F aS F F) ?_ | refine ab F F F cx_nmd F ?_) | refine ac F F ?_ | refine ad F F ?_)
  refine jY (vs:=[_]) ?_
  rfl
 | enm k b tgb t d h0 h1 h2 h3 =>
  intro _
  obtain ⟨r,rfl⟩:=fp h0.1
  have htg:=fY hw h0.1 h1
  have hdl:=fT htg.1
  have cx_nmd : an ac7 106 [Pt b 0] G (· = S (V.out (.nd 69 [] d.tag []))):=by
   refine jE [(0,_)] Tryz.func106 Tryz.ntmps106 fun B hB=>?_
   repeat' (first | refine jX ?_ | (refine jo ?_;first | refine jV (aL F F aS F F) ?_ | refine jV (aN F F oM) ?_ | refine ab F F F (eS oM) F ?_) | refine ac F F ?_ | refine ad F F ?_)
   refine jY (vs:=[_]) ?_
   rw [aw,V.out];rfl
  refine jE [(0,_)] Tryz.func64 Tryz.ntmps64 fun B hB=>?_
  repeat' (first | refine jX ?_ | (refine jo ?_;first | refine jV (aL F F aS F F) ?_ | refine ab F F F cx_nmd F ?_) | refine ac F F ?_ | refine ad F F ?_)
  refine jY (vs:=[_]) ?_
  rfl
 | uni k b tgb kb b' cc t d v hcc h0 h1 h2 h3 h4 hk ih =>
  intro ht
  obtain ⟨r,rfl⟩:=fp h0.1
  have htg:=fY hw h0.1 h1
  have hdl:=fT htg.1
  simp only [b6,V.tots] at ht
  have cx_out:=ih oM
  have hob:=lh hw hk
  unfold gO at hob
  have cx_nmd : an ac7 106 [Pt b 0] G (· = S (V.out (.nd 85 [] d.tag [v]))):=by
   refine jE [(0,_)] Tryz.func106 Tryz.ntmps106 fun B hB=>?_
   repeat' (first | refine jR ?_ | (refine jo ?_;refine jV (aL F F aS F F) ?_) | refine ac F F ?_ | (refine aj (am (id:=3) _ (fun _ h=>h) ai ?_);refine jT 13 [0,1,2,9,10,11] (aa 19 3591) ?_;(refine jG (aa 19 3599) 3 F (aL F F aS F F) ?_);(refine jG (aa 19 3615) 4 F (aN F F oM) ?_);(refine jG (aa 19 3647) 5 F (aL F F aS F F) ?_);(refine jG (aa 19 7743) 12 F (aL F F aS F F) ?_);(refine jG (aa 19 15935) 13 F (aN F F oM) ?_);(refine jG (aa 19 32319) 14 F (aL F F aS F F) ?_);refine jA 6 F ?_;(refine ab F F F (eS oM) F ?_);refine jS (aa 19 32383) ?_;refine jW 4 [7,8] (aa 19 32767) ?_;refine jA 15 F ?_;(refine ab F F F cx_out F ?_);refine jS (aa 19 65535) ?_;refine jW 0 [16,17,18] (aa 19 524287) ?_;refine jQ ?_))
   all_goals refine jY (vs:=[_]) ?_
   all_goals (rw [aw,V.out];simp [V.outs,dp,aV])
  clear cx_out
  refine jE [(0,_)] Tryz.func64 Tryz.ntmps64 fun B hB=>?_
  repeat' (first | refine jX ?_ | (refine jo ?_;first | refine jV (aL F F aS F F) ?_ | refine ab F F F cx_nmd F ?_) | refine ac F F ?_ | refine ad F F ?_)
  refine jY (vs:=[_]) ?_
  rfl
abbrev zX : TypeId:=100
abbrev zW : TypeId:=199
def kw (n : Nat) (u : Value) (vs : List bS) : Prop:=∀ (G : Gh) (k s : ac8),SchR G u vs → aO (ag vs) k = true → s.length ≤ 2000000 →
 bn ac7 150 [Ag [u],S s,S k,I (n : Nat)] G (cx (ag vs) (rd (ag vs) n k s) k)
theorem zm {n : Nat} {u : Value} {vs : List bS} {k s : ac8} (hR : kw n u vs) (h : SchR G u vs) (hk : aO (ag vs) k = true) (hs : s.length ≤ 2000000) (hn : n ≤ 1000) :
  bn ac7 179 [Ag [u],S s,S (91 :: k),I (n + 1 : Nat)] G (cx (ag vs) (eP (rd (ag vs) n k) (91 :: s)) (91 :: k)):=by
 have edn : ((n + 1 : Nat) : Int) - 1 = (n : Nat):=oM
 by_cases h93 : ∃ s2,s = 93 :: s2
 ·obtain ⟨s2,rfl⟩:=h93
  refine jB [(0,_),(1,_),(2,_),(3,_)] Tryz.func179 Tryz.ntmps179 fun B hok hB hW=>?_
  repeat' (first | refine jX ?_ | (refine jo ?_;first | refine jO fun _=>?_ | refine jV (al F F) ?_ | refine aG F ?_) | refine ax F F F ?_ | refine ac F F ?_ | (refine aj (am (id:=3) _ (fun _ h=>h) ai ?_);refine jW 0 [0,1,2,3,4,5] (aa 6 63) ?_;refine jQ ?_))
  rename_i x4 x11
  refine Nx.sealC (b:=x11) fun G2 hG2 hsy=>?_
  refine jZ (vs:=[_,_,_]) F ⟨F,F,F,trivial⟩ F ⟨hG2,F,?_⟩
  rw [aD]
  exact ⟨_,_,_,F,fun _=>⟨.nd 91 [] 0 [],x11,F,F,.lst k x11 [] [] none 0 hsy ⟨F,.inl ⟨F,F⟩⟩ F (fun i hi=>absurd hi (by simp))⟩,fun h=>(by cases h)⟩
 have hRl : eP (rd (ag vs) n k) (91 :: s) = (bh (rd (ag vs) n k) 20 s []).map fun x=>(.nd 91 [] 0 x.1,x.2):=by
  unfold eP
  dsimp only
  rw [if_pos (show (91 : UInt8).toNat = 91 from rfl)]
  cases s with
  | nil =>
   have : rd (ag vs) n k [] = none:=by
    cases h : rd (ag vs) n k [] with
    | none=>rfl
    | some x=>have:=gT h;simp at this
   simp [bh,this]
  | cons e r' =>
   dsimp only
   rw [if_neg]
   intro h;exact h93 ⟨r',by rw [show e = 93 from UInt8.toNat_inj.1 h]⟩
 have hs0 : s = [] ∨ s ≠ [] ∧ ¬ ((bt s (Int.toNat 0) : Nat) : Int) = 93:=by
  cases s with
  | nil=>exact .inl F
  | cons e r' =>
   refine .inr ⟨by simp,fun h=>h93 ⟨r',?_⟩⟩
   have : bt (e :: r') (Int.toNat 0) = e.toNat:=bi e r'
   rw [show e = 93 from UInt8.toNat_inj.1 (show e.toNat = 93 by omega)]
 have hkl : k.length ≤ 1000:=by
  have:=(cT (db hk)).2
  omega
 have hslen : s = [] ∨ 0 < s.length:=by cases s <;> simp
 rcases hs0 with hs0 | ⟨hs0,hs1⟩
 all_goals
  have hslen2 : s ≠ [] → 0 < s.length:=fun h=>by rcases hslen with h' | h';exact absurd h' h;exact h'
  try have hslen3:=hslen2 hs0
  refine jB [(0,_),(1,_),(2,_),(3,_)] Tryz.func179 Tryz.ntmps179 fun B hok hB hW=>?_
  repeat' (first | refine jM ?_ | (refine jo ?_;first | refine jO fun _=>?_ | refine jV (al F F) ?_ | refine aG F ?_ | refine ar F ?_) | refine ax F F (ay ‹_›) ?_ | (refine ak F F ?_ ?_;(focus ((simp [*];done);done))) | (refine ad F (by first | rfl | (refine decide_eq_false ?_;(assumption))) ?_))
  rename_i x4 x11
  refine Nx.addNil zX 1 ?_
  refine aT (ι:=List V × List Nat × Option Addr × Nat × ac8 × Gh) (fun q=>((q.2.1.length = q.1.length ∧ ∀ i,i < q.1.length → RepR q.2.2.2.2.2 (ag vs) (ae q.1 i) k (ae q.2.1 i)) ∧ Gh.le G q.2.2.2.2.2) ∧ bh (rd (ag vs) n k) 20 s [] = bh (rd (ag vs) n k) (20 - q.1.length) q.2.2.2.2.1 q.1 ∧ q.1.length ≤ 20 ∧ q.2.2.2.2.1.length ≤ s.length) (fun q=>[(1,S q.2.2.2.2.1),(2,S (91 :: k)),(3,I (n + 1 : Nat)),(4,Pt x4 0),(11,Pt x11 0)]) (fun q=>q.2.2.2.2.2) (fun q=>[.acc (.slice q.2.2.1 q.1.length q.2.2.2.1) zX 1 q.1.length (aE eK q.2.1),.blk x11 (.cells (List.toArray [S (91 :: k),S [],aI,.slice q.2.2.1 q.1.length q.2.2.2.1]) qj (0,0)),.blk x4 (.cells (List.toArray [u]) zW (0,0))]) (fun q=>20 - q.1.length) ([],[],none,0,s,G) ?_ tU F aZ (fun q Hq=>?_)
  ·exact ⟨⟨⟨F,fun i hi=>absurd hi (by simp)⟩,Gh.le.refl _⟩,F,Nat.zero_le _,Nat.le_refl _⟩
  obtain ⟨ws,bs,a,cap,t,Gq⟩:=q
  dsimp only at Hq ⊢
  obtain ⟨⟨⟨hbl,hreps⟩,hgq⟩,hit,hwl,htl⟩:=Hq
  by_cases h20 : ws.length < 20
  case neg =>
   have e20 : 20 - ws.length = 0:=oM
   repeat' (first | refine jR ?_ | (refine jo ?_;first | refine ah F ?_ | refine jV (av F) ?_) | refine ad F (aC oM) ?_)
   refine jZ (vs:=[_,_,_]) F ⟨F,F,F,trivial⟩ F ⟨hgq,F,?_⟩
   rw [aD]
   exact ⟨_,_,_,F,fun h=>(by cases h),fun _=>by rw [hRl,hit,e20];rfl⟩
  have cx_rd:=hR Gq k t (h.mono hgq) hk oM
  rw [← edn] at cx_rd
  repeat' (first | refine jR ?_ | (refine jo ?_;first | refine ah F ?_ | refine jV (av F) ?_) | refine ac F (ay oM) ?_)
  (refine aj (am (id:=5) _ (fun _ h=>h) ai ?_);refine jW 9 [1,2,3,4,5] (aa 14 62) ?_;(refine jG (aa 14 63) 0 F (bD F F F F) ?_);refine jA 6 F ?_;(refine aK F F F cx_rd F ?_;rintro _ G hle ⟨q1,r1,ok1,rfl,hyes,hno⟩;skip);refine jS (aa 14 127) ?_;refine jT 0 [7,8,9,10,11,12,13] (aa 14 16383) ?_;refine jQ ?_)
  have hgl:=hgq.trans hle
  cases ok1 with
  | false =>
   have hnone : bh (rd (ag vs) n k) (20 - ws.length) t ws = none:=iR (.inl (hno rfl))
   repeat' (first | refine jR ?_ | (refine jo ?_;refine aG F ?_) | refine ax F F F ?_ | refine ac F F ?_)
   refine jZ (vs:=[_,_,_]) F ⟨F,F,F,trivial⟩ F ⟨hgl,F,?_⟩
   rw [aD]
   exact ⟨_,_,_,F,fun h=>(by cases h),fun _=>by rw [hRl,hit,hnone];rfl⟩
  | true =>
   obtain ⟨w,wb,rfl,hf,hrep⟩:=hyes rfl
   have hsh:=gT hf
   cases r1 with
   | nil =>
    have hnone : bh (rd (ag vs) n k) (20 - ws.length) t ws = none:=iR (.inr ⟨w,hf⟩)
    repeat' (first | refine jR ?_ | (refine jo ?_;first | refine aG F ?_ | refine ar F ?_) | refine ax F F F ?_ | refine ak F F F ?_ | refine ac F F ?_)
    refine jZ (vs:=[_,_,_]) F ⟨F,F,F,trivial⟩ F ⟨hgl,F,?_⟩
    rw [aD]
    exact ⟨_,_,_,F,fun h=>(by cases h),fun _=>by rw [hRl,hit,hnone];rfl⟩
   | cons e r2 =>
    have hstep:=iQ (vs:=ws) hf (show 0 < 20 - ws.length by omega)
    have he0 : bt (e :: r2) (Int.toNat 0) = e.toNat:=bi e r2
    simp only [List.length_cons] at hsh
    have hel : (e :: r2).length = r2.length + 1:=rfl
    have hrow : aE eK bs ++ [Pt wb 0] = aE eK (bs ++ [wb]):=(co eK bs wb).symm
    have hwl1 : (ws ++ [w]).length = ws.length + 1:=by simp
    have hbl1 : (bs ++ [wb]).length = (ws ++ [w]).length:=by simp [hbl]
    have hrp : ∀ i,i < (ws ++ [w]).length → RepR G (ag vs) (ae (ws ++ [w]) i) k (ae (bs ++ [wb]) i):=fun i hi=>by
     by_cases h1 : i < ws.length
     ·have e1 : ae (ws ++ [w]) i = ae ws i:=by rw [aW hi,aW h1,List.getElem_append_left h1]
      have e2 : ae (bs ++ [wb]) i = ae bs i:=by rw [aW oM,aW oM,List.getElem_append_left oM]
      rw [e1,e2];exact (hreps i h1).mono hle
     ·have h2 : i = ws.length:=oM
      have e1 : ae (ws ++ [w]) i = w:=by rw [aW hi];simp [h2]
      have e2 : ae (bs ++ [wb]) i = wb:=by rw [aW oM];simp [h2,hbl]
      rw [e1,e2];exact hrep
    by_cases h44 : e.toNat = 44
    ·rw [if_pos h44] at hstep
     have hn93 : ¬ e.toNat = 93:=oM
     repeat' (first | refine jM ?_ | (refine jo ?_;first | refine ar F ?_ | refine ah F ?_ | refine jF fun _=>?_ | refine bY F F F F F F F F F oM fun _ _=>?_ | refine jD F F F ?_) | (refine ak F F (by first | rfl | (refine decide_eq_false ?_;(omega))) ?_) | (refine ad F (by first | rfl | (refine decide_eq_false ?_;(omega))) ?_))
     rename_i y0 y1 yc
     rw [hrow]
     exact aY (ws ++ [w],bs ++ [wb],some ⟨y1,0,none⟩,yc,r2,G) ⟨⟨⟨hbl1,hrp⟩,hgl⟩,(by dsimp only;rw [hit,hstep,hwl1,Nat.sub_sub]),(by dsimp only;omega),(by dsimp only;omega)⟩ (by dsimp only;omega) tU rfl (by rw [hwl1];repeat (first | exact List.Sublist.refl _ | apply List.Sublist.cons_cons | apply List.Sublist.cons))
    ·rw [if_neg h44] at hstep
     by_cases h93' : e.toNat = 93
     ·rw [if_pos h93'] at hstep
      repeat' (first | refine jM ?_ | (refine jo ?_;first | refine aG F ?_ | refine ar F ?_ | refine ah F ?_ | refine jF fun _=>?_ | refine bY F F F F F F F F F oM fun _ _=>?_ | refine jD F F F ?_) | refine ax F F (ay oM) ?_ | refine ak F F F ?_ | refine ac F (ay oM) ?_ | refine ad F (aC oM) ?_)
      rename_i y0 y1 yc
      rw [hrow]
      refine Nx.sealS (v:=.slice (some ⟨y1,0,none⟩) (ws.length + 1) yc) fun G2 hG2 hsl=>?_
      refine Nx.sealC (b:=x11) fun G3 hG3 hsg=>?_
      refine jZ (vs:=[_,_,_]) F ⟨F,F,F,trivial⟩ F ⟨((hgl.trans hG2).trans hG3),F,?_⟩
      rw [aD]
      exact ⟨_,_,_,F,fun _=>⟨.nd 91 [] 0 (ws ++ [w]),x11,F,by rw [hRl,hit,hstep];rfl,.lst k x11 _ (bs ++ [wb]) (some ⟨y1,0,none⟩) yc (by rw [hwl1];exact hsg) (by rw [hwl1];exact hsl.mono hG3) hbl1 (fun i hi=>(hrp i hi).mono (hG2.trans hG3))⟩,fun h=>(by cases h)⟩
     ·rw [if_neg h93'] at hstep
      repeat' (first | refine jM ?_ | (refine jo ?_;first | refine aG F ?_ | refine ar F ?_) | refine ax F F (ay oM) ?_ | refine ak F F F ?_ | refine ac F (ay oM) ?_)
      refine jZ (vs:=[_,_,_]) F ⟨F,F,F,trivial⟩ F ⟨hgl,F,?_⟩
      rw [aD]
      exact ⟨_,_,_,F,fun h=>(by cases h),fun _=>by rw [hRl,hit,hstep];rfl⟩
section
variable {P : Program} {n : Nat} {D : List Deferred} {E : bo} {M : World → Prop} {d : Option Nat} {ty : TypeId} {pos : String} {aft : Array Edge} {gd : Option (Nat × Bool)}
theorem vO {T T0 : TypeId} {x : Operand} {desc : TypeDesc} {size bytes b m cap i : Nat} {zero : Value} {G0 : Gh} {L0 : List Own} {cs : List Int} {xs : List Value} {y : Int} [TI P T desc size bytes zero] [Kn M G0 L0] [h : AccB L0 b m cap T0 1 xs] (hx : ev E x = some (Pt b (0 + i * 1))) (ha : dh desc = false) (hxs : xs = aE gu cs) (hi : i < cs.length) (hy : ae cs i = y) :
  Gives P n D E M ⟨d,.load T x,ty,pos,aft,gd⟩ (I y):=fh hx ha (by
 have:=(eV (S:=M) h.mem).go (i * 1 + 0) (I y) (by rw [hxs,e7 hi oM,hy];rfl)
 simpa using this)
end
def ij (fs : List (Fld × V)) : Int:=match fs.getLast? with
 | some p=>p.1.tag
 | none=>0
def gA (fs : List (Fld × V)) : List V:=fs.map fun p=>.nd 61 [] p.1.tag [p.2]
theorem uF (fs : List (Fld × V)) (p : Fld × V) : ij (fs ++ [p]) = p.1.tag:=by simp [ij]
abbrev xF : TypeId:=100
abbrev xI : TypeId:=3
abbrev tFd : TypeId:=112
abbrev zR : TypeId:=110
theorem wd {n : Nat} {u : Value} {vs : List bS} {x : bS} {k s : ac8} (hR : kw n u vs) (h : SchR G u vs) (hw : SchW (ag vs)) (hx : x ∈ vs) (hrf : a7 (ag vs) k = some x.2) (hso : x.2.sort = 82) (hs : s.length ≤ 2000000) (hn : n ≤ 1000) (hkl : k.length ≤ 1000) :
  bn ac7 198 [Ag [u],S s,S k,Ag (i6 x),I (n + 1 : Nat)] G (cx (ag vs) (a9 (ag vs) (rd (ag vs) n) x.2 (123 :: s)) k):=by
 have edn : ((n + 1 : Nat) : Int) - 1 = (n : Nat):=oM
 have hxt : x.2 ∈ ag vs:=List.mem_map_of_mem hx
 have hTW:=hw.ty _ hxt
 have hfl:=hTW.len
 by_cases h125 : ∃ s2,s = 125 :: s2
 ·obtain ⟨s2,rfl⟩:=h125
  have hgood : a9 (ag vs) (rd (ag vs) n) x.2 (123 :: 125 :: s2) = some (.nd 82 [] 0 [],s2):=by
   unfold a9
   dsimp only
   rw [if_pos hso,if_pos (show (123 : UInt8).toNat = 123 from rfl),if_pos (show (125 : UInt8).toNat = 125 from rfl)]
  refine jB [(0,_),(1,_),(2,_),(3,_),(4,_)] Tryz.func198 Tryz.ntmps198 fun B hok hB hW=>?_
  repeat' (first | refine jX ?_ | (refine jo ?_;first | refine jO fun _=>?_ | refine jV (al F F) ?_ | refine aG F ?_) | refine ax F F F ?_ | refine ac F F ?_ | (refine aj (am (id:=3) _ (fun _ h=>h) ai ?_);refine jW 0 [0,1,2,3,4,5] (aa 6 63) ?_;refine jQ ?_))
  rename_i x5 x8 x13
  refine Nx.sealC (b:=x13) fun G2 hG2 hsy=>?_
  refine jZ (vs:=[_,_,_]) F ⟨F,F,F,trivial⟩ F ⟨hG2,F,?_⟩
  rw [aD]
  exact ⟨_,_,_,F,fun _=>⟨.nd 82 [] 0 [],x13,F,hgood,.recd k x13 x.2 [] [] none none 0 0 ⟨hrf,hso⟩ hsy ⟨F,.inl ⟨F,F⟩⟩ ⟨F,.inl ⟨F,F⟩⟩ F (fun i hi=>absurd hi (by simp)) (fun i hi=>absurd hi (by simp))⟩,fun h=>(by cases h)⟩
 have hRl : a9 (ag vs) (rd (ag vs) n) x.2 (123 :: s) = (bH (ag vs) (rd (ag vs) n) x.2 (s.length + 1) 0 s []).map fun x=>(.nd 82 [] 0 x.1,x.2):=by
  unfold a9
  dsimp only
  rw [if_pos hso,if_pos (show (123 : UInt8).toNat = 123 from rfl)]
  cases s with
  | nil=>rw [dO kB];rfl
  | cons e r' =>
   dsimp only
   rw [if_neg]
   intro h;exact h125 ⟨r',by rw [show e = 125 from UInt8.toNat_inj.1 h]⟩
 have hs0 : s = [] ∨ s ≠ [] ∧ ¬ ((bt s (Int.toNat 0) : Nat) : Int) = 125:=by
  cases s with
  | nil=>exact .inl F
  | cons e r' =>
   refine .inr ⟨by simp,fun h=>h125 ⟨r',?_⟩⟩
   have : bt (e :: r') (Int.toNat 0) = e.toNat:=bi e r'
   rw [show e = 125 from UInt8.toNat_inj.1 (show e.toNat = 125 by omega)]
 have hslen : s = [] ∨ 0 < s.length:=by cases s <;> simp
 rcases hs0 with hs0 | ⟨hs0,hs1⟩
 ·subst hs0
  have cx_tg:=rc (G:=G) (u:=u) (x:=x) (s:=[]) (by simp) h.sl.one (h.fl x hx) oM
  have e0 : aR (([] : ac8).takeWhile a8) 200 = none:=by
   cases h : aR (([] : ac8).takeWhile a8) 200 with
   | none=>rfl
   | some m =>
    have:=(ee h).2.1
    have h2:=g8 m
    rw [← this] at h2;simp at h2
  rw [e0] at cx_tg
  refine jB [(0,_),(1,_),(2,_),(3,_),(4,_)] Tryz.func198 Tryz.ntmps198 fun B hok hB hW=>?_
  repeat' (first | refine jR ?_ | (refine jo ?_;first | refine jO fun _=>?_ | refine jV (al F F) ?_ | refine ar F ?_) | refine ak F F F ?_ | refine ad F F ?_)
  rename_i x5 x8 x13
  refine aT (ι:=Unit) (fun i=>True) (fun i=>[(1,S []),(2,S k),(4,I (n + 1 : Nat)),(5,Pt x5 0),(8,Pt x8 0),(13,Pt x13 0)]) (fun _=>G) (fun i=>[.blk x13 (.cells (List.toArray [S k,S [82],aI,aI]) qj (0,0)),.blk x8 (.cells (List.toArray [U8 x.2.sort,S x.2.name,gn x]) zR (0,0)),.blk x5 (.cells (List.toArray [u]) zW (0,0))]) (fun i=>0) () ?_ tU F aZ (fun i Hi=>?_)
  ·trivial
  repeat' (first | refine jR ?_ | (refine jo ?_;first | refine aB F ?_ | refine jL fun _=>?_ | refine jC F F F ?_ | (refine cN F F F cx_tg F ?_;rintro _ ⟨nt,rfl,hnt⟩)) | refine ac F F ?_ | (refine aj (am (id:=5) _ (fun _ h=>h) ai ?_);refine jT 33 [0,1,2] (aa 36 7) ?_;(try (refine Nx.re (d:=43) (v':=Bo true) F (congrArg Value.bool F) ?_));refine jT 31 [3,4] (aa 36 31) ?_;(refine jG (aa 36 63) 5 F (a6 F F F) ?_);refine jT 29 [6] (aa 36 127) ?_;(try (refine Nx.re (d:=47) (v':=Bo true) F (congrArg Value.bool F) ?_));refine jT 26 [7,8,9] (aa 36 1023) ?_;(refine jG (aa 36 2047) 10 F (a6 F F F) ?_);refine jT 24 [11] (aa 36 4095) ?_;(try (refine Nx.re (d:=52) (v':=Bo true) F (congrArg Value.bool F) ?_));refine jT 21 [12,13,14] (aa 36 32767) ?_;(refine jN (aa 36 65535) 15 F ?_);(refine jN (aa 36 131071) 16 F ?_);refine jT 17 [17,18] (aa 36 524287) ?_;(try (fail));refine jT 10 [19,20,21,23,24,25,31] (aa 36 2210398207) ?_;(refine jN (aa 36 2214592511) 22 F ?_);(refine jN (aa 36 2281701375) 26 F ?_);(refine jN (aa 36 2415919103) 27 F ?_);refine jT 6 [28] (aa 36 2684354559) ?_;(refine jN (aa 36 3221225471) 29 F ?_);(refine jN (aa 36 4294967295) 30 F ?_);(refine jN (aa 36 8589934591) 32 F ?_);refine jT 2 [33] (aa 36 17179869183) ?_;(refine jN (aa 36 34359738367) 34 F ?_);(refine jG (aa 36 68719476735) 35 F (a6 F F F) ?_);refine jQ ?_))
  all_goals refine jZ (vs:=[_,_,_]) F ⟨F,F,F,trivial⟩ F ⟨Gh.le.refl _,F,?_⟩
  all_goals (rw [aD];exact ⟨_,_,_,F,fun h=>(by cases h),fun _=>by rw [hRl,dO kB];rfl⟩)
 ·have hslen3 : 0 < s.length:=List.length_pos_iff.2 hs0
  refine jB [(0,_),(1,_),(2,_),(3,_),(4,_)] Tryz.func198 Tryz.ntmps198 fun B hok hB hW=>?_
  repeat' (first | refine jM ?_ | (refine jo ?_;first | refine jO fun _=>?_ | refine jV (al F F) ?_ | refine aG F ?_) | refine ax F F (ay ‹_›) ?_ | refine ad F (aC ‹_›) ?_)
  rename_i x5 x8 x13
  refine Nx.addNil xI 1 (Nx.addNil xF 1 ?_)
  refine aT (ι:=List (Fld × V) × List Nat × Option Addr × Nat × Option Addr × Nat × ac8 × Nat × Gh) (fun q=>((q.2.1.length = q.1.length ∧ (∀ i,i < q.1.length → (ae q.1 i).1 ∈ x.2.fields) ∧ ∀ i,i < q.1.length → RepR q.2.2.2.2.2.2.2.2 (ag vs) (ae q.1 i).2 (ae q.1 i).1.kind (ae q.2.1 i)) ∧ Gh.le G q.2.2.2.2.2.2.2.2) ∧ (bH (ag vs) (rd (ag vs) n) x.2 (s.length + 1) 0 s [] = bH (ag vs) (rd (ag vs) n) x.2 q.2.2.2.2.2.2.2.1 (ij q.1) q.2.2.2.2.2.2.1 (gA q.1) ∧ q.2.2.2.2.2.2.1.length < q.2.2.2.2.2.2.2.1) ∧ q.2.2.2.2.2.2.1.length ≤ s.length ∧ q.1.length + q.2.2.2.2.2.2.1.length ≤ s.length) (fun q=>[(1,S q.2.2.2.2.2.2.1),(2,S k),(4,I (n + 1 : Nat)),(5,Pt x5 0),(8,Pt x8 0),(13,Pt x13 0)]) (fun q=>q.2.2.2.2.2.2.2.2) (fun q=>[.acc (.slice q.2.2.2.2.1 q.1.length q.2.2.2.2.2.1) xF 1 q.1.length (aE eK q.2.1),.acc (.slice q.2.2.1 q.1.length q.2.2.2.1) xI 1 q.1.length (aE gu (q.1.map fun p=>p.1.tag)),.blk x13 (.cells (List.toArray [S k,S [82],.slice q.2.2.1 q.1.length q.2.2.2.1,.slice q.2.2.2.2.1 q.1.length q.2.2.2.2.2.1]) qj (0,0)),.blk x8 (.cells (List.toArray [U8 x.2.sort,S x.2.name,gn x]) zR (0,0)),.blk x5 (.cells (List.toArray [u]) zW (0,0))]) (fun q=>q.2.2.2.2.2.2.1.length) ([],[],none,0,none,0,s,s.length + 1,G) ?_ tU F aZ (fun q Hq=>?_)
  ·exact ⟨⟨⟨F,fun i hi=>absurd hi (by simp),fun i hi=>absurd hi (by simp)⟩,Gh.le.refl _⟩,⟨F,Nat.lt_succ_self _⟩,Nat.le_refl _,by simp⟩
  obtain ⟨fs,bs,a1,c1,a2,c2,t,m,Gq⟩:=q
  dsimp only at Hq ⊢
  obtain ⟨⟨⟨hbl,hfm,hreps⟩,hgq⟩,⟨hit,htm⟩,htl,hft⟩:=Hq
  have cx_tg:=rc (G:=Gq) (u:=u) (x:=x) (s:=t) oM h.sl.one ((h.mono hgq).fl x hx) oM
  repeat' (first | refine jR ?_ | (refine jo ?_;first | refine aB F ?_ | refine jL fun _=>?_ | refine jC F F F ?_ | (refine cN F F F cx_tg F ?_;rintro _ ⟨nt,rfl,hnt⟩)))
  have hnone : ∀ {v : Value} {G' : Gh} {r : ac8},bH (ag vs) (rd (ag vs) n) x.2 m (ij fs) t (gA fs) = none → v = Tu [.pointer none,S r,Bo false] → cx (ag vs) (a9 (ag vs) (rd (ag vs) n) x.2 (123 :: s)) k v G':=fun h1 h2=>⟨_,_,_,h2,fun h=>(by cases h),fun _=>by rw [hRl,hit,h1];rfl⟩
  cases hb16 : (aR (t.takeWhile a8) 200).isSome && (bR x.2.fields nt).isSome with
  | false =>
   have hno : aU (rd (ag vs) n) x.2 t = none:=by
    cases hm : aR (t.takeWhile a8) 200 with
    | none=>exact e8 (.inl hm)
    | some m0 =>
     refine e8 (.inr ⟨m0,hm,?_⟩)
     rw [hm] at hb16
     rw [← hnt m0 hm]
     cases hf : bR x.2.fields nt with
     | none=>rfl
     | some d=>rw [hf] at hb16;cases hb16
   (refine aj (am (id:=5) _ (fun _ h=>h) ai ?_);refine jT 33 [0,1,2] (aa 36 7) ?_;(try (refine Nx.re (d:=43) (v':=Bo true) F (congrArg Value.bool F) ?_));refine jT 31 [3,4] (aa 36 31) ?_;(refine jG (aa 36 63) 5 F (a6 F F F) ?_);refine jT 29 [6] (aa 36 127) ?_;(try (refine Nx.re (d:=47) (v':=Bo true) F (congrArg Value.bool F) ?_));refine jT 26 [7,8,9] (aa 36 1023) ?_;(refine jG (aa 36 2047) 10 F (a6 F F F) ?_);refine jT 24 [11] (aa 36 4095) ?_;(try (refine Nx.re (d:=52) (v':=Bo true) F (congrArg Value.bool F) ?_));refine jT 21 [12,13,14] (aa 36 32767) ?_;(refine jN (aa 36 65535) 15 F ?_);(refine jN (aa 36 131071) 16 F ?_);refine jT 17 [17,18] (aa 36 524287) ?_;(try (fail));refine jT 10 [19,20,21,23,24,25,31] (aa 36 2210398207) ?_;(refine jN (aa 36 2214592511) 22 F ?_);(refine jN (aa 36 2281701375) 26 F ?_);(refine jN (aa 36 2415919103) 27 F ?_);refine jT 6 [28] (aa 36 2684354559) ?_;(refine jN (aa 36 3221225471) 29 F ?_);(refine jN (aa 36 4294967295) 30 F ?_);(refine jN (aa 36 8589934591) 32 F ?_);refine jT 2 [33] (aa 36 17179869183) ?_;(refine jN (aa 36 34359738367) 34 F ?_);(refine jG (aa 36 68719476735) 35 F (a6 F F F) ?_);refine jQ ?_)
   repeat' (first | refine jR ?_ | refine ac F F ?_)
   all_goals refine jZ (vs:=[_,_,_]) F ⟨F,F,F,trivial⟩ F ⟨hgq,F,?_⟩
   all_goals exact hnone (dO hno) F
  | true =>
   simp only [Bool.and_eq_true] at hb16
   obtain ⟨hb1,hb2⟩:=hb16
   obtain ⟨m0,hm⟩:=Option.isSome_iff_exists.1 hb1
   obtain ⟨d,hd⟩:=Option.isSome_iff_exists.1 hb2
   have hnm:=hnt m0 hm
   subst hnm
   rw [hd]
   simp only [Option.getD_some]
   have hdm : d ∈ x.2.fields:=List.mem_of_find?_eq_some hd
   have hdt : d.tag = nt:=by have:=List.find?_some hd;simpa using this
   have hwl:=dK a8 t
   cases hdw : t.dropWhile a8 with
   | nil =>
    have hno : aU (rd (ag vs) n) x.2 t = none:=gG hm (fun s2 h=>by rw [hdw] at h;cases h)
    (refine aj (am (id:=5) _ (fun _ h=>h) ai ?_);refine jT 33 [0,1,2] (aa 36 7) ?_;(try (refine Nx.re (d:=43) (v':=Bo false) F (congrArg Value.bool F) ?_));refine jT 31 [3,4] (aa 36 31) ?_;(refine jG (aa 36 63) 5 F (aJ F F F) ?_);refine jT 29 [6] (aa 36 127) ?_;(try (refine Nx.re (d:=47) (v':=Bo true) F (congrArg Value.bool F) ?_));refine jT 26 [7,8,9] (aa 36 1023) ?_;(refine jG (aa 36 2047) 10 F (a6 F F F) ?_);refine jT 24 [11] (aa 36 4095) ?_;(try (refine Nx.re (d:=52) (v':=Bo true) F (congrArg Value.bool F) ?_));refine jT 21 [12,13,14] (aa 36 32767) ?_;(refine jN (aa 36 65535) 15 F ?_);(refine jN (aa 36 131071) 16 F ?_);refine jT 17 [17,18] (aa 36 524287) ?_;(try (fail));refine jT 10 [19,20,21,23,24,25,31] (aa 36 2210398207) ?_;(refine jN (aa 36 2214592511) 22 F ?_);(refine jN (aa 36 2281701375) 26 F ?_);(refine jN (aa 36 2415919103) 27 F ?_);refine jT 6 [28] (aa 36 2684354559) ?_;(refine jN (aa 36 3221225471) 29 F ?_);(refine jN (aa 36 4294967295) 30 F ?_);(refine jN (aa 36 8589934591) 32 F ?_);refine jT 2 [33] (aa 36 17179869183) ?_;(refine jN (aa 36 34359738367) 34 F ?_);(refine jG (aa 36 68719476735) 35 F (a6 F F F) ?_);refine jQ ?_)
    repeat' (first | refine jR ?_ | refine ac F F ?_)
    all_goals refine jZ (vs:=[_,_,_]) F ⟨F,F,F,trivial⟩ F ⟨hgq,F,?_⟩
    all_goals exact hnone (dO hno) F
   | cons e r2 =>
    have he0 : bt (e :: r2) (Int.toNat 0) = e.toNat:=bi e r2
    have hel : (e :: r2).length = r2.length + 1:=rfl
    by_cases h61 : e.toNat = 61
    case neg =>
     have hno : aU (rd (ag vs) n) x.2 t = none:=gG hm (fun s2 h=>by rw [hdw] at h;simp only [List.cons.injEq] at h;exact h61 (by rw [h.1];rfl))
     (refine aj (am (id:=5) _ (fun _ h=>h) ai ?_);refine jT 33 [0,1,2] (aa 36 7) ?_;(try (refine Nx.re (d:=43) (v':=Bo false) F (congrArg Value.bool F) ?_));refine jT 31 [3,4] (aa 36 31) ?_;(refine jG (aa 36 63) 5 F (aJ F F F) ?_);refine jT 29 [6] (aa 36 127) ?_;(try (refine Nx.re (d:=47) (v':=Bo false) F (congrArg Value.bool F) ?_));refine jW 26 [7,8,9] (aa 36 1023) ?_;(refine jG (aa 36 2047) 10 F (aJ F F F) ?_);refine jT 24 [11] (aa 36 4095) ?_;(try ((refine Nx.re (d:=52) (v':=Bo true) F (congrArg Value.bool (ay oM)) ?_)));refine jT 21 [12,13,14] (aa 36 32767) ?_;(refine jN (aa 36 65535) 15 F ?_);(refine jN (aa 36 131071) 16 F ?_);refine jT 17 [17,18] (aa 36 524287) ?_;(try (fail));refine jT 10 [19,20,21,23,24,25,31] (aa 36 2210398207) ?_;(refine jN (aa 36 2214592511) 22 F ?_);(refine jN (aa 36 2281701375) 26 F ?_);(refine jN (aa 36 2415919103) 27 F ?_);refine jT 6 [28] (aa 36 2684354559) ?_;(refine jN (aa 36 3221225471) 29 F ?_);(refine jN (aa 36 4294967295) 30 F ?_);(refine jN (aa 36 8589934591) 32 F ?_);refine jT 2 [33] (aa 36 17179869183) ?_;(refine jN (aa 36 34359738367) 34 F ?_);(refine jG (aa 36 68719476735) 35 F (a6 F F F) ?_);refine jQ ?_)
     repeat' (first | refine jR ?_ | refine ac F F ?_)
     all_goals refine jZ (vs:=[_,_,_]) F ⟨F,F,F,trivial⟩ F ⟨hgq,F,?_⟩
     all_goals exact hnone (dO hno) F
    have he61 : e = 61:=UInt8.toNat_inj.1 h61
    have hfs:=lx (f:=rd (ag vs) n) (t:=x.2) (s:=t) hm hd (by rw [hdw,he61])
    have hm0 : 0 < m:=oM
    have hflt : (fs.map fun p : Fld × V=>p.1.tag).length = fs.length:=by simp
    have hdt1:=((hTW.fld d hdm).tag).1
    have hlast0 : fs.length = 0 → ij fs = 0:=fun h0=>by rw [List.length_eq_zero_iff.1 h0];rfl
    have hlast1 : 0 < fs.length → ae (fs.map fun p : Fld × V=>p.1.tag) (((fs.length : Nat) : Int) - 1).toNat = ij fs:=fun h0=>by
     have e1 : (((fs.length : Nat) : Int) - 1).toNat = fs.length - 1:=oM
     rw [e1,aW (by rw [hflt];omega)]
     unfold ij
     rw [List.getLast?_eq_getElem?,List.getElem?_eq_getElem oM]
     simp
    rename_i x14
    have hf0 : fs.length = 0 ∨ 0 < fs.length:=oM
    by_cases hlt : d.tag ≤ ij fs
    ·have hpos : 0 < fs.length:=by
      rcases hf0 with h0 | h0
      ·have:=hlast0 h0;omega
      ·exact h0
     have hyl:=hlast1 hpos
     have hno : bH (ag vs) (rd (ag vs) n) x.2 m (ij fs) t (gA fs) = none:=by
      cases hy : rd (ag vs) n d.kind r2 with
      | none=>exact dO (by rw [hfs,hy];rfl)
      | some y =>
       obtain ⟨w,r3⟩:=y
       rw [kf (d:=d) (v:=w) (r:=r3) (by rw [hfs,hy];rfl) hm0,if_pos (.inl hlt)]
     refine Nx.shp (v:=.slice a1 fs.length c1) (.tail _ (.tail _ (.head _))) fun hsh=>?_
     obtain ⟨tb1,tc1,e1⟩:=hsh.pos oM
     simp only [Value.slice.injEq] at e1
     obtain ⟨rfl,-,rfl⟩:=e1
     (refine aj (am (id:=5) _ (fun _ h=>h) ai ?_);refine jT 33 [0,1,2] (aa 36 7) ?_;(try (refine Nx.re (d:=43) (v':=Bo false) F (congrArg Value.bool F) ?_));refine jT 31 [3,4] (aa 36 31) ?_;(refine jG (aa 36 63) 5 F (aJ F F F) ?_);refine jT 29 [6] (aa 36 127) ?_;(try (refine Nx.re (d:=47) (v':=Bo false) F (congrArg Value.bool F) ?_));refine jW 26 [7,8,9] (aa 36 1023) ?_;(refine jG (aa 36 2047) 10 F (aJ F F F) ?_);refine jT 24 [11] (aa 36 4095) ?_;(try ((refine Nx.re (d:=52) (v':=Bo false) F (congrArg Value.bool (aC oM)) ?_)));refine jT 21 [12,13,14] (aa 36 32767) ?_;(refine jG (aa 36 65535) 15 F (aq F F F) ?_);(refine jG (aa 36 131071) 16 F (av F) ?_);refine jT 17 [17,18] (aa 36 524287) ?_;(try ((refine Nx.re (d:=59) (v':=Bo true) F (congrArg Value.bool (ay oM)) ?_)));refine jT 10 [19,20,21,23,24,25,31] (aa 36 2210398207) ?_;(refine jG (aa 36 2214592511) 22 F (aq F F F) ?_);(refine jG (aa 36 2281701375) 26 F (aq F F F) ?_);(refine jG (aa 36 2415919103) 27 F (av F) ?_);refine jW 6 [28] (aa 36 2684354559) ?_;(refine jG (aa 36 3221225471) 29 F (aN F F oM) ?_);((refine jG (aa 36 4294967295) 30 F (vO F F F ?_ aS) ?_;focus omega));(refine jG (aa 36 8589934591) 32 F (aq F F F) ?_);refine jT 2 [33] (aa 36 17179869183) ?_;(refine jG (aa 36 34359738367) 34 F (a6 F F F) ?_);(refine jG (aa 36 68719476735) 35 F (aJ F F F) ?_);refine jQ ?_)
     repeat' (first | refine jR ?_ | refine ac F (ay ‹_›) ?_)
     all_goals refine jZ (vs:=[_,_,_]) F ⟨F,F,F,trivial⟩ F ⟨hgq,F,?_⟩
     all_goals exact hnone hno F
    have hSq:=h.mono hgq
    have hdk : aO (ag vs) d.kind = true:=dT hw hxt oM hdm
    rw [hdw,List.length_cons] at hwl
    have cx_rd:=hR Gq d.kind r2 hSq hdk oM
    rw [← edn] at cx_rd
    rcases hf0 with hf0 | hf0
    rotate_left
    have hyl:=hlast1 hf0
    refine Nx.shp (v:=.slice a1 fs.length c1) (.tail _ (.tail _ (.head _))) fun hsh=>?_
    obtain ⟨tb1,tc1,e1⟩:=hsh.pos oM
    simp only [Value.slice.injEq] at e1
    obtain ⟨rfl,-,rfl⟩:=e1
    all_goals
     (refine aj (am (id:=5) _ (fun _ h=>h) ai ?_);refine jT 33 [0,1,2] (aa 36 7) ?_;(try (refine Nx.re (d:=43) (v':=Bo false) F (congrArg Value.bool F) ?_));refine jT 31 [3,4] (aa 36 31) ?_;(refine jG (aa 36 63) 5 F (aJ F F F) ?_);refine jT 29 [6] (aa 36 127) ?_;(try (refine Nx.re (d:=47) (v':=Bo false) F (congrArg Value.bool F) ?_));refine jW 26 [7,8,9] (aa 36 1023) ?_;(refine jG (aa 36 2047) 10 F (aJ F F F) ?_);refine jT 24 [11] (aa 36 4095) ?_;(try ((refine Nx.re (d:=52) (v':=Bo false) F (congrArg Value.bool (aC oM)) ?_)));refine jT 21 [12,13,14] (aa 36 32767) ?_;(refine jG (aa 36 65535) 15 F (aq F F F) ?_);(refine jG (aa 36 131071) 16 F (av F) ?_);refine jT 17 [17,18] (aa 36 524287) ?_;(try (first | (refine Nx.re (d:=59) (v':=Bo true) F (congrArg Value.bool (ay oM)) ?_) | (refine Nx.re (d:=59) (v':=Bo false) F (congrArg Value.bool (aC oM)) ?_)));refine jT 10 [19,20,21,23,24,25,31] (aa 36 2210398207) ?_;(first | refine jG (aa 36 2214592511) 22 F (aq F F F) ?_ | refine jN (aa 36 2214592511) 22 F ?_);(first | refine jG (aa 36 2281701375) 26 F (aq F F F) ?_ | refine jN (aa 36 2281701375) 26 F ?_);(first | refine jG (aa 36 2415919103) 27 F (av F) ?_ | refine jN (aa 36 2415919103) 27 F ?_);refine jW 6 [28] (aa 36 2684354559) ?_;(first | refine jG (aa 36 3221225471) 29 F (aN F F oM) ?_ | refine jN (aa 36 3221225471) 29 F ?_);(first | (refine jG (aa 36 4294967295) 30 F (vO F F F ?_ aS) ?_;focus omega) | refine jN (aa 36 4294967295) 30 F ?_);(first | refine jG (aa 36 8589934591) 32 F (aq F F F) ?_ | refine jN (aa 36 8589934591) 32 F ?_);refine jT 2 [33] (aa 36 17179869183) ?_;(first | refine jG (aa 36 34359738367) 34 F (a6 F F F) ?_ | refine jG (aa 36 34359738367) 34 F (aJ F F F) ?_);(refine jG (aa 36 68719476735) 35 F (aJ F F F) ?_);refine jQ ?_)
     repeat' (first | refine jR ?_ | (refine ad F (by first | rfl | (refine decide_eq_false ?_;(assumption))) ?_))
     (refine aj (am (id:=7) _ (fun _ h=>h) ai ?_);refine jW 10 [1,2,3,5,6] (aa 15 110) ?_;(refine jG (aa 15 111) 0 F (bD F F F F) ?_);(refine jG (aa 15 127) 4 F (aq F F F) ?_);refine jA 7 F ?_;(refine aK F F F cx_rd F ?_;rintro _ G hle ⟨q1,r1,ok1,rfl,hyes,hno⟩;skip);refine jS (aa 15 255) ?_;refine jT 0 [8,9,10,11,12,13,14] (aa 15 32767) ?_;refine jQ ?_)
     repeat' (refine jR ?_)
     have hgl:=hgq.trans hle
     cases ok1 with
     | false =>
      have hno2 : aU (rd (ag vs) n) x.2 t = none:=by rw [hfs,hno rfl];rfl
      (refine aj (am (id:=8) _ (fun _ h=>h) ai ?_);refine jT 22 [0,1,2] (aa 25 7) ?_;(try (refine Nx.re (d:=92) (v':=Bo true) F (congrArg Value.bool F) ?_));refine jT 20 [3,5] (aa 25 47) ?_;(refine jN (aa 25 111) 6 F ?_);(refine jN (aa 25 239) 7 F ?_);(refine jN (aa 25 255) 4 F ?_);(refine jN (aa 25 511) 8 F ?_);refine jT 15 [9] (aa 25 1023) ?_;(refine jG (aa 25 2047) 10 F (a6 F F F) ?_);refine jT 13 [11] (aa 25 4095) ?_;(try (refine Nx.re (d:=101) (v':=Bo true) F (congrArg Value.bool F) ?_));refine jT 11 [12,13] (aa 25 16383) ?_;(refine jG (aa 25 32767) 14 F (a6 F F F) ?_);refine jT 9 [15] (aa 25 65535) ?_;(try (refine Nx.re (d:=105) (v':=Bo true) F (congrArg Value.bool F) ?_));refine jT 5 [16,17,18,19] (aa 25 1048575) ?_;(try (fail));refine jT 2 [20,21,22] (aa 25 8388607) ?_;(refine jN (aa 25 16777215) 23 F ?_);(refine jG (aa 25 33554431) 24 F (a6 F F F) ?_);refine jQ ?_)
      repeat' (first | refine jR ?_ | refine ac F F ?_)
      all_goals refine jZ (vs:=[_,_,_]) F ⟨F,F,F,trivial⟩ F ⟨hgl,F,?_⟩
      all_goals exact hnone (dO hno2) F
     | true =>
      obtain ⟨w,wb,rfl,hf,hrep⟩:=hyes rfl
      have hsh:=gT hf
      have htt:=jc _ _ _ _ hf
      dsimp only at htt hsh
      have hob:=lh hw hrep
      unfold gO at hob
      have cx_out:=iy hw hrep oM
      have cx_sta:=om (f:=d) (h.mono hgl) hw hdk
      have hfd : aU (rd (ag vs) n) x.2 t = some ((d,w),r1):=by rw [hfs,hf];rfl
      have hst:=kf (ts:=ag vs) (vs:=gA fs) (last:=ij fs) hfd hm0
      by_cases heq : w.out = cW (ag vs) d
      ·rw [if_pos (.inr heq)] at hst
       (refine aj (am (id:=8) _ (fun _ h=>h) ai ?_);refine jT 22 [0,1,2] (aa 25 7) ?_;(try (refine Nx.re (d:=92) (v':=Bo false) F (congrArg Value.bool F) ?_));refine jT 20 [3,5] (aa 25 47) ?_;(refine jG (aa 25 111) 6 F (aq F F F) ?_);(refine jG (aa 25 239) 7 F (bD F F F F) ?_);(refine jA 4 F ?_;(refine ab F F F cx_out F ?_);refine jS (aa 25 255) ?_);(refine jA 8 F ?_;(refine ab F F F cx_sta F ?_);refine jS (aa 25 511) ?_);refine jT 15 [9] (aa 25 1023) ?_;(refine jG (aa 25 2047) 10 F (aJ F F F) ?_);refine jT 13 [11] (aa 25 4095) ?_;(try (refine Nx.re (d:=101) (v':=Bo true) F (congrArg Value.bool (ay ‹_›)) ?_));refine jT 11 [12,13] (aa 25 16383) ?_;(refine jG (aa 25 32767) 14 F (a6 F F F) ?_);refine jT 9 [15] (aa 25 65535) ?_;(try (refine Nx.re (d:=105) (v':=Bo true) F (congrArg Value.bool F) ?_));refine jT 5 [16,17,18,19] (aa 25 1048575) ?_;(try (fail));refine jT 2 [20,21,22] (aa 25 8388607) ?_;(refine jN (aa 25 16777215) 23 F ?_);(refine jG (aa 25 33554431) 24 F (a6 F F F) ?_);refine jQ ?_)
       repeat' (first | refine jR ?_ | refine ac F F ?_)
       all_goals refine jZ (vs:=[_,_,_]) F ⟨F,F,F,trivial⟩ F ⟨hgl,F,?_⟩
       all_goals exact hnone hst F
      rw [if_neg (fun h=>by rcases h with h | h;exact hlt h;exact heq h)] at hst
      cases r1 with
      | nil =>
       (refine aj (am (id:=8) _ (fun _ h=>h) ai ?_);refine jT 22 [0,1,2] (aa 25 7) ?_;(try (refine Nx.re (d:=92) (v':=Bo false) F (congrArg Value.bool F) ?_));refine jT 20 [3,5] (aa 25 47) ?_;(refine jG (aa 25 111) 6 F (aq F F F) ?_);(refine jG (aa 25 239) 7 F (bD F F F F) ?_);(refine jA 4 F ?_;(refine ab F F F cx_out F ?_);refine jS (aa 25 255) ?_);(refine jA 8 F ?_;(refine ab F F F cx_sta F ?_);refine jS (aa 25 511) ?_);refine jT 15 [9] (aa 25 1023) ?_;(refine jG (aa 25 2047) 10 F (aJ F F F) ?_);refine jT 13 [11] (aa 25 4095) ?_;(try (refine Nx.re (d:=101) (v':=Bo false) F (congrArg Value.bool (aC ‹_›)) ?_));refine jT 11 [12,13] (aa 25 16383) ?_;(refine jG (aa 25 32767) 14 F (aJ F F F) ?_);refine jT 9 [15] (aa 25 65535) ?_;(try (refine Nx.re (d:=105) (v':=Bo true) F (congrArg Value.bool F) ?_));refine jT 5 [16,17,18,19] (aa 25 1048575) ?_;(try (fail));refine jT 2 [20,21,22] (aa 25 8388607) ?_;(refine jN (aa 25 16777215) 23 F ?_);(refine jG (aa 25 33554431) 24 F (a6 F F F) ?_);refine jQ ?_)
       repeat' (first | refine jR ?_ | refine ac F F ?_)
       all_goals refine jZ (vs:=[_,_,_]) F ⟨F,F,F,trivial⟩ F ⟨hgl,F,?_⟩
       all_goals exact hnone hst F
      | cons e2 r3 =>
       have he20 : bt (e2 :: r3) (Int.toNat 0) = e2.toNat:=bi e2 r3
       have hel2 : (e2 :: r3).length = r3.length + 1:=rfl
       have hl' : (fs ++ [(d,w)]).length = fs.length + 1:=by simp
       have hbl' : (bs ++ [wb]).length = (fs ++ [(d,w)]).length:=by simp [hbl]
       have hnth : ∀ i,i < (fs ++ [(d,w)]).length → (i < fs.length ∧ ae (fs ++ [(d,w)]) i = ae fs i ∧ ae (bs ++ [wb]) i = ae bs i) ∨ (ae (fs ++ [(d,w)]) i = (d,w) ∧ ae (bs ++ [wb]) i = wb):=fun i hi=>by
        by_cases h1 : i < fs.length
        ·exact .inl ⟨h1,by rw [aW hi,aW h1,List.getElem_append_left h1],by rw [aW oM,aW oM,List.getElem_append_left oM]⟩
        ·have h2 : i = fs.length:=oM
         exact .inr ⟨by rw [aW hi];simp [h2],by rw [aW oM];simp [h2,hbl]⟩
       have hfm' : ∀ i,i < (fs ++ [(d,w)]).length → (ae (fs ++ [(d,w)]) i).1 ∈ x.2.fields:=fun i hi=>by
        rcases hnth i hi with ⟨h1,h2,_⟩ | ⟨h2,_⟩
        ·rw [h2];exact hfm i h1
        ·rw [h2];exact hdm
       have hreps' : ∀ i,i < (fs ++ [(d,w)]).length → RepR G (ag vs) (ae (fs ++ [(d,w)]) i).2 (ae (fs ++ [(d,w)]) i).1.kind (ae (bs ++ [wb]) i):=fun i hi=>by
        rcases hnth i hi with ⟨h1,h2,h3⟩ | ⟨h2,h3⟩
        ·rw [h2,h3];exact (hreps i h1).mono hle
        ·rw [h2,h3];exact hrep
       have hrow1 : aE gu (fs.map fun p=>p.1.tag) ++ [I d.tag] = aE gu ((fs ++ [(d,w)]).map fun p=>p.1.tag):=by rw [List.map_append];exact (co gu _ d.tag).symm
       have hrow2 : aE eK bs ++ [Pt wb 0] = aE eK (bs ++ [wb]):=(co eK bs wb).symm
       have hnd : gA (fs ++ [(d,w)]) = gA fs ++ [.nd 61 [] d.tag [w]]:=by simp [gA]
       dsimp only at hst
       by_cases h44 : e2.toNat = 44
       ·rw [if_pos h44] at hst
        have hn93 : ¬ e2.toNat = 125:=oM
        (refine aj (am (id:=8) _ (fun _ h=>h) ai ?_);refine jT 22 [0,1,2] (aa 25 7) ?_;(try (refine Nx.re (d:=92) (v':=Bo false) F (congrArg Value.bool F) ?_));refine jT 20 [3,5] (aa 25 47) ?_;(refine jG (aa 25 111) 6 F (aq F F F) ?_);(refine jG (aa 25 239) 7 F (bD F F F F) ?_);(refine jA 4 F ?_;(refine ab F F F cx_out F ?_);refine jS (aa 25 255) ?_);(refine jA 8 F ?_;(refine ab F F F cx_sta F ?_);refine jS (aa 25 511) ?_);refine jT 15 [9] (aa 25 1023) ?_;(refine jG (aa 25 2047) 10 F (aJ F F F) ?_);refine jT 13 [11] (aa 25 4095) ?_;(try (refine Nx.re (d:=101) (v':=Bo false) F (congrArg Value.bool (aC ‹_›)) ?_));refine jT 11 [12,13] (aa 25 16383) ?_;(refine jG (aa 25 32767) 14 F (aJ F F F) ?_);refine jT 9 [15] (aa 25 65535) ?_;(try (refine Nx.re (d:=105) (v':=Bo false) F (congrArg Value.bool F) ?_));refine jW 5 [16,17,18,19] (aa 25 1048575) ?_;(try ((refine Nx.re (d:=109) (v':=Bo false) F (congrArg Value.bool (aC oM)) ?_)));refine jT 2 [20,21,22] (aa 25 8388607) ?_;(refine jG (aa 25 16777215) 23 F (aJ F F F) ?_);(refine jG (aa 25 33554431) 24 F (aJ F F F) ?_);refine jQ ?_)
        repeat' (first | refine jR ?_ | refine ad F F ?_)
        (refine aj (am (id:=10) [.blk x14 (.cells (List.toArray [I d.tag,S d.name,S d.kind,S d.stand]) tFd (0,0))] (by intro y hy;simp only [List.mem_cons,List.not_mem_nil,or_false] at hy ⊢;simp [hy]) ai ?_);refine jW 7 [0,1,2,3,5] (aa 12 47) ?_;(refine jG (aa 12 111) 6 F (aq F F F) ?_);refine bA [4,7] kR dC ⟨?_,?_,trivial⟩;(focus (refine aM F F ?_;(refine ah F ?_);refine jK (aa 12 127) ?_;refine jA 7 F ?_;(refine jF fun _=>?_);refine jK (aa 12 255) ?_;refine jA 8 F ?_;((refine bY F F F F F F F F F ?_ fun _ _=>?_;focus omega));refine jK (aa 12 511) ?_;refine jW 1 [9,10] (aa 12 2047) ?_;refine jA 11 F ?_;(refine jD F F F ?_);refine jK (aa 12 4095) ?_;refine jQ ?_));rotate_left 1;(focus (refine aM F F ?_;(refine jF fun _=>?_);refine jK (aa 12 239) ?_;refine jA 4 F ?_;(refine ah F ?_);refine jK (aa 12 255) ?_;refine jA 8 F ?_;((refine bY F F F F F F F F F ?_ fun _ _=>?_;focus omega));refine jK (aa 12 511) ?_;refine jW 1 [9,10] (aa 12 2047) ?_;refine jA 11 F ?_;(refine jD F F F ?_);refine jK (aa 12 4095) ?_;refine jQ ?_));rotate_left 1)
        all_goals repeat' (first | refine jM ?_ | (refine jo ?_;first | refine ah F ?_ | refine jD F F F ?_ | refine jF fun _=>?_ | refine bY F F F F F F F F F oM fun _ _=>?_) | refine ad F (aC oM) ?_)
        all_goals
         rename_i _ y1 yc1 _ y2 yc2
         rw [hrow1,hrow2]
         exact aY (fs ++ [(d,w)],bs ++ [wb],some ⟨y1,0,none⟩,yc1,some ⟨y2,0,none⟩,yc2,r3,m - 1,G) ⟨⟨⟨hbl',hfm',hreps'⟩,hgl⟩,⟨(by dsimp only;rw [hit,hst,uF,hnd]),(by dsimp only;omega)⟩,(by dsimp only;omega),(by dsimp only;omega)⟩ (by dsimp only;omega) tU rfl (by rw [hl'];repeat (first | exact List.Sublist.refl _ | apply List.Sublist.cons_cons | apply List.Sublist.cons))
       ·rw [if_neg h44] at hst
        by_cases h125' : e2.toNat = 125
        ·rw [if_pos h125'] at hst
         (refine aj (am (id:=8) _ (fun _ h=>h) ai ?_);refine jT 22 [0,1,2] (aa 25 7) ?_;(try (refine Nx.re (d:=92) (v':=Bo false) F (congrArg Value.bool F) ?_));refine jT 20 [3,5] (aa 25 47) ?_;(refine jG (aa 25 111) 6 F (aq F F F) ?_);(refine jG (aa 25 239) 7 F (bD F F F F) ?_);(refine jA 4 F ?_;(refine ab F F F cx_out F ?_);refine jS (aa 25 255) ?_);(refine jA 8 F ?_;(refine ab F F F cx_sta F ?_);refine jS (aa 25 511) ?_);refine jT 15 [9] (aa 25 1023) ?_;(refine jG (aa 25 2047) 10 F (aJ F F F) ?_);refine jT 13 [11] (aa 25 4095) ?_;(try (refine Nx.re (d:=101) (v':=Bo false) F (congrArg Value.bool (aC ‹_›)) ?_));refine jT 11 [12,13] (aa 25 16383) ?_;(refine jG (aa 25 32767) 14 F (aJ F F F) ?_);refine jT 9 [15] (aa 25 65535) ?_;(try (refine Nx.re (d:=105) (v':=Bo false) F (congrArg Value.bool F) ?_));refine jW 5 [16,17,18,19] (aa 25 1048575) ?_;(try ((refine Nx.re (d:=109) (v':=Bo true) F (congrArg Value.bool (ay oM)) ?_)));refine jW 2 [20,21,22] (aa 25 8388607) ?_;(refine jG (aa 25 16777215) 23 F (a6 F F F) ?_);(refine jG (aa 25 33554431) 24 F (aJ F F F) ?_);refine jQ ?_)
         repeat' (first | refine jR ?_ | refine ad F (aC oM) ?_)
         (refine aj (am (id:=10) [.blk x14 (.cells (List.toArray [I d.tag,S d.name,S d.kind,S d.stand]) tFd (0,0))] (by intro y hy;simp only [List.mem_cons,List.not_mem_nil,or_false] at hy ⊢;simp [hy]) ai ?_);refine jW 7 [0,1,2,3,5] (aa 12 47) ?_;(refine jG (aa 12 111) 6 F (aq F F F) ?_);refine bA [4,7] kR dC ⟨?_,?_,trivial⟩;(focus (refine aM F F ?_;(refine ah F ?_);refine jK (aa 12 127) ?_;refine jA 7 F ?_;(refine jF fun _=>?_);refine jK (aa 12 255) ?_;refine jA 8 F ?_;((refine bY F F F F F F F F F ?_ fun _ _=>?_;focus omega));refine jK (aa 12 511) ?_;refine jW 1 [9,10] (aa 12 2047) ?_;refine jA 11 F ?_;(refine jD F F F ?_);refine jK (aa 12 4095) ?_;refine jQ ?_));rotate_left 1;(focus (refine aM F F ?_;(refine jF fun _=>?_);refine jK (aa 12 239) ?_;refine jA 4 F ?_;(refine ah F ?_);refine jK (aa 12 255) ?_;refine jA 8 F ?_;((refine bY F F F F F F F F F ?_ fun _ _=>?_;focus omega));refine jK (aa 12 511) ?_;refine jW 1 [9,10] (aa 12 2047) ?_;refine jA 11 F ?_;(refine jD F F F ?_);refine jK (aa 12 4095) ?_;refine jQ ?_));rotate_left 1)
         all_goals repeat' (first | refine jM ?_ | (refine jo ?_;first | refine ah F ?_ | refine jD F F F ?_ | refine jF fun _=>?_ | refine bY F F F F F F F F F oM fun _ _=>?_) | refine ac F (ay oM) ?_)
         all_goals
          rename_i _ y1 yc1 _ y2 yc2
          rw [hrow1,hrow2]
          refine Nx.sealS (v:=.slice (some ⟨y1,0,none⟩) (fs.length + 1) yc1) fun G2 hG2 hs1=>?_
          refine Nx.sealS (v:=.slice (some ⟨y2,0,none⟩) (fs.length + 1) yc2) fun G3 hG3 hs2=>?_
          refine Nx.sealC (b:=x13) fun G4 hG4 hsg=>?_
          refine jZ (vs:=[_,_,_]) F ⟨F,F,F,trivial⟩ F ⟨(((hgl.trans hG2).trans hG3).trans hG4),F,?_⟩
          rw [aD]
          exact ⟨_,_,_,F,fun _=>⟨.nd 82 [] 0 (gA (fs ++ [(d,w)])),x13,F,(by rw [hRl,hit,hst,hnd];rfl),.recd k x13 x.2 (fs ++ [(d,w)]) (bs ++ [wb]) (some ⟨y1,0,none⟩) (some ⟨y2,0,none⟩) yc1 yc2 ⟨hrf,hso⟩ (by rw [hl'];exact hsg) (by rw [hl'];exact (hs1.mono hG3).mono hG4) (by rw [hl'];exact hs2.mono hG4) hbl' hfm' (fun i hi=>(hreps' i hi).mono ((hG2.trans hG3).trans hG4))⟩,fun h=>(by cases h)⟩
        ·rw [if_neg h125'] at hst
         (refine aj (am (id:=8) _ (fun _ h=>h) ai ?_);refine jT 22 [0,1,2] (aa 25 7) ?_;(try (refine Nx.re (d:=92) (v':=Bo false) F (congrArg Value.bool F) ?_));refine jT 20 [3,5] (aa 25 47) ?_;(refine jG (aa 25 111) 6 F (aq F F F) ?_);(refine jG (aa 25 239) 7 F (bD F F F F) ?_);(refine jA 4 F ?_;(refine ab F F F cx_out F ?_);refine jS (aa 25 255) ?_);(refine jA 8 F ?_;(refine ab F F F cx_sta F ?_);refine jS (aa 25 511) ?_);refine jT 15 [9] (aa 25 1023) ?_;(refine jG (aa 25 2047) 10 F (aJ F F F) ?_);refine jT 13 [11] (aa 25 4095) ?_;(try (refine Nx.re (d:=101) (v':=Bo false) F (congrArg Value.bool (aC ‹_›)) ?_));refine jT 11 [12,13] (aa 25 16383) ?_;(refine jG (aa 25 32767) 14 F (aJ F F F) ?_);refine jT 9 [15] (aa 25 65535) ?_;(try (refine Nx.re (d:=105) (v':=Bo false) F (congrArg Value.bool F) ?_));refine jW 5 [16,17,18,19] (aa 25 1048575) ?_;(try ((refine Nx.re (d:=109) (v':=Bo true) F (congrArg Value.bool (ay oM)) ?_)));refine jW 2 [20,21,22] (aa 25 8388607) ?_;(refine jG (aa 25 16777215) 23 F (a6 F F F) ?_);(refine jG (aa 25 33554431) 24 F (aJ F F F) ?_);refine jQ ?_)
         repeat' (first | refine jR ?_ | refine ac F (ay oM) ?_)
         all_goals refine jZ (vs:=[_,_,_]) F ⟨F,F,F,trivial⟩ F ⟨hgl,F,?_⟩
         all_goals exact hnone hst F
theorem um {ts : List Ty} {f : ac8 → ac8 → Option (V × ac8)} {t : Ty} {e : UInt8} {s : ac8} (h : t.sort = 82 ∧ ¬ e.toNat = 123 ∨ t.sort = 69 ∧ ¬ e.toNat = 35 ∨ t.sort = 85 ∧ ¬ e.toNat = 60) : a9 ts f t (e :: s) = none:=by
 unfold a9
 dsimp only
 rcases h with ⟨h1,h2⟩ | ⟨h1,h2⟩ | ⟨h1,h2⟩
 ·rw [if_pos h1,if_neg h2]
 ·rw [if_neg oM,if_pos h1,if_neg h2]
 ·rw [if_neg oM,if_neg oM,if_neg h2]
theorem aa1 {n : Nat} {u : Value} {vs : List bS} {x : bS} {k s : ac8} {e : UInt8} (hu : u.oneCell' = true) (cx_rf : an ac7 141 [u,S k] G (· = Tu [Ag [U8 x.2.sort,S x.2.name,gn x],Bo true])) (hso : x.2.sort = 82 ∧ ¬ e.toNat = 123 ∨ x.2.sort = 69 ∧ ¬ e.toNat = 35 ∨ x.2.sort = 85 ∧ ¬ e.toNat = 60) (hs : s.length ≤ 2000000) (hn : n ≤ 1000) :
  bn ac7 180 [Ag [u],S (e :: s),S k,I (n + 1 : Nat)] G (cx (ag vs) (a9 (ag vs) (rd (ag vs) n) x.2 (e :: s)) k):=by
 have hno:=um (ts:=ag vs) (f:=rd (ag vs) n) (s:=s) hso
 have he0 : bt (e :: s) (Int.toNat 0) = e.toNat:=bi e s
 have hel : (e :: s).length = s.length + 1:=rfl
 rcases hso with ⟨h1,h2⟩ | ⟨h1,h2⟩ | ⟨h1,h2⟩
 all_goals
  have h1' : (x.2.sort : Int) = 82 ∨ (x.2.sort : Int) = 69 ∨ (x.2.sort : Int) = 85:=oM
  refine jB [(0,_),(1,_),(2,_),(3,_)] Tryz.func180 Tryz.ntmps180 fun B hok hB hW=>?_
  repeat' (first | refine jM ?_ | (refine jo ?_;first | refine jO fun _=>?_ | refine ah F ?_ | refine jL fun _=>?_ | refine jC F F F ?_ | refine aG F ?_ | refine ar F ?_ | refine ab F F F cx_rf F ?_) | refine ax F F (ay oM) ?_ | refine ak F F (aC oM) ?_ | (refine ad F (by first | rfl | (refine decide_eq_false ?_;(omega))) ?_))
  all_goals refine jZ (vs:=[_,_,_]) F ⟨F,F,F,trivial⟩ F ⟨Gh.le.refl _,F,?_⟩
  all_goals (rw [aD];exact ⟨_,_,_,F,fun h=>(by cases h),fun _=>hno⟩)
theorem aa3 {n : Nat} {u : Value} {vs : List bS} {x : bS} {k s : ac8} (hR : kw n u vs) (h : SchR G u vs) (hw : SchW (ag vs)) (hx : x ∈ vs) (hrf : a7 (ag vs) k = some x.2) (cx_rf : an ac7 141 [u,S k] G (· = Tu [Ag [U8 x.2.sort,S x.2.name,gn x],Bo true])) (hso : x.2.sort = 82) (hs : s.length ≤ 1999999) (hn : n ≤ 1000) (hkl : k.length ≤ 1000) :
  bn ac7 180 [Ag [u],S (123 :: s),S k,I (n + 1 : Nat)] G (cx (ag vs) (a9 (ag vs) (rd (ag vs) n) x.2 (123 :: s)) k):=by
 have cx_rc:=wd (s:=s) hR h hw hx hrf hso oM hn hkl
 have he0 : bt (123 :: s) (Int.toNat 0) = 123:=bi 123 s
 have hel : (123 :: s).length = s.length + 1:=rfl
 have h1' : (x.2.sort : Int) = 82:=oM
 refine jB [(0,_),(1,_),(2,_),(3,_)] Tryz.func180 Tryz.ntmps180 fun B hok hB hW=>?_
 repeat' (first | refine jM ?_ | (refine jo ?_;first | refine jO fun _=>?_ | refine ah F ?_ | refine jL fun _=>?_ | refine jC F F F ?_ | refine aG F ?_ | refine ab F F F cx_rf F ?_) | refine ax F F (ay ‹_›) ?_ | refine ac F F ?_ | (refine aj (am (id:=3) _ (fun _ h=>h) ai ?_);refine jW 9 [1,2,3,5] (aa 13 46) ?_;(refine jG (aa 13 47) 0 F (bD F F F F) ?_);(refine jG (aa 13 63) 4 F (bD F F F F) ?_);refine jA 6 F ?_;(refine aK F F F cx_rc F ?_;rintro _ G hle ⟨q1,r1,ok1,rfl,hyes,hno⟩;skip);refine jS (aa 13 127) ?_;refine jT 0 [7,8,9,10,11,12] (aa 13 8191) ?_;refine jQ ?_))
 refine jZ (vs:=[_,_,_]) F ⟨F,F,F,trivial⟩ F ⟨hle,F,?_⟩
 rw [aD]
 exact ⟨_,_,_,F,hyes,hno⟩
theorem aa4 {n : Nat} {u : Value} {vs : List bS} {x : bS} {k s : ac8} (h : SchR G u vs) (hw : SchW (ag vs)) (hx : x ∈ vs) (hrf : a7 (ag vs) k = some x.2) (cx_rf : an ac7 141 [u,S k] G (· = Tu [Ag [U8 x.2.sort,S x.2.name,gn x],Bo true])) (hso : x.2.sort = 69) (hs : s.length ≤ 1999999) (hn : n ≤ 1000) :
  bn ac7 180 [Ag [u],S (35 :: s),S k,I (n + 1 : Nat)] G (cx (ag vs) (a9 (ag vs) (rd (ag vs) n) x.2 (35 :: s)) k):=by
 have hxt : x.2 ∈ ag vs:=List.mem_map_of_mem hx
 have hTW:=hw.ty _ hxt
 have hfl:=hTW.len
 have cx_tg:=rc (G:=G) (u:=u) (x:=x) (s:=s) oM h.sl.one (h.fl x hx) oM
 have he0 : bt (35 :: s) (Int.toNat 0) = 35:=bi 35 s
 have hel : (35 :: s).length = s.length + 1:=rfl
 have h1' : (x.2.sort : Int) = 69:=oM
 have hRT : a9 (ag vs) (rd (ag vs) n) x.2 (35 :: s) = match cm 200 s with
   | none=>none
   | some (n,r)=>if (bR x.2.fields n).isSome = true then some (.nd 69 [] n [],r) else none:=by
  unfold a9
  dsimp only
  rw [if_neg oM,if_pos hso,if_pos (show (35 : UInt8).toNat = 35 from rfl)]
  cases cm 200 s <;> rfl
 unfold cm at hRT
 simp only [i6] at cx_tg
 refine jB [(0,_),(1,_),(2,_),(3,_)] Tryz.func180 Tryz.ntmps180 fun B hok hB hW=>?_
 repeat' (first | refine jM ?_ | (refine jo ?_;first | refine jO fun _=>?_ | refine ah F ?_ | refine jL fun _=>?_ | refine jC F F F ?_ | refine aG F ?_ | refine ar F ?_ | refine jF fun _=>?_ | refine jV (al F F) ?_ | refine ab F F F cx_rf F ?_) | refine ax F F (ay ‹_›) ?_ | refine ak F F (aC oM) ?_ | refine ac F F ?_ | refine ad F F ?_ | (refine aj (am (id:=5) _ (fun _ h=>h) ai ?_);refine jW 11 [1,2] (aa 13 6) ?_;(refine jG (aa 13 7) 0 F (bD F F F F) ?_);(refine jG (aa 13 15) 3 F (bD F F F F) ?_);refine bA [4,9] kR dC ⟨?_,?_,trivial⟩;(focus (refine aM F F ?_;(refine cN F F F cx_tg F ?_;rintro _ ⟨nt,rfl,hnt⟩);refine jK (aa 13 31) ?_;refine jW 4 [5,6,7,8] (aa 13 511) ?_;refine jA 9 F ?_;(refine jL fun _=>?_);refine jK (aa 13 1023) ?_;refine jA 10 F ?_;(refine jC F F F ?_);refine jK (aa 13 2047) ?_;refine jW 0 [11,12] (aa 13 8191) ?_;refine jQ ?_));rotate_left 1;(focus (refine aM F F ?_;(refine jL fun _=>?_);refine jK (aa 13 527) ?_;refine jA 4 F ?_;(refine cN F F F cx_tg F ?_;rintro _ ⟨nt,rfl,hnt⟩);refine jK (aa 13 543) ?_;refine jW 3 [5,6,7,8] (aa 13 1023) ?_;refine jA 10 F ?_;(refine jC F F F ?_);refine jK (aa 13 2047) ?_;refine jW 0 [11,12] (aa 13 8191) ?_;refine jQ ?_));rotate_left 1))
 all_goals
  rename_i y y8
  refine Nx.sealC (b:=y) fun G2 hG2 hsy=>?_
  refine Nx.sealC (b:=y8) fun G3 hG3 hsg=>?_
  refine jZ (vs:=[_,_,_]) F ⟨F,F,F,trivial⟩ F ⟨(hG2.trans hG3),F,?_⟩
  rw [aD]
  refine ⟨_,_,_,F,fun hb=>?_,fun hb=>?_⟩
  ·simp only [Bool.and_eq_true] at hb
   obtain ⟨hb1,hb2⟩:=hb
   obtain ⟨m0,hm⟩:=Option.isSome_iff_exists.1 hb1
   obtain ⟨d,hd⟩:=Option.isSome_iff_exists.1 hb2
   have hnm:=hnt m0 hm
   subst hnm
   rw [hd] at hsy
   simp only [Option.getD_some] at hsy
   have hdm : d ∈ x.2.fields:=List.mem_of_find?_eq_some hd
   have hdt : d.tag = nt:=by have:=List.find?_some hd;simpa using this
   exact ⟨.nd 69 [] d.tag [],y8,F,by rw [hRT,hm];dsimp only [Option.map_some];rw [hd,hdt];rfl,.enm k y8 y x.2 d ⟨hrf,hso⟩ hdm hsg (hsy.mono hG3)⟩
  ·rw [hRT]
   cases hm : aR (s.takeWhile a8) 200 with
   | none=>rfl
   | some m0 =>
    have hnm:=hnt m0 hm
    subst hnm
    rw [hm] at hb
    dsimp only [Option.map_some]
    rw [if_neg]
    intro h2
    rw [h2] at hb;cases hb
theorem aa2 {n : Nat} {u : Value} {vs : List bS} {x : bS} {k s : ac8} (hR : kw n u vs) (h : SchR G u vs) (hw : SchW (ag vs)) (hx : x ∈ vs) (hrf : a7 (ag vs) k = some x.2) (cx_rf : an ac7 141 [u,S k] G (· = Tu [Ag [U8 x.2.sort,S x.2.name,gn x],Bo true])) (hso : x.2.sort = 85) (hs : s.length ≤ 1999999) (hn : n ≤ 1000) :
  bn ac7 180 [Ag [u],S (60 :: s),S k,I (n + 1 : Nat)] G (cx (ag vs) (a9 (ag vs) (rd (ag vs) n) x.2 (60 :: s)) k):=by
 have edn : ((n + 1 : Nat) : Int) - 1 = (n : Nat):=oM
 have hxt : x.2 ∈ ag vs:=List.mem_map_of_mem hx
 have hTW:=hw.ty _ hxt
 have hfl:=hTW.len
 have cx_tg:=rc (G:=G) (u:=u) (x:=x) (s:=s) oM h.sl.one (h.fl x hx) oM
 have he0 : bt (60 :: s) (Int.toNat 0) = 60:=bi 60 s
 have hel : (60 :: s).length = s.length + 1:=rfl
 have h1' : (x.2.sort : Int) = 85:=oM
 have hRT : a9 (ag vs) (rd (ag vs) n) x.2 (60 :: s) = match aU (rd (ag vs) n) x.2 s with
   | none=>none
   | some ((d,v),r)=>match r with
    | []=>none
    | c' :: r'=>if c'.toNat = 62 then some (.nd 85 [] d.tag [v],r') else none:=by
  unfold a9
  dsimp only
  rw [if_neg oM,if_neg oM,if_pos (show (60 : UInt8).toNat = 60 from rfl)]
  cases aU (rd (ag vs) n) x.2 s <;> rfl
 simp only [i6] at cx_tg
 refine jB [(0,_),(1,_),(2,_),(3,_)] Tryz.func180 Tryz.ntmps180 fun B hok hB hW=>?_
 repeat' (first | refine jM ?_ | (refine jo ?_;first | refine jO fun _=>?_ | refine ah F ?_ | refine jL fun _=>?_ | refine jC F F F ?_ | refine aG F ?_ | refine ar F ?_ | refine ab F F F cx_rf F ?_) | refine ax F F (ay ‹_›) ?_ | refine ak F F (aC oM) ?_ | refine ac F F ?_ | refine ad F F ?_)
 (refine aj (am (id:=8) _ (fun _ h=>h) ai ?_);refine jW 11 [1,2] (aa 13 6) ?_;(refine jG (aa 13 7) 0 F (bD F F F F) ?_);(refine jG (aa 13 15) 3 F (bD F F F F) ?_);refine bA [4,9] kR dC ⟨?_,?_,trivial⟩;(focus (refine aM F F ?_;(refine cN F F F cx_tg F ?_;rintro _ ⟨nt,rfl,hnt⟩);refine jK (aa 13 31) ?_;refine jW 4 [5,6,7,8] (aa 13 511) ?_;refine jA 9 F ?_;(refine jL fun _=>?_);refine jK (aa 13 1023) ?_;refine jA 10 F ?_;(refine jC F F F ?_);refine jK (aa 13 2047) ?_;refine jW 0 [11,12] (aa 13 8191) ?_;refine jQ ?_));rotate_left 1;(focus (refine aM F F ?_;(refine jL fun _=>?_);refine jK (aa 13 527) ?_;refine jA 4 F ?_;(refine cN F F F cx_tg F ?_;rintro _ ⟨nt,rfl,hnt⟩);refine jK (aa 13 543) ?_;refine jW 3 [5,6,7,8] (aa 13 1023) ?_;refine jA 10 F ?_;(refine jC F F F ?_);refine jK (aa 13 2047) ?_;refine jW 0 [11,12] (aa 13 8191) ?_;refine jQ ?_));rotate_left 1)
 all_goals
  have hnone : ∀ {v : Value} {G' : Gh} {r : ac8},aU (rd (ag vs) n) x.2 s = none → v = Tu [.pointer none,S r,Bo false] → cx (ag vs) (a9 (ag vs) (rd (ag vs) n) x.2 (60 :: s)) k v G':=fun h1 h2=>⟨_,_,_,h2,fun h=>(by cases h),fun _=>by rw [hRT,h1]⟩
  cases hb16 : (aR (s.takeWhile a8) 200).isSome && (bR x.2.fields nt).isSome with
  | false =>
   have hno : aU (rd (ag vs) n) x.2 s = none:=by
    cases hm : aR (s.takeWhile a8) 200 with
    | none=>exact e8 (.inl hm)
    | some m0 =>
     refine e8 (.inr ⟨m0,hm,?_⟩)
     rw [hm] at hb16
     rw [← hnt m0 hm]
     cases hf : bR x.2.fields nt with
     | none=>rfl
     | some d=>rw [hf] at hb16;cases hb16
   repeat' (first | refine jR ?_ | (refine jo ?_;refine aG F ?_) | refine ax F F F ?_ | refine ac F F ?_)
   all_goals refine jZ (vs:=[_,_,_]) F ⟨F,F,F,trivial⟩ F ⟨Gh.le.refl _,F,?_⟩
   all_goals exact hnone hno F
  | true =>
   simp only [Bool.and_eq_true] at hb16
   obtain ⟨hb1,hb2⟩:=hb16
   obtain ⟨m0,hm⟩:=Option.isSome_iff_exists.1 hb1
   obtain ⟨d,hd⟩:=Option.isSome_iff_exists.1 hb2
   have hnm:=hnt m0 hm
   subst hnm
   rw [hd]
   simp only [Option.getD_some]
   have hdm : d ∈ x.2.fields:=List.mem_of_find?_eq_some hd
   have hwl:=dK a8 s
   cases hdw : s.dropWhile a8 with
   | nil =>
    have hno : aU (rd (ag vs) n) x.2 s = none:=gG hm (fun s2 h=>by rw [hdw] at h;cases h)
    repeat' (first | refine jR ?_ | (refine jo ?_;first | refine aG F ?_ | refine ar F ?_) | refine ax F F F ?_ | refine ak F F F ?_ | refine ac F F ?_)
    all_goals refine jZ (vs:=[_,_,_]) F ⟨F,F,F,trivial⟩ F ⟨Gh.le.refl _,F,?_⟩
    all_goals exact hnone hno F
   | cons e r2 =>
    have he20 : bt (e :: r2) (Int.toNat 0) = e.toNat:=bi e r2
    have hel2 : (e :: r2).length = r2.length + 1:=rfl
    by_cases h61 : e.toNat = 61
    case neg =>
     have hno : aU (rd (ag vs) n) x.2 s = none:=gG hm (fun s2 h=>by rw [hdw] at h;simp only [List.cons.injEq] at h;exact h61 (by rw [h.1];rfl))
     repeat' (first | refine jM ?_ | (refine jo ?_;refine ar F ?_) | refine ak F F F ?_ | refine ac F (ay oM) ?_)
     all_goals refine jZ (vs:=[_,_,_]) F ⟨F,F,F,trivial⟩ F ⟨Gh.le.refl _,F,?_⟩
     all_goals exact hnone hno F
    have he61 : e = 61:=UInt8.toNat_inj.1 h61
    have hfs:=lx (f:=rd (ag vs) n) (t:=x.2) (s:=s) hm hd (by rw [hdw,he61])
    have hdk : aO (ag vs) d.kind = true:=dT hw hxt oM hdm
    rw [hdw,List.length_cons] at hwl
    have cx_rd:=hR G d.kind r2 h hdk oM
    rw [← edn] at cx_rd
    repeat' (first | refine jM ?_ | (refine jo ?_;refine ar F ?_) | refine ak F F F ?_ | refine ad F (aC oM) ?_)
    (refine aj (am (id:=11) _ (fun _ h=>h) ai ?_);refine jW 10 [1,2,3,5,6] (aa 15 110) ?_;(refine jG (aa 15 111) 0 F (bD F F F F) ?_);(refine jG (aa 15 127) 4 F (aq F F F) ?_);refine jA 7 F ?_;(refine aK F F F cx_rd F ?_;rintro _ G hle ⟨q1,r1,ok1,rfl,hyes,hno⟩;skip);refine jS (aa 15 255) ?_;refine jT 0 [8,9,10,11,12,13,14] (aa 15 32767) ?_;refine jQ ?_)
    cases ok1 with
    | false =>
     have hno2 : aU (rd (ag vs) n) x.2 s = none:=by rw [hfs,hno rfl];rfl
     repeat' (first | refine jR ?_ | (refine jo ?_;refine aG F ?_) | refine ax F F F ?_ | refine ac F F ?_)
     all_goals refine jZ (vs:=[_,_,_]) F ⟨F,F,F,trivial⟩ F ⟨hle,F,?_⟩
     all_goals exact hnone hno2 F
    | true =>
     obtain ⟨w,wb,rfl,hf,hrep⟩:=hyes rfl
     have hfd : aU (rd (ag vs) n) x.2 s = some ((d,w),r1):=by rw [hfs,hf];rfl
     rw [hfd] at hRT
     dsimp only at hRT
     cases r1 with
     | nil =>
      repeat' (first | refine jR ?_ | (refine jo ?_;first | refine aG F ?_ | refine ar F ?_) | refine ax F F F ?_ | refine ak F F F ?_ | refine ac F F ?_)
      all_goals refine jZ (vs:=[_,_,_]) F ⟨F,F,F,trivial⟩ F ⟨hle,F,?_⟩
      all_goals (rw [aD];exact ⟨_,_,_,F,fun h=>(by cases h),fun _=>hRT⟩)
     | cons e3 r3 =>
      have he30 : bt (e3 :: r3) (Int.toNat 0) = e3.toNat:=bi e3 r3
      have hel3 : (e3 :: r3).length = r3.length + 1:=rfl
      dsimp only at hRT
      by_cases h62 : e3.toNat = 62
      case neg =>
       rw [if_neg h62] at hRT
       repeat' (first | refine jM ?_ | (refine jo ?_;refine ar F ?_) | refine ak F F F ?_ | refine ac F (ay oM) ?_)
       all_goals refine jZ (vs:=[_,_,_]) F ⟨F,F,F,trivial⟩ F ⟨hle,F,?_⟩
       all_goals (rw [aD];exact ⟨_,_,_,F,fun h=>(by cases h),fun _=>hRT⟩)
      rw [if_pos h62] at hRT
      repeat' (first | refine jM ?_ | (refine jo ?_;refine ar F ?_) | refine ak F F F ?_ | refine ad F (aC oM) ?_)
      (refine aj (am (id:=14) _ (fun _ h=>h) ai ?_);refine jW 8 [0,1,4,8,9] (aa 13 787) ?_;(refine jG (aa 13 791) 2 F (aq F F F) ?_);refine bA [3,5] kR dC ⟨?_,?_,trivial⟩;(focus (refine aM F F ?_;(refine jF fun _=>?_);refine jS (aa 13 799) ?_;refine jA 5 F ?_;(refine jF fun _=>?_);refine jS (aa 13 831) ?_;(refine jG (aa 13 895) 6 F (al F F) ?_);refine jA 7 F ?_;(refine jO fun _=>?_);refine jS (aa 13 1023) ?_;refine jW 0 [10,11,12] (aa 13 8191) ?_;refine jQ ?_));rotate_left 1;(focus (refine aM F F ?_;(refine jF fun _=>?_);refine jS (aa 13 823) ?_;refine jA 3 F ?_;(refine jF fun _=>?_);refine jS (aa 13 831) ?_;(refine jG (aa 13 895) 6 F (al F F) ?_);refine jA 7 F ?_;(refine jO fun _=>?_);refine jS (aa 13 1023) ?_;refine jW 0 [10,11,12] (aa 13 8191) ?_;refine jQ ?_));rotate_left 1)
      all_goals repeat' (refine jR ?_)
      all_goals
       rename_i y1 y2 y8
       refine Nx.sealC (b:=y1) fun G2 hG2 hs1=>?_
       refine Nx.sealC (b:=y2) fun G3 hG3 hs2=>?_
       refine Nx.sealC (b:=y8) fun G4 hG4 hsg=>?_
       refine jZ (vs:=[_,_,_]) F ⟨F,F,F,trivial⟩ F ⟨(((hle.trans hG2).trans hG3).trans hG4),F,?_⟩
       rw [aD]
       first | exact ⟨_,_,_,F,fun _=>⟨.nd 85 [] d.tag [w],y8,F,hRT,.uni k y8 y1 y2 wb 1 x.2 d w (Nat.le_refl _) ⟨hrf,hso⟩ hdm hsg (hs1.mono (hG3.trans hG4)) (hs2.mono hG4) (hrep.mono ((hG2.trans hG3).trans hG4))⟩,fun h=>(by cases h)⟩ | exact ⟨_,_,_,F,fun _=>⟨.nd 85 [] d.tag [w],y8,F,hRT,.uni k y8 y2 y1 wb 1 x.2 d w (Nat.le_refl _) ⟨hrf,hso⟩ hdm hsg (hs2.mono hG4) (hs1.mono (hG3.trans hG4)) (hrep.mono ((hG2.trans hG3).trans hG4))⟩,fun h=>(by cases h)⟩
end Go.E
