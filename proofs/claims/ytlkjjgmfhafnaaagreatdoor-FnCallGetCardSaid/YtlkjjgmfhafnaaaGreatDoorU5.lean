/- Contracts and plain laws that the statement rests on, part 5. Conditions: as each says. -/
import Derived.Test.YtlkjjgmfhafnaaaGreatDoorU4
set_option linter.unusedVariables false
set_option linter.unusedSimpArgs false
namespace Go.E
set_option maxRecDepth 20000
set_option maxHeartbeats 2000000
theorem oi {f : acA → Option (V × acA)} {r : acA} : ∀ (ks : List V) (acc : List V),(∀ v ∈ ks,∀ r,f (v.bys ++ r) = some (v,r)) → bA f ks.length ((V.byss ks).flatten ++ r) acc = some (acc ++ ks,r)
 | [],acc,_=>by simp [bA,V.byss]
 | v :: ks,acc,h=>by
  rw [V.byss,List.flatten_cons,List.append_assoc,List.length_cons,bA,h v (by simp)]
  dsimp only
  rw [oi ks (acc ++ [v]) fun u hu=>h u (by simp [hu])]
  simp
theorem f3 {f : acA → acA → Option (V × acA)} {k p : acA} {v : V} (h : f k p = some (v,[])) : cM f k p = some v:=by unfold cM;rw [h]
theorem nR (p : Fld × V) : (cW p).bys = a6 p.1.tag ++ (a6 p.2.bys.length ++ p.2.bys):=by
 show V.bys (.nd 61 [] p.1.tag [p.2]) = _
 rw [V.bys];simp [V.byss,f6]
theorem zC (r : acA) : bi (0 :: r) = some (0,r):=by rw [bi,if_pos dC];rfl
theorem pN {ts : List Ty} {f : acA → acA → Option (V × acA)} {t : Ty} (hw : TyW t) {r : acA} : ∀ (fs : List (Fld × V)) (m : Nat) (last : Int) (acc : List V),fs.length < m → (∀ p ∈ fs,p.1 ∈ t.fields ∧ p.2.out ≠ cS ts p.1 ∧ last < p.1.tag ∧ p.2.bys.length ≤ 999999 ∧ f p.1.kind p.2.bys = some (p.2,[])) → fs.Pairwise (fun a b=>a.1.tag < b.1.tag) →
  bJ ts f t m last ((V.byss (fs.map cW)).flatten ++ 0 :: r) acc = some (acc ++ fs.map cW,r)
 | [],m,last,acc,hm,_,_=>by
  obtain ⟨m,rfl⟩ : ∃ n,m = n + 1:=⟨m - 1,by simp at hm;omega⟩
  simp only [List.map_nil,V.byss,List.flatten_nil,List.nil_append,bJ,zC,if_pos,List.append_nil]
 | p :: fs,m,last,acc,hm,hf,hp=>by
  obtain ⟨m,rfl⟩ : ∃ n,m = n + 1:=⟨m - 1,by simp at hm;omega⟩
  obtain ⟨h1,h2,h3,h4,h5⟩:=hf p (by simp)
  have ht:=(hw.fld _ h1).tag
  rw [List.pairwise_cons] at hp
  have ih:=pN (ts:=ts) (f:=f) hw (r:=r) fs m p.1.tag (acc ++ [cW p]) (by simp at hm;omega) (fun q hq=>⟨(hf q (by simp [hq])).1,(hf q (by simp [hq])).2.1,hp.1 q hq,(hf q (by simp [hq])).2.2.2⟩) hp.2
  rw [List.map_cons,V.byss,List.flatten_cons,nR,bJ]
  simp only [List.append_assoc]
  rw [gL oM oM]
  dsimp only
  rw [if_neg oM,lN h4]
  dsimp only
  rw [if_neg oM,i4 hw h1]
  dsimp only
  rw [f3 h5]
  dsimp only
  rw [if_neg h2]
  show bJ ts f t m p.1.tag _ (acc ++ [cW p]) = _
  rw [ih];simp
theorem r8 {ks : List V} {v : V} (h : v ∈ ks) : v.bys.length ≤ (V.byss ks).flatten.length:=by
 rw [lq]
 induction ks with
 | nil=>cases h
 | cons u ks ih =>
  simp only [List.map_cons,List.flatten_cons,List.length_append]
  rcases List.mem_cons.1 h with rfl | h
  ·omega
  ·have:=ih h;omega
theorem tA : ∀ {fs : List (Fld × V)},fs.length ≤ (V.byss (fs.map cW)).flatten.length
 | []=>by simp [V.byss]
 | p :: fs=>by
  have:=tA (fs:=fs)
  have h2:=fw p.1.tag
  rw [List.map_cons,V.byss,List.flatten_cons,List.length_append,nR]
  simp only [List.length_append,List.length_cons]
  omega
theorem pf {ts : List Ty} {k : acA} {t : Ty} (h : aZ ts k = some t) : ∃ k',k = 64 :: k':=by
 cases k with
 | nil=>simp [aZ,bG] at h
 | cons c k' =>
  by_cases h64 : c.toNat = 64
  ·exact ⟨k',by rw [show c = 64 from UInt8.toNat_inj.1 h64]⟩
  ·exact (fb h F h64).elim
theorem oe {ts : List Ty} (hw : SchW ts) : ∀ (n : Nat) {k : acA} {v : V},OfK ts k v → v.deep ≤ n → v.bys.length ≤ 999999 → ∀ r,rb ts n k (v.bys ++ r) = some (v,r)
 | 0,k,v,h,hd,_,r=>by
  obtain ⟨w,x,t,ks⟩:=v
  have hne : w ≠ 61:=by cases h <;> decide
  rw [cL hne] at hd;omega
 | n + 1,k,v,h,hd,hl,r=>by
  have ih:=fun {k : acA} {v : V}=>oe hw n (k:=k) (v:=v)
  show fj ts (rb ts n) k (v.bys ++ r) = some (v,r)
  cases h with
  | num k m h1 h2 =>
   have e : V.bys (.nd 110 (bw m) 0 []) = a6 m:=by rw [V.bys];unfold f6;rw [if_pos rfl,ox h1 h2 dC];rfl
   have hrf : aZ ts (110 :: k) = none:=by cases h : aZ ts (110 :: k) with | none=>rfl | some t=>exact (fb h F dC).elim
   rw [e]
   unfold fj
   try dsimp only
   rw [if_neg dC,if_neg dC,hrf]
   try dsimp only
   rw [if_pos dC,gL h1 h2];rfl
  | txt k x h1 =>
   have e : V.bys (.nd 116 x 0 []) = a6 x.length ++ x:=by rw [V.bys];rfl
   have hrf : aZ ts (116 :: k) = none:=by cases h : aZ ts (116 :: k) with | none=>rfl | some t=>exact (fb h F dC).elim
   rw [e] at hl ⊢
   rw [List.length_append] at hl
   unfold fj
   try dsimp only
   rw [if_neg dC,if_neg dC,hrf]
   try dsimp only
   rw [if_neg dC,if_pos dC,List.append_assoc,lN oM]
   dsimp only
   rw [if_pos h1]
  | flg k x h1 =>
   have hrf : aZ ts (102 :: k) = none:=by cases h : aZ ts (102 :: k) with | none=>rfl | some t=>exact (fb h F dC).elim
   unfold fj
   try dsimp only
   rw [if_neg dC,if_neg dC,hrf]
   try dsimp only
   rw [if_neg dC,if_neg dC,if_pos dC]
   rcases h1 with rfl | rfl
   ·rw [show V.bys (.nd 102 [121,101,115] 0 []) = [1] by rw [V.bys];rfl];rfl
   ·rw [show V.bys (.nd 102 [110,111] 0 []) = [0] by rw [V.bys];rfl];rfl
  | lst k ks h1 h2 =>
   rw [cL dC] at hd
   have e : V.bys (.nd 91 [] 0 ks) = a6 ks.length ++ (V.byss ks).flatten:=by rw [V.bys];rfl
   rw [e] at hl ⊢
   rw [List.length_append] at hl
   have hI:=oi (f:=rb ts n k) (r:=r) ks [] fun v hv r=>ih (h2 v hv) (by have:=V.deep_mem hv;omega) (by have:=r8 hv;omega) r
   unfold fj
   try dsimp only
   rw [if_pos dC,List.append_assoc,gL oM oM]
   dsimp only
   rw [if_pos oM,Int.toNat_natCast,hI];rfl
  | non k =>
   rw [show V.bys (.nd 63 [] 0 []) = [0] by rw [V.bys];rfl]
   unfold fj
   try dsimp only
   rw [if_neg dC,if_pos dC];rfl
  | opt k v h1 =>
   rw [cL dC] at hd
   have hd2 : v.deep ≤ n:=by have:=V.deep_mem (ks:=[v]) (v:=v) (by simp);omega
   have e : V.bys (.nd 63 [] 0 [v]) = 1 :: v.bys:=by rw [V.bys];simp [V.byss,f6]
   rw [e] at hl ⊢
   rw [List.length_cons] at hl
   unfold fj
   try dsimp only
   rw [if_neg dC,if_pos dC]
   rw [show cq (1 :: v.bys ++ r) = some (true,v.bys ++ r) from rfl]
   try dsimp only
   rw [ih h1 hd2 oM];rfl
  | recd k t fs h1 h2 h3 h4 h5 h6 =>
   rw [cL dC] at hd
   obtain ⟨k',rfl⟩:=pf h1
   have e : V.bys (.nd 82 [] 0 (fs.map cW)) = (V.byss (fs.map cW)).flatten ++ [0]:=by rw [V.bys];rfl
   have hg:=tA (fs:=fs)
   rw [e] at hl ⊢
   rw [List.length_append] at hl
   have hW:=hw.ty t (ce h1)
   have hF:=pN (ts:=ts) (f:=rb ts n) hW (r:=r) fs (((V.byss (fs.map cW)).flatten ++ 0 :: r).length + 1) 0 [] (by rw [List.length_append];omega) (fun p hp=>by
    have hdp : p.2.deep ≤ n:=by
     have h7:=V.deep_mem (List.mem_map_of_mem (f:=cW) hp)
     have h8 : (cW p).deep = p.2.deep:=by
      show V.deep (.nd 61 [] p.1.tag [p.2]) = _
      rw [V.deep,if_pos rfl];simp [V.deeps]
     omega
    have hbp : p.2.bys.length ≤ 999999:=by
     have h7:=r8 (List.mem_map_of_mem (f:=cW) hp)
     rw [nR] at h7
     simp only [List.length_append] at h7
     omega
    have ht:=(hW.fld _ (h3 p hp)).tag
    refine ⟨h3 p hp,h5 p hp,oM,hbp,?_⟩
    have:=ih (h4 p hp) hdp hbp []
    rwa [List.append_nil] at this) h6
   unfold fj
   try dsimp only
   rw [if_neg dC,if_neg dC,h1]
   try dsimp only
   unfold bX
   rw [if_pos h2,List.append_assoc,List.singleton_append,hF];rfl
  | enm k t d h1 h2 h3 =>
   obtain ⟨k',rfl⟩:=pf h1
   have hW:=hw.ty t (ce h1)
   have ht:=(hW.fld _ h3).tag
   rw [show V.bys (.nd 69 [] d.tag []) = a6 d.tag by rw [V.bys];rfl]
   unfold fj
   try dsimp only
   rw [if_neg dC,if_neg dC,h1]
   try dsimp only
   unfold bX
   rw [if_neg oM,gL oM oM]
   dsimp only
   rw [i4 hW h3]
   dsimp only
   rw [if_pos h2]
  | uni k t d v h1 h2 h3 h4 h5 =>
   rw [cL dC] at hd
   have hd2 : v.deep ≤ n:=by have:=V.deep_mem (ks:=[v]) (v:=v) (by simp);omega
   obtain ⟨k',rfl⟩:=pf h1
   have hW:=hw.ty t (ce h1)
   have ht:=(hW.fld _ h4).tag
   have e : V.bys (.nd 85 [] d.tag [v]) = a6 d.tag ++ (a6 v.bys.length ++ v.bys):=by rw [V.bys];simp [V.byss,f6]
   rw [e] at hl ⊢
   simp only [List.length_append] at hl
   unfold fj
   try dsimp only
   rw [if_neg dC,if_neg dC,h1]
   try dsimp only
   unfold bX
   simp only [List.append_assoc]
   rw [if_neg h2,gL oM oM]
   dsimp only
   rw [i4 hW h4]
   dsimp only
   rw [if_neg h3,lN oM]
   dsimp only
   have:=ih h5 hd2 oM []
   rw [List.append_nil] at this
   rw [f3 this];rfl
def i9 (ts : List Ty) (k b : acA) : Option V:=match rb ts 12 k b with
 | some (v,[])=>if v.bys = b ∧ v.out.length ≤ 400 then some v else none
 | _=>none
theorem ld {ts : List Ty} (hw : SchW ts) {k b : acA} (hb : b.length ≤ 999999) {v : V} : i9 ts k b = some v ↔ OfK ts k v ∧ v.deep ≤ 12 ∧ v.out.length ≤ 400 ∧ v.bys = b:=by
 constructor
 ·intro h
  unfold i9 at h
  split at h
  ·rename_i u hu
   obtain ⟨g1,g2⟩:=kN _ _ _ _ hu
   split at h
   ·rename_i hc
    simp only [Option.some.injEq] at h;subst h
    exact ⟨g1,g2,hc.2,hc.1⟩
   ·cases h
  ·cases h
 ·rintro ⟨h1,h2,h3,rfl⟩
  have:=oe hw 12 h1 h2 hb []
  rw [List.append_nil] at this
  unfold i9
  rw [this]
  dsimp only
  rw [if_pos ⟨rfl,h3⟩]
theorem rC {ts : List Ty} (hw : SchW ts) {k b : acA} (hb : b.length ≤ 999999) {v : V} : i9 ts k b = some v ↔ rb ts 13 k b = some (v,[]) ∧ v.deep ≤ 12 ∧ v.out.length ≤ 400 ∧ v.bys = b:=by
 rw [ld hw hb]
 constructor
 ·rintro ⟨h1,h2,h3,rfl⟩
  have:=oe hw 13 h1 oM hb []
  rw [List.append_nil] at this
  exact ⟨this,h2,h3,F⟩
 ·rintro ⟨h1,h2,h3,h4⟩
  exact ⟨(kN _ _ _ _ h1).1,h2,h3,h4⟩
theorem eU {s r : acA} {b : Bool} (h : cq s = some (b,r)) : s = (if b = true then 1 else 0) :: r:=by
 unfold cq at h
 split at h
 ·cases h
 ·rename_i c q
  split at h
  ·rename_i hc
   simp only [Option.some.injEq,Prod.mk.injEq] at h
   obtain ⟨rfl,rfl⟩:=h
   rw [bm hc dC];rfl
  ·split at h
   ·rename_i hc
    simp only [Option.some.injEq,Prod.mk.injEq] at h
    obtain ⟨rfl,rfl⟩:=h
    rw [bm hc dC];rfl
   ·cases h
theorem wk (r : acA) : cq (0 :: r) = some (false,r):=by rw [cq,if_pos dC]
theorem wj (r : acA) : cq (1 :: r) = some (true,r):=by rw [cq,if_neg dC,if_pos dC]
section
variable {ts : List Ty}
end
variable {ts : List Ty}
inductive LoK (ts : List Ty) : acA → V → Prop
 | num (k : acA) (n : Int) : 0 ≤ n → LoK ts (110 :: k) (.nd 110 (bw n) 0 [])
 | txt (k x : acA) : c6 (39 :: (x ++ [39])) = true → LoK ts (116 :: k) (.nd 116 x 0 [])
 | flg (k x : acA) : x = [121,101,115] ∨ x = [110,111] → LoK ts (102 :: k) (.nd 102 x 0 [])
 | lst (k : acA) (ks : List V) : (∀ v ∈ ks,LoK ts k v) → LoK ts (91 :: k) (.nd 91 [] 0 ks)
 | non (k : acA) : LoK ts (63 :: k) (.nd 63 [] 0 [])
 | opt (k : acA) (v : V) : LoK ts k v → LoK ts (63 :: k) (.nd 63 [] 0 [v])
 | recd (k : acA) (t : Ty) (fs : List (Fld × V)) : aZ ts k = some t → t.sort = 82 → (∀ p ∈ fs,p.1 ∈ t.fields) → (∀ p ∈ fs,LoK ts p.1.kind p.2) → LoK ts k (.nd 82 [] 0 (fs.map cW))
 | enm (k : acA) (t : Ty) (d : Fld) : aZ ts k = some t → t.sort = 69 → d ∈ t.fields → LoK ts k (.nd 69 [] d.tag [])
 | uni (k : acA) (t : Ty) (d : Fld) (v : V) : aZ ts k = some t → t.sort ≠ 82 → t.sort ≠ 69 → d ∈ t.fields → LoK ts d.kind v → LoK ts k (.nd 85 [] d.tag [v])
variable {ts : List Ty} {st : Bool}
theorem pO {e : UInt8} {t : acA} (h0 : e.toNat ≠ 0) (h1 : e.toNat ≠ 1) : cq (e :: t) = none:=by rw [cq,if_neg h0,if_neg h1]
variable {ts : List Ty}
theorem mV {f : acA → Option (V × acA)} (h : ∀ s v r,f s = some (v,r) → r.length < s.length) : ∀ (m : Nat) (s : acA) (acc : List V) {x : List V × acA},bA f m s acc = some x → x.2.length + m ≤ s.length
 | 0,s,acc,x,e=>by simp only [bA,Option.some.injEq] at e;subst e;dsimp only;omega
 | m + 1,s,acc,x,e=>by
  unfold bA at e
  cases hf : f s with
  | none=>rw [hf] at e;cases e
  | some y =>
   rw [hf] at e
   obtain ⟨v,r⟩:=y
   have h1:=mV h m r _ e
   have h2:=h _ _ _ hf
   omega
theorem kQ {f : acA → acA → Option (V × acA)} {t : Ty} : ∀ (m : Nat) (last : Int) (s : acA) (acc : List V) {x : List V × acA},bJ ts f t m last s acc = some x → x.2.length < s.length
 | 0,_,_,_,_,e=>by cases e
 | m + 1,last,s,acc,x,e=>by
  unfold bJ at e
  cases hn : bi s with
  | none=>rw [hn] at e;cases e
  | some y =>
   rw [hn] at e
   obtain ⟨n,r⟩:=y
   have hl:=bD hn
   dsimp only at e
   split at e
   ·simp only [Option.some.injEq] at e;subst e;exact hl
   ·split at e
    ·cases e
    ·rename_i p r' hp
     have hl2:=dG hp
     split at e
     ·cases e
     ·split at e
      ·have:=kQ m n r' _ e;omega
      ·split at e
       ·cases e
       ·have:=kQ m n r' _ e;omega
theorem si {f : acA → acA → Option (V × acA)} {t : Ty} {s r : acA} {v : V} (e : bX ts f t s = some (v,r)) : r.length < s.length:=by
 unfold bX at e
 split at e
 ·cases hi : bJ ts f t (s.length + 1) 0 s [] with
  | none=>rw [hi] at e;cases e
  | some y=>rw [hi] at e;cases e;exact kQ _ _ _ _ hi
 ·split at e
  ·cases e
  ·rename_i n q hn
   have hl:=bD hn
   split at e
   ·cases e
   ·rename_i d hd
    split at e
    ·cases e;exact hl
    ·split at e
     ·cases e
     ·rename_i p r' hp
      have hl2:=dG hp
      cases ha : cM f d.kind p with
      | none=>rw [ha] at e;cases e
      | some w=>rw [ha] at e;cases e;omega
theorem od : ∀ (n : Nat) (k s : acA) (v : V) (r : acA),rb ts n k s = some (v,r) → r.length < s.length
 | 0,_,_,_,_,e=>by cases e
 | n + 1,k,s,v,r,e=>by
  have ih:=od n
  replace e : fj ts (rb ts n) k s = some (v,r):=e
  cases k with
  | nil=>cases e
  | cons c k =>
   unfold fj at e
   dsimp only at e
   split at e
   ·split at e
    ·cases e
    ·rename_i q1 q hn
     have hl:=bD hn
     split at e
     ·cases hi : bA (rb ts n k) q1.toNat q [] with
      | none=>rw [hi] at e;cases e
      | some y=>rw [hi] at e;cases e;have:=mV (ih k) _ _ _ hi;omega
     ·cases e
   ·split at e
    ·cases hb : cq s with
     | none=>rw [hb] at e;cases e
     | some y =>
      rw [hb] at e
      obtain ⟨b,q⟩:=y
      have hl : s.length = q.length + 1:=by rw [eU hb];rfl
      cases b with
      | false=>cases e;omega
      | true =>
       dsimp only at e
       cases hf : rb ts n k q with
       | none=>rw [hf] at e;cases e
       | some y=>rw [hf] at e;obtain ⟨w,q2⟩:=y;cases e;have:=ih _ _ _ _ hf;dsimp only;omega
    ·split at e
     ·exact si e
     ·split at e
      ·cases hn : bi s with
       | none=>rw [hn] at e;cases e
       | some y=>rw [hn] at e;obtain ⟨a,q⟩:=y;cases e;exact bD hn
      ·split at e
       ·split at e
        ·cases e
        ·rename_i p q hp
         have hl2:=dG hp
         split at e
         ·cases e;omega
         ·cases e
       ·split at e
        ·cases hb : cq s with
         | none=>rw [hb] at e;cases e
         | some y=>rw [hb] at e;obtain ⟨b,q⟩:=y;have hl : s.length = q.length + 1:=by { rw [eU hb];rfl };cases e;dsimp only;omega
        ·cases e
theorem zx {n : Nat} {k : acA} : rb ts n k [] = none:=by
 cases h : rb ts n k [] with
 | none=>rfl
 | some x=>have:=od n k [] x.1 x.2 h;simp at this
theorem uP {n : Nat} {k s : acA} : rb ts (n + 1) (91 :: k) s = match bi s with
      | none=>none
      | some (m,r)=>if m ≤ 20 then (bA (rb ts n k) m.toNat r []).map fun x=>(.nd 91 [] 0 x.1,x.2) else none:=by
  rw [rb];unfold fj;dsimp only;rw [if_pos dC]
  all_goals (rcases bi s with _ | ⟨b,r⟩)
  all_goals rfl
theorem uO {n : Nat} {k s : acA} : rb ts (n + 1) (63 :: k) s = match cq s with
      | none=>none
      | some (false,r)=>some (.nd 63 [] 0 [],r)
      | some (true,r)=>(rb ts n k r).map fun x=>(.nd 63 [] 0 [x.1],x.2):=by
  rw [rb];unfold fj;dsimp only;rw [if_neg dC,if_pos dC]
  all_goals (rcases cq s with _ | ⟨b,r⟩)
  all_goals (try cases b)
  all_goals rfl
theorem wi {n : Nat} {r s : acA} {t : Ty} (h : aZ ts (64 :: r) = some t) : rb ts (n + 1) (64 :: r) s = bX ts (rb ts n) t s:=by
 rw [rb];unfold fj;dsimp only;rw [if_neg dC,if_neg dC,h]
theorem zy {n : Nat} {s : acA} (h : aZ ts [110] = none) : rb ts (n + 1) [110] s = (bi s).map fun x=>(.nd 110 (bw x.1) 0 [],x.2):=by
 rw [rb];unfold fj;dsimp only;rw [if_neg dC,if_neg dC,h];dsimp only;rw [if_pos dC]
theorem zw {n : Nat} {s : acA} (h : aZ ts [116] = none) : rb ts (n + 1) [116] s = match bU s with
          | none=>none
          | some (p,r)=>if c6 (39 :: (p ++ [39])) = true then some (.nd 116 p 0 [],r) else none:=by
  rw [rb];unfold fj;dsimp only;rw [if_neg dC,if_neg dC,h];dsimp only;rw [if_neg dC,if_pos dC]
  all_goals (rcases bU s with _ | ⟨b,r⟩)
  all_goals rfl
theorem zz {n : Nat} {s : acA} (h : aZ ts [102] = none) : rb ts (n + 1) [102] s = (cq s).map fun x=>(.nd 102 (if x.1 = true then [121,101,115] else [110,111]) 0 [],x.2):=by
 rw [rb];unfold fj;dsimp only;rw [if_neg dC,if_neg dC,h];dsimp only;rw [if_neg dC,if_neg dC,if_pos dC]
theorem mU {f : acA → Option (V × acA)} (h : ∀ s v r,f s = some (v,r) → v.tot + 100 * r.length ≤ 100 * s.length) : ∀ (m : Nat) (s : acA) (acc : List V) {x : List V × acA},bA f m s acc = some x → V.tots x.1 + 100 * x.2.length ≤ V.tots acc + 100 * s.length
 | 0,s,acc,x,e=>by simp only [bA,Option.some.injEq] at e;subst e;exact Nat.le_refl _
 | m + 1,s,acc,x,e=>by
  unfold bA at e
  cases hf : f s with
  | none=>rw [hf] at e;cases e
  | some y =>
   rw [hf] at e
   obtain ⟨v,r⟩:=y
   have h1:=mU h m r _ e
   have h2:=h _ _ _ hf
   have e2 : V.tots (acc ++ [v]) = V.tots acc + v.tot:=by simp [eR,V.tots]
   omega
theorem kO {f : acA → acA → Option (V × acA)} (h : ∀ k s v r,f k s = some (v,r) → v.tot + 100 * r.length ≤ 100 * s.length) {t : Ty} : ∀ (m : Nat) (last : Int) (s : acA) (acc : List V) {x : List V × acA},bJ ts f t m last s acc = some x → V.tots x.1 + 100 * x.2.length + 100 ≤ V.tots acc + 100 * s.length
 | 0,_,_,_,_,e=>by cases e
 | m + 1,last,s,acc,x,e=>by
  unfold bJ at e
  cases hn : bi s with
  | none=>rw [hn] at e;cases e
  | some y =>
   rw [hn] at e
   obtain ⟨n,r⟩:=y
   have hl:=bD hn
   dsimp only at e
   split at e
   ·simp only [Option.some.injEq] at e;subst e;dsimp only;omega
   ·split at e
    ·cases e
    ·rename_i p r' hp
     have hl2:=dG hp
     split at e
     ·cases e
     ·split at e
      ·have:=kO h m n r' _ e;omega
      ·rename_i d hd
       split at e
       ·cases e
       ·rename_i v hv
        have h1:=kO h m n r' _ e
        have h2:=h _ _ _ _ (cK hv)
        have e2 : V.tots (acc ++ [V.nd 61 [] d.tag [v]]) = V.tots acc + (20 + v.tot):=by simp [eR,V.tots,V.tot]
        simp only [List.length_nil] at h2
        split at h1
        ·omega
        ·omega
theorem sh {f : acA → acA → Option (V × acA)} (h : ∀ k s v r,f k s = some (v,r) → v.tot + 100 * r.length ≤ 100 * s.length) {t : Ty} {s r : acA} {v : V} (e : bX ts f t s = some (v,r)) : v.tot + 100 * r.length ≤ 100 * s.length:=by
 unfold bX at e
 split at e
 ·cases hi : bJ ts f t (s.length + 1) 0 s [] with
  | none=>rw [hi] at e;cases e
  | some y =>
   rw [hi] at e;cases e
   have:=kO h _ _ _ _ hi
   simp only [V.tot,V.tots,List.length_nil] at this ⊢;omega
 ·split at e
  ·cases e
  ·rename_i n q hn
   have hl:=bD hn
   split at e
   ·cases e
   ·rename_i d _
    split at e
    ·cases e;simp only [V.tot,V.tots,List.length_nil];omega
    ·split at e
     ·cases e
     ·rename_i p r' hp
      have hl2:=dG hp
      cases ha : cM f d.kind p with
      | none=>rw [ha] at e;cases e
      | some w =>
       rw [ha] at e;cases e
       have:=h _ _ _ _ (cK ha)
       simp only [V.tot,V.tots,List.length_nil] at this ⊢;omega
theorem iX : ∀ (n : Nat) (k s : acA) (v : V) (r : acA),rb ts n k s = some (v,r) → v.tot + 100 * r.length ≤ 100 * s.length
 | 0,_,_,_,_,e=>by cases e
 | n + 1,k,s,v,r,e=>by
  have ih:=iX n
  replace e : fj ts (rb ts n) k s = some (v,r):=e
  cases k with
  | nil=>cases e
  | cons c k =>
   unfold fj at e
   dsimp only at e
   split at e
   ·split at e
    ·cases e
    ·rename_i q1 q hn
     have hl:=bD hn
     split at e
     ·cases hi : bA (rb ts n k) q1.toNat q [] with
      | none=>rw [hi] at e;cases e
      | some y =>
       rw [hi] at e;cases e
       have:=mU (ih k) _ _ _ hi
       simp only [V.tot,V.tots,List.length_nil] at this ⊢;omega
     ·cases e
   ·split at e
    ·cases hb : cq s with
     | none=>rw [hb] at e;cases e
     | some y =>
      rw [hb] at e
      obtain ⟨b,q⟩:=y
      have hl : s.length = q.length + 1:=by rw [eU hb];rfl
      cases b with
      | false=>cases e;simp only [V.tot,V.tots,List.length_nil];omega
      | true =>
       dsimp only at e
       cases hf : rb ts n k q with
       | none=>rw [hf] at e;cases e
       | some y=>rw [hf] at e;obtain ⟨w,q2⟩:=y;cases e;have:=ih _ _ _ _ hf;simp only [V.tot,V.tots,List.length_nil];omega
    ·split at e
     ·exact sh ih e
     ·split at e
      ·cases hn : bi s with
       | none=>rw [hn] at e;cases e
       | some y =>
        rw [hn] at e;obtain ⟨a,q⟩:=y;cases e
        have hl:=bD hn
        obtain ⟨h0,h1,_⟩:=cx hn
        have:=vp (m:=a) h1
        simp only [V.tot,V.tots];omega
      ·split at e
       ·split at e
        ·cases e
        ·rename_i p q hp
         have hl2:=dG hp
         split at e
         ·cases e;simp only [V.tot,V.tots];omega
         ·cases e
       ·split at e
        ·cases hb : cq s with
         | none=>rw [hb] at e;cases e
         | some y =>
          rw [hb] at e;obtain ⟨b,q⟩:=y
          have hl : s.length = q.length + 1:=by rw [eU hb];rfl
          cases e
          cases b
          all_goals (simp [V.tot,V.tots];omega)
        ·cases e
theorem lO {f : acA → Option (V × acA)} {m : Nat} {t r : acA} {acc : List V} {v : V} (hf : f t = some (v,r)) : bA f (m + 1) t acc = bA f m r (acc ++ [v]):=by
 rw [bA,hf]
theorem oh {f : acA → Option (V × acA)} {m : Nat} {t : acA} {acc : List V} (hf : f t = none) : bA f (m + 1) t acc = none:=by
 rw [bA,hf]
theorem qQ {f : acA → acA → Option (V × acA)} {ty : Ty} {m : Nat} {la : Int} {t r : acA} {acc : List V} (h : bi t = some (0,r)) : bJ ts f ty (m + 1) la t acc = some (acc,r):=by rw [bJ,h];dsimp only;rw [if_pos rfl]
theorem ot {f : acA → acA → Option (V × acA)} {ty : Ty} {m : Nat} {la : Int} {t : acA} {acc : List V} (h : bi t = none) : bJ ts f ty (m + 1) la t acc = none:=by rw [bJ,h]
theorem kP {f : acA → acA → Option (V × acA)} {ty : Ty} {m : Nat} {la n : Int} {t r : acA} {acc : List V} (h : bi t = some (n,r)) (h0 : n ≠ 0) (hp : bU r = none) : bJ ts f ty (m + 1) la t acc = none:=by rw [bJ,h];dsimp only;rw [if_neg h0,hp]
theorem oo {f : acA → acA → Option (V × acA)} {ty : Ty} {m : Nat} {la n : Int} {t r p r' : acA} {acc : List V} (h : bi t = some (n,r)) (h0 : n ≠ 0) (hp : bU r = some (p,r')) (hl : n ≤ la) : bJ ts f ty (m + 1) la t acc = none:=by rw [bJ,h];dsimp only;rw [if_neg h0,hp];dsimp only;rw [if_pos hl]
theorem mX {f : acA → acA → Option (V × acA)} {ty : Ty} {m : Nat} {la n : Int} {t r p r' : acA} {acc : List V} (h : bi t = some (n,r)) (h0 : n ≠ 0) (hp : bU r = some (p,r')) (hl : ¬ n ≤ la) (hd : bN ty.fields n = none) : bJ ts f ty (m + 1) la t acc = bJ ts f ty m n r' acc:=by rw [bJ,h];dsimp only;rw [if_neg h0,hp];dsimp only;rw [if_neg hl,hd]
theorem om {f : acA → acA → Option (V × acA)} {ty : Ty} {m : Nat} {la n : Int} {t r p r' : acA} {acc : List V} {d : Fld} (h : bi t = some (n,r)) (h0 : n ≠ 0) (hp : bU r = some (p,r')) (hl : ¬ n ≤ la) (hd : bN ty.fields n = some d) (ha : cM f d.kind p = none) : bJ ts f ty (m + 1) la t acc = none:=by rw [bJ,h];dsimp only;rw [if_neg h0,hp];dsimp only;rw [if_neg hl,hd];dsimp only;rw [ha]
theorem ol {f : acA → acA → Option (V × acA)} {ty : Ty} {m : Nat} {la n : Int} {t r p r' : acA} {acc : List V} {d : Fld} {v : V} (h : bi t = some (n,r)) (h0 : n ≠ 0) (hp : bU r = some (p,r')) (hl : ¬ n ≤ la) (hd : bN ty.fields n = some d) (ha : cM f d.kind p = some v) : bJ ts f ty (m + 1) la t acc = bJ ts f ty m n r' (if v.out = cS ts d then acc else acc ++ [.nd 61 [] d.tag [v]]):=by rw [bJ,h];dsimp only;rw [if_neg h0,hp];dsimp only;rw [if_neg hl,hd];dsimp only;rw [ha]
open Go.Proofs
variable {G : Gh}
def kq (n : Int) : Value:=if 0 ≤ n ∧ n ≤ 999999 then Tu [S (a6 n),Bo true] else Tu [S [],Bo false]
theorem vZ {n : Int} : ao acz 78 [I n] G (· = kq n):=by
 refine jE [(0,_)] Tryz.func78 Tryz.ntmps78 fun B hB=>?_
 repeat' (first | refine jR ?_ | (refine jo ?_;first | refine aH F ?_ | refine av F ?_) | refine dF F F (fun _=>?_) (fun _=>?_) | refine ac F F ?_ | refine cB F (fun _=>?_) (fun _=>?_))
 ·refine jY (vs:=[_,_]) ?_
  rw [dJ,kq,if_neg oM]
 ·refine jY (vs:=[_,_]) ?_
  rw [dJ,kq,if_neg oM]
 ·refine Nx.addNil 5 1 ?_
  refine aR (ι:=Value × acA × Int) (fun i=>0 ≤ i.2.2 ∧ i.2.2 ≤ 999999 ∧ i.2.1 ++ a6 i.2.2 = a6 n ∧ i.2.1.length ≤ 100) (fun i=>[(0,I i.2.2),(4,i.1)]) (fun _=>G) (fun i=>[.acc i.1 5 1 i.2.1.length (bz i.2.1)]) (fun i=>i.2.2.toNat) (aL,[],n) ?_ tU F aX (fun i hI=>?_)
  ·dsimp only;refine ⟨?_,?_,?_,?_⟩ <;> first | omega | simp
  ·obtain ⟨v,l,m⟩:=i
   dsimp only at hI ⊢
   repeat' (first | refine jM ?_ | (refine jo ?_;first | refine jF fun _=>?_ | refine mG F F F F F F F F oM fun _=>?_ | refine jV (abo F (by (repeat (first | exact BL.nil | apply BL.cons | apply BL.ap));done)) ?_) | refine cB F (fun _=>?_) (fun _=>?_))
   ·have h1:=gK (n:=m) oM
    (refine aW (_,l ++ [u8 (m % 128 + 128)],m / 128) ?_ ?_ tU F (by (dsimp only;simp only [v9,List.length_append,List.length_cons,List.length_nil,Nat.zero_add];repeat (first | exact List.nil_sublist _ | apply List.Sublist.cons_cons))))
    ·refine ⟨?_,?_,?_,?_⟩ <;> dsimp only
     ·omega
     ·omega
     ·rw [← hI.2.2.1,h1,Int.add_comm];simp
     ·have:=bO (n:=n) oM
      rw [← hI.2.2.1,h1] at this
      simp at this ⊢;omega
    ·dsimp only;omega
   ·refine jY (vs:=[_,_]) ?_
    rw [dJ,kq,if_pos oM,← hI.2.2.1,ff oM hI.1]
theorem fC {n : Int} (h : 0 ≤ n ∧ n ≤ 999999) : ao acz 41 [I n] G (· = S (a6 n)):=by
 have e : kq n = Tu [S (a6 n),Bo true]:=by rw [kq,if_pos h]
 have cx_NumPut : ao acz 78 [I n] G (· = Tu [S (a6 n),Bo true]):=by rw [← e];exact vZ
 refine jE [(0,_)] Tryz.func41 Tryz.ntmps41 fun B hB=>?_
 repeat' (first | refine jR ?_ | (refine jo ?_;refine ab F F F cx_NumPut F ?_))
 refine jY (vs:=[_]) ?_
 rfl
theorem mD {s : acA} (h : s.length ≤ 999999) : ao acz 71 [S s] G (· = S (a6 s.length ++ s)):=by
 have:=bO (n:=s.length) oM
 refine jE [(0,_)] Tryz.func71 Tryz.ntmps71 fun B hB=>?_
 repeat' (first | refine jM ?_ | (refine jo ?_;refine ab F F F (fC oM) F ?_))
 refine jY (vs:=[_]) ?_
 rfl
theorem abC {s : acA} (h : s.length ≤ 9000000000000000000) : ao acz 33 [S s] G (· = I (er s)):=by
 refine jE [(0,_)] Tryz.func33 Tryz.ntmps33 fun B hB=>?_
 repeat' (refine jR ?_)
 refine aR (ι:=Nat × Int) (fun i=>i.1 ≤ s.length ∧ 0 ≤ i.2 ∧ i.2 < 9973 ∧ pa i.2 (s.drop i.1) = er s) (fun i=>[(0,S s),(3,I i.2),(6,I s.length),(7,I i.1)]) (fun _=>G) (fun i=>[]) (fun i=>s.length - i.1) (0,1) ?_ tU F aX (fun i hI=>?_)
 ·dsimp only;refine ⟨?_,?_,?_,?_⟩ <;> first | omega | rfl
 ·obtain ⟨i,m⟩:=i
  dsimp only at hI ⊢
  have:=gD s i
  repeat' (first | refine jX ?_ | refine cB F (fun _=>?_) (fun _=>?_))
  ·obtain ⟨c,h1,h2⟩:=fL (l:=s) (i:=i) oM
   refine aW (i + 1,(m * 31 + bt s i) % 9973) ?_ ?_ tU F aX
   ·refine ⟨?_,?_,?_,?_⟩ <;> dsimp only
    ·omega
    ·omega
    ·omega
    ·rw [← hI.2.2.2,h1,h2];rfl
   ·dsimp only;omega
  ·refine jY (vs:=[_]) ?_
   have : i = s.length:=oM
   rw [ax,← hI.2.2.2,this,List.drop_length];rfl
theorem iO {s : acA} (h : s.length ≤ 9000000000000000000) : ao acz 37 [S s] G (· = I (er s)):=by
 refine jE [(0,_)] Tryz.func37 Tryz.ntmps37 fun B hB=>?_
 repeat' (refine jR ?_)
 refine aR (ι:=Nat × Int) (fun i=>i.1 ≤ s.length ∧ 0 ≤ i.2 ∧ i.2 < 9973 ∧ pa i.2 (s.drop i.1) = er s) (fun i=>[(0,S s),(3,I i.2),(4,I i.1)]) (fun _=>G) (fun i=>[]) (fun i=>s.length - i.1) (0,1) ?_ tU F aX (fun i hI=>?_)
 ·dsimp only;refine ⟨?_,?_,?_,?_⟩ <;> first | omega | rfl
 ·obtain ⟨i,m⟩:=i
  dsimp only at hI ⊢
  have:=gD s i
  repeat' (first | refine jX ?_ | refine cB F (fun _=>?_) (fun _=>?_))
  ·obtain ⟨c,h1,h2⟩:=fL (l:=s) (i:=i) oM
   refine aW (i + 1,(31 * m + bt s i) % 9973) ?_ ?_ tU F aX
   ·refine ⟨?_,?_,?_,?_⟩ <;> dsimp only
    ·omega
    ·omega
    ·omega
    ·rw [← hI.2.2.2,h1,h2,Int.mul_comm];rfl
   ·dsimp only;omega
  ·refine jY (vs:=[_]) ?_
   have : i = s.length:=oM
   rw [ax,← hI.2.2.2,this,List.drop_length];rfl
theorem m7 {s : acA} (h : s.length ≤ 9000000000000000000) : ao acz 40 [S s] G (· = Tu [S (gi s),Bo (mZ s)]):=by
 have h1:=iy s
 have h2:=kG s
 have h3 : s.length ≤ 100 → (a6 s.length).length ≤ 3:=fun h=>bO oM
 refine jE [(0,_)] Tryz.func40 Tryz.ntmps40 fun B hB=>?_
 repeat' (first | refine jX ?_ | (refine jo ?_;first | refine ab F F F (mD oM) F ?_ | refine ab F F F (abC ‹_›) F ?_ | refine ab F F F (fC oM) F ?_) | refine cB F (fun _=>?_) (fun _=>?_))
 ·refine jY (vs:=[_,_]) ?_
  exact xo oM
 ·refine jY (vs:=[_,_]) ?_
  rw [dJ,← vg oM]
  simp [frame]
  rfl
theorem vH {s : acA} (h : s.length ≤ 999999) : ao acz 80 [S s] G (· = S (frame s)):=by
 have h1:=iy s
 have h2:=kG s
 have h3 : (a6 s.length).length ≤ 3:=bO oM
 refine jE [(0,_)] Tryz.func80 Tryz.ntmps80 fun B hB=>?_
 repeat' (first | refine jR ?_ | (refine aj (am (id:=1) _ (fun _ h=>h) ai ?_);refine jT 9 [2,3,6,8] (aa 13 332) ?_;refine cl [0,4] kR dC ⟨?_,?_,trivial⟩;(focus (refine bc F F ?_;(refine jF fun _=>?_);refine jS (aa 13 333) ?_;((refine jG (aa 13 335) 1 F (dc F F (by (repeat (first | exact BL.nil | apply BL.lit rfl));done)) ?_));refine jA 4 F ?_;((refine ab F F F (dE ?_) F ?_;focus omega));refine jS (aa 13 351) ?_;refine jW 4 [5,7] (aa 13 511) ?_;refine jA 9 F ?_;((refine ab F F F (iO ?_) F ?_;focus omega));refine jS (aa 13 1023) ?_;refine jA 10 F ?_;((refine ab F F F (dE ?_) F ?_;focus omega));refine jS (aa 13 2047) ?_;refine jW 0 [11,12] (aa 13 8191) ?_;refine jQ ?_));rotate_left 1;(focus (refine bc F F ?_;((refine ab F F F (dE ?_) F ?_;focus omega));refine jS (aa 13 348) ?_;refine cl [0,9] kR dC ⟨?_,?_,trivial⟩;(focus (refine bc F F ?_;(refine jF fun _=>?_);refine jS (aa 13 349) ?_;((refine jG (aa 13 351) 1 F (dc F F (by (repeat (first | exact BL.nil | apply BL.lit rfl));done)) ?_));refine jW 4 [5,7] (aa 13 511) ?_;refine jA 9 F ?_;((refine ab F F F (iO ?_) F ?_;focus omega));refine jS (aa 13 1023) ?_;refine jA 10 F ?_;((refine ab F F F (dE ?_) F ?_;focus omega));refine jS (aa 13 2047) ?_;refine jW 0 [11,12] (aa 13 8191) ?_;refine jQ ?_));rotate_left 1;(focus (refine bc F F ?_;((refine ab F F F (iO ?_) F ?_;focus omega));refine jS (aa 13 860) ?_;refine cl [0,10] kR dC ⟨?_,?_,trivial⟩;(focus (refine bc F F ?_;(refine jF fun _=>?_);refine jS (aa 13 861) ?_;((refine jG (aa 13 863) 1 F (dc F F (by (repeat (first | exact BL.nil | apply BL.lit rfl));done)) ?_));refine jW 3 [5,7] (aa 13 1023) ?_;refine jA 10 F ?_;((refine ab F F F (dE ?_) F ?_;focus omega));refine jS (aa 13 2047) ?_;refine jW 0 [11,12] (aa 13 8191) ?_;refine jQ ?_));rotate_left 1;(focus (refine bc F F ?_;((refine ab F F F (dE ?_) F ?_;focus omega));refine jS (aa 13 1884) ?_;refine jA 0 F ?_;(refine jF fun _=>?_);refine jS (aa 13 1885) ?_;((refine jG (aa 13 1887) 1 F (dc F F (by (repeat (first | exact BL.nil | apply BL.lit rfl));done)) ?_));refine jW 0 [5,7,11,12] (aa 13 8191) ?_;refine jQ ?_));rotate_left 1));rotate_left 2));rotate_left 3))
 all_goals refine jY (vs:=[_]) ?_
 all_goals (rw [ax];simp [frame])
theorem sx {s : acA} (h : s.length ≤ 9000000000000000000) : ao acz 44 [S s] G (· = Tu [S (gi s),Bo (mZ s)]):=by
 refine jE [(0,_)] Tryz.func44 Tryz.ntmps44 fun B hB=>?_
 repeat' (first | refine jR ?_ | (refine jo ?_;refine ab F F F (vH oM) F ?_) | refine cB F (fun _=>?_) (fun _=>?_))
 ·refine jY (vs:=[_,_]) ?_
  exact xo oM
 ·refine jY (vs:=[_,_]) ?_
  exact vg oM
def ngV (o : Option (Int × acA)) : Value:=match o with
 | some (n,r)=>Tu [I n,S r,Bo true]
 | none=>Tu [I 0,S [],Bo false]
def tkV (o : Option (acA × acA)) : Value:=match o with
 | some (p,r)=>Tu [S p,S r,Bo true]
 | none=>Tu [S [],S [],Bo false]
def fF : Nat → Nat → acA → Option (Int × acA)
 | 0,_,s=>bi s
 | 1,m,s=>fW m s
 | 2,m,s=>fG m s
 | _,_,_=>none
theorem pQ : ∀ {i m : Nat},fF i m [] = none
 | 0,_=>rfl
 | 1,_=>rfl
 | 2,_=>rfl
 | _ + 3,_=>rfl
def dk : Nat → Int
 | 0=>1
 | 1=>128
 | 2=>16384
 | _=>2097152
def jh : Nat → Nat
 | 0=>1
 | 1=>128
 | 2=>16384
 | _=>2097152
theorem pT {m : Nat} {c : UInt8} {r : acA} (h : c.toNat < 128) : fF 0 m (c :: r) = some ((c.toNat : Int),r):=by show bi (c :: r) = _;rw [bi,if_pos h]
theorem pW {m : Nat} {c : UInt8} {r : acA} (h : ¬ c.toNat < 128) : fF 0 m (c :: r) = fF 1 (c.toNat % 128) r:=by show bi (c :: r) = fW (c.toNat % 128) r;rw [bi,if_neg h]
theorem mw {i m : Nat} {c : UInt8} {r : acA} (h : c.toNat = 0) (hi : 1 ≤ i) : fF i m (c :: r) = none:=by
 match i,hi with
 | 1,_=>show fW m (c :: r) = none;rw [fW,if_pos oM,if_pos h]
 | 2,_=>show fG m (c :: r) = none;rw [fG,if_pos oM,if_pos (.inl h)]
 | _ + 3,_=>rfl
theorem pS {m : Nat} {c : UInt8} {r : acA} (h : c.toNat < 128) (h0 : c.toNat ≠ 0) : fF 1 m (c :: r) = some (((m + c.toNat * 128 : Nat) : Int),r):=by show fW m (c :: r) = _;rw [fW,if_pos h,if_neg h0]
theorem pV {m : Nat} {c : UInt8} {r : acA} (h : ¬ c.toNat < 128) : fF 1 m (c :: r) = fF 2 (m + c.toNat % 128 * 128) r:=by show fW m (c :: r) = fG (m + c.toNat % 128 * 128) r;rw [fW,if_neg h]
theorem pR {m : Nat} {c : UInt8} {r : acA} (h : c.toNat < 128) (h0 : c.toNat ≠ 0) (hm : m + c.toNat * 16384 ≤ 999999) : fF 2 m (c :: r) = some (((m + c.toNat * 16384 : Nat) : Int),r):=by show fG m (c :: r) = _;rw [fG,if_pos h,if_neg oM]
theorem pX {m : Nat} {c : UInt8} {r : acA} (h : c.toNat < 128) (hm : ¬ m + c.toNat * 16384 ≤ 999999) : fF 2 m (c :: r) = none:=by show fG m (c :: r) = _;rw [fG,if_pos h,if_pos oM]
theorem pU {m : Nat} {c : UInt8} {r : acA} (h : ¬ c.toNat < 128) : fF 2 m (c :: r) = none:=by show fG m (c :: r) = _;rw [fG,if_neg h]
theorem d2 {s : acA} (hs : s.length ≤ 1000000) : ao acz 106 [S s] G (· = ngV (bi s)):=by
 refine jE [(0,_)] Tryz.func106 Tryz.ntmps106 fun B hB=>?_
 repeat' (refine jR ?_)
 refine aR (ι:=Nat × Nat) (fun q=>(q.1 ≤ s.length ∧ q.1 ≤ 3) ∧ q.2 < jh q.1 ∧ bi s = fF q.1 q.2 (s.drop q.1)) (fun q=>[(0,S s),(5,I q.2),(6,I (dk q.1)),(7,I q.1)]) (fun _=>G) (fun q=>[]) (fun q=>s.length - q.1) (0,0) ?_ tU F aX (fun q Hq=>?_)
 ·exact ⟨⟨Nat.zero_le _,by decide⟩,by decide,F⟩
 obtain ⟨i,m⟩:=q
 dsimp only at Hq ⊢
 obtain ⟨⟨hi0,hi3⟩,hm,hng⟩:=Hq
 by_cases hi : i < s.length
 case neg =>
  have hno : bi s = none:=by rw [hng,List.drop_of_length_le oM];exact pQ
  rw [hno]
  repeat' (first | refine jR ?_ | (refine jo ?_;refine av F ?_) | refine an F F (aB oM) ?_ | refine ad F F ?_)
  all_goals refine jY (vs:=[_,_,_]) ?_
  all_goals rfl
 by_cases h3 : i = 3
 ·subst h3
  have hno : bi s = none:=by rw [hng];rfl
  rw [hno]
  repeat' (first | refine jR ?_ | (refine jo ?_;refine aH F ?_) | refine aA F F (ay oM) ?_ | refine ad F F ?_)
  all_goals refine jY (vs:=[_,_,_]) ?_
  all_goals rfl
 obtain ⟨c,hc1,hc2⟩:=fL hi
 rw [hc1] at hng
 have hc3 : bt s ((i : Int).toNat) = c.toNat:=hc2
 have hcl:=c.toNat_lt
 have hdl : s.drop ((i : Int) + 1).toNat = s.drop (i + 1):=by congr 1
 obtain rfl | rfl | rfl : i = 0 ∨ i = 1 ∨ i = 2:=oM
 ·have hm : m < 1:=hm
  rw [show dk 0 = 1 from rfl]
  by_cases h1 : c.toNat < 128
  ·rw [pT h1] at hng
   rw [hng]
   repeat' (first | refine jM ?_ | (refine jo ?_;first | refine aH F ?_ | refine av F ?_) | refine aA F F (ay oM) ?_ | refine an F F F ?_ | (refine ac F (by first | rfl | (refine decide_eq_true ?_;(omega))) ?_) | refine ad F (aB oM) ?_ | (refine aj (am (id:=11) _ (fun _ h=>h) ai ?_);refine jW 0 [0,1,2,3,4,5,6,7] (aa 8 255) ?_;refine jQ ?_))
   all_goals (try rw [hdl])
   all_goals refine jY (vs:=[_,_,_]) ?_
   all_goals (rw [hc3];exact (aC _ _ _).trans (congrArg (fun z : Int=>Tu [I z,S (s.drop (0 + 1)),Bo true]) oM))
  ·rw [pW h1] at hng
   repeat' (first | refine jM ?_ | (refine jo ?_;refine aH F ?_) | refine aA F F (ay oM) ?_ | refine ac F F ?_ | refine ad F (aB oM) ?_)
   refine Nx.re (d:=5) (v':=I ((c.toNat % 128 : Nat) : Int)) F (congrArg (Value.int .i64) (by rw [hc3];omega)) ?_
   refine Nx.re (d:=6) (v':=I (dk 1)) F (congrArg (Value.int .i64) F) ?_
   refine Nx.re (d:=7) (v':=I ((1 : Nat) : Int)) F (congrArg (Value.int .i64) F) ?_
   exact aW (1,c.toNat % 128) ⟨⟨oM,oM⟩,by show _ < _;simp only [jh];omega,hng⟩ oM tU rfl aX
 ·have hm : m < 128:=hm
  rw [show dk 1 = 128 from rfl]
  by_cases h1 : c.toNat < 128
  ·by_cases h0 : c.toNat = 0
   ·rw [mw h0 dC] at hng
    rw [hng]
    repeat' (first | refine jM ?_ | (refine jo ?_;refine aH F ?_) | (refine aA F F (by first | rfl | (refine decide_eq_true ?_;(omega))) ?_) | (refine ac F (by first | rfl | (refine decide_eq_true ?_;(omega))) ?_))
    all_goals refine jY (vs:=[_,_,_]) ?_
    all_goals rfl
   rw [pS h1 h0] at hng
   rw [hng]
   repeat' (first | refine jM ?_ | (refine jo ?_;first | refine aH F ?_ | refine av F ?_) | (refine aA F F (by first | rfl | (refine decide_eq_true ?_;(omega))) ?_) | refine an F F (aB oM) ?_ | (refine ac F (by first | rfl | (refine decide_eq_true ?_;(omega))) ?_) | refine ad F (aB oM) ?_ | (refine aj (am (id:=11) _ (fun _ h=>h) ai ?_);refine jW 0 [0,1,2,3,4,5,6,7] (aa 8 255) ?_;refine jQ ?_))
   all_goals (try rw [hdl])
   all_goals refine jY (vs:=[_,_,_]) ?_
   all_goals (rw [hc3];exact (aC _ _ _).trans (congrArg (fun z : Int=>Tu [I z,S (s.drop (1 + 1)),Bo true]) oM))
  ·rw [pV h1] at hng
   repeat' (first | refine jM ?_ | (refine jo ?_;refine aH F ?_) | refine aA F F (ay oM) ?_ | refine ac F F ?_ | refine ad F (aB oM) ?_)
   refine Nx.re (d:=5) (v':=I ((m + c.toNat % 128 * 128 : Nat) : Int)) F (congrArg (Value.int .i64) (by rw [hc3];omega)) ?_
   refine Nx.re (d:=6) (v':=I (dk 2)) F (congrArg (Value.int .i64) (by show _ = (16384 : Int);omega)) ?_
   refine Nx.re (d:=7) (v':=I ((2 : Nat) : Int)) F (congrArg (Value.int .i64) F) ?_
   exact aW (2,m + c.toNat % 128 * 128) ⟨⟨oM,oM⟩,by show _ < _;simp only [jh];omega,hng⟩ oM tU rfl aX
 ·have hm : m < 16384:=hm
  rw [show dk 2 = 16384 from rfl]
  by_cases h1 : c.toNat < 128
  ·by_cases h0 : c.toNat = 0
   ·rw [mw h0 dC] at hng
    rw [hng]
    repeat' (first | refine jM ?_ | (refine jo ?_;refine aH F ?_) | (refine aA F F (by first | rfl | (refine decide_eq_true ?_;(omega))) ?_) | (refine ac F (by first | rfl | (refine decide_eq_true ?_;(omega))) ?_))
    all_goals refine jY (vs:=[_,_,_]) ?_
    all_goals rfl
   by_cases hbig : m + c.toNat * 16384 ≤ 999999
   case neg =>
    rw [pX h1 hbig] at hng
    rw [hng]
    repeat' (first | refine jM ?_ | (refine jo ?_;first | refine aH F ?_ | refine av F ?_) | (refine aA F F (by first | rfl | (refine decide_eq_true ?_;(omega))) ?_) | refine an F F (aB oM) ?_ | (refine ac F (by first | rfl | (refine decide_eq_true ?_;(omega))) ?_))
    all_goals refine jY (vs:=[_,_,_]) ?_
    all_goals rfl
   rw [pR h1 h0 hbig] at hng
   rw [hng]
   repeat' (first | refine jM ?_ | (refine jo ?_;first | refine aH F ?_ | refine av F ?_) | (refine aA F F (by first | rfl | (refine decide_eq_true ?_;(omega))) ?_) | refine an F F (aB oM) ?_ | (refine ac F (by first | rfl | (refine decide_eq_true ?_;(omega))) ?_) | refine ad F (aB oM) ?_ | (refine aj (am (id:=11) _ (fun _ h=>h) ai ?_);refine jW 0 [0,1,2,3,4,5,6,7] (aa 8 255) ?_;refine jQ ?_))
   all_goals (try rw [hdl])
   all_goals refine jY (vs:=[_,_,_]) ?_
   all_goals (rw [hc3];exact (aC _ _ _).trans (congrArg (fun z : Int=>Tu [I z,S (s.drop (2 + 1)),Bo true]) oM))
  ·rw [pU h1] at hng
   repeat' (first | refine jM ?_ | (refine jo ?_;refine aH F ?_) | refine aA F F (ay oM) ?_ | refine ac F F ?_ | refine ad F (aB oM) ?_)
   refine Nx.re (d:=5) (v':=I ((m + c.toNat % 128 * 16384 : Nat) : Int)) F (congrArg (Value.int .i64) (by rw [hc3];omega)) ?_
   refine Nx.re (d:=6) (v':=I (dk 3)) F (congrArg (Value.int .i64) (by show _ = (2097152 : Int);omega)) ?_
   refine Nx.re (d:=7) (v':=I ((3 : Nat) : Int)) F (congrArg (Value.int .i64) F) ?_
   exact aW (3,m + c.toNat % 128 * 16384) ⟨⟨oM,oM⟩,by show _ < _;simp only [jh];omega,hng⟩ oM tU rfl aX
theorem j5 {s : acA} (hs : s.length ≤ 1000000) : ao acz 31 [S s] G (· = ngV (bi s)):=by
 refine jE [(0,_)] Tryz.func31 Tryz.ntmps31 fun B hB=>?_
 repeat' (refine jR ?_)
 refine aR (ι:=Nat × Nat) (fun q=>(q.1 ≤ s.length ∧ q.1 ≤ 3) ∧ q.2 < jh q.1 ∧ bi s = fF q.1 q.2 (s.drop q.1)) (fun q=>[(0,S s),(5,I q.2),(6,I (dk q.1)),(7,I q.1)]) (fun _=>G) (fun q=>[]) (fun q=>s.length - q.1) (0,0) ?_ tU F aX (fun q Hq=>?_)
 ·exact ⟨⟨Nat.zero_le _,by decide⟩,by decide,F⟩
 obtain ⟨i,m⟩:=q
 dsimp only at Hq ⊢
 obtain ⟨⟨hi0,hi3⟩,hm,hng⟩:=Hq
 by_cases hi : i < s.length
 case neg =>
  have hno : bi s = none:=by rw [hng,List.drop_of_length_le oM];exact pQ
  rw [hno]
  repeat' (first | refine jR ?_ | (refine jo ?_;refine av F ?_) | refine an F F (aB oM) ?_ | refine ad F F ?_)
  all_goals refine jY (vs:=[_,_,_]) ?_
  all_goals rfl
 by_cases h3 : i = 3
 ·subst h3
  have hno : bi s = none:=by rw [hng];rfl
  rw [hno]
  repeat' (first | refine jR ?_ | (refine jo ?_;refine aH F ?_) | refine aA F F (ay oM) ?_ | refine ad F F ?_)
  all_goals refine jY (vs:=[_,_,_]) ?_
  all_goals rfl
 obtain ⟨c,hc1,hc2⟩:=fL hi
 rw [hc1] at hng
 have hc3 : bt s ((i : Int).toNat) = c.toNat:=hc2
 have hcl:=c.toNat_lt
 have hdl : s.drop ((i : Int) + 1).toNat = s.drop (i + 1):=by congr 1
 obtain rfl | rfl | rfl : i = 0 ∨ i = 1 ∨ i = 2:=oM
 ·have hm : m < 1:=hm
  rw [show dk 0 = 1 from rfl]
  by_cases h1 : c.toNat < 128
  ·rw [pT h1] at hng
   rw [hng]
   repeat' (first | refine jM ?_ | (refine jo ?_;first | refine aH F ?_ | refine av F ?_) | refine aA F F (ay oM) ?_ | refine an F F F ?_ | (refine ac F (by first | rfl | (refine decide_eq_true ?_;(omega))) ?_) | refine ad F (aB oM) ?_ | (refine aj (am (id:=11) _ (fun _ h=>h) ai ?_);refine jW 0 [0,1,2,3,4,5,6,7] (aa 8 255) ?_;refine jQ ?_))
   all_goals (try rw [hdl])
   all_goals refine jY (vs:=[_,_,_]) ?_
   all_goals (rw [hc3];exact (aC _ _ _).trans (congrArg (fun z : Int=>Tu [I z,S (s.drop (0 + 1)),Bo true]) oM))
  ·rw [pW h1] at hng
   repeat' (first | refine jM ?_ | (refine jo ?_;refine aH F ?_) | refine aA F F (ay oM) ?_ | refine ac F F ?_ | refine ad F (aB oM) ?_)
   refine Nx.re (d:=5) (v':=I ((c.toNat % 128 : Nat) : Int)) F (congrArg (Value.int .i64) (by rw [hc3];omega)) ?_
   refine Nx.re (d:=6) (v':=I (dk 1)) F (congrArg (Value.int .i64) F) ?_
   refine Nx.re (d:=7) (v':=I ((1 : Nat) : Int)) F (congrArg (Value.int .i64) F) ?_
   exact aW (1,c.toNat % 128) ⟨⟨oM,oM⟩,by show _ < _;simp only [jh];omega,hng⟩ oM tU rfl aX
 ·have hm : m < 128:=hm
  rw [show dk 1 = 128 from rfl]
  by_cases h1 : c.toNat < 128
  ·by_cases h0 : c.toNat = 0
   ·rw [mw h0 dC] at hng
    rw [hng]
    repeat' (first | refine jM ?_ | (refine jo ?_;refine aH F ?_) | (refine aA F F (by first | rfl | (refine decide_eq_true ?_;(omega))) ?_) | (refine ac F (by first | rfl | (refine decide_eq_true ?_;(omega))) ?_))
    all_goals refine jY (vs:=[_,_,_]) ?_
    all_goals rfl
   rw [pS h1 h0] at hng
   rw [hng]
   repeat' (first | refine jM ?_ | (refine jo ?_;first | refine aH F ?_ | refine av F ?_) | (refine aA F F (by first | rfl | (refine decide_eq_true ?_;(omega))) ?_) | refine an F F (aB oM) ?_ | (refine ac F (by first | rfl | (refine decide_eq_true ?_;(omega))) ?_) | refine ad F (aB oM) ?_ | (refine aj (am (id:=11) _ (fun _ h=>h) ai ?_);refine jW 0 [0,1,2,3,4,5,6,7] (aa 8 255) ?_;refine jQ ?_))
   all_goals (try rw [hdl])
   all_goals refine jY (vs:=[_,_,_]) ?_
   all_goals (rw [hc3];exact (aC _ _ _).trans (congrArg (fun z : Int=>Tu [I z,S (s.drop (1 + 1)),Bo true]) oM))
  ·rw [pV h1] at hng
   repeat' (first | refine jM ?_ | (refine jo ?_;refine aH F ?_) | refine aA F F (ay oM) ?_ | refine ac F F ?_ | refine ad F (aB oM) ?_)
   refine Nx.re (d:=5) (v':=I ((m + c.toNat % 128 * 128 : Nat) : Int)) F (congrArg (Value.int .i64) (by rw [hc3];omega)) ?_
   refine Nx.re (d:=6) (v':=I (dk 2)) F (congrArg (Value.int .i64) (by show _ = (16384 : Int);omega)) ?_
   refine Nx.re (d:=7) (v':=I ((2 : Nat) : Int)) F (congrArg (Value.int .i64) F) ?_
   exact aW (2,m + c.toNat % 128 * 128) ⟨⟨oM,oM⟩,by show _ < _;simp only [jh];omega,hng⟩ oM tU rfl aX
 ·have hm : m < 16384:=hm
  rw [show dk 2 = 16384 from rfl]
  by_cases h1 : c.toNat < 128
  ·by_cases h0 : c.toNat = 0
   ·rw [mw h0 dC] at hng
    rw [hng]
    repeat' (first | refine jM ?_ | (refine jo ?_;refine aH F ?_) | (refine aA F F (by first | rfl | (refine decide_eq_true ?_;(omega))) ?_) | (refine ac F (by first | rfl | (refine decide_eq_true ?_;(omega))) ?_))
    all_goals refine jY (vs:=[_,_,_]) ?_
    all_goals rfl
   by_cases hbig : m + c.toNat * 16384 ≤ 999999
   case neg =>
    rw [pX h1 hbig] at hng
    rw [hng]
    repeat' (first | refine jM ?_ | (refine jo ?_;first | refine aH F ?_ | refine av F ?_) | (refine aA F F (by first | rfl | (refine decide_eq_true ?_;(omega))) ?_) | refine an F F (aB oM) ?_ | (refine ac F (by first | rfl | (refine decide_eq_true ?_;(omega))) ?_))
    all_goals refine jY (vs:=[_,_,_]) ?_
    all_goals rfl
   rw [pR h1 h0 hbig] at hng
   rw [hng]
   repeat' (first | refine jM ?_ | (refine jo ?_;first | refine aH F ?_ | refine av F ?_) | (refine aA F F (by first | rfl | (refine decide_eq_true ?_;(omega))) ?_) | refine an F F (aB oM) ?_ | (refine ac F (by first | rfl | (refine decide_eq_true ?_;(omega))) ?_) | refine ad F (aB oM) ?_ | (refine aj (am (id:=11) _ (fun _ h=>h) ai ?_);refine jW 0 [0,1,2,3,4,5,6,7] (aa 8 255) ?_;refine jQ ?_))
   all_goals (try rw [hdl])
   all_goals refine jY (vs:=[_,_,_]) ?_
   all_goals (rw [hc3];exact (aC _ _ _).trans (congrArg (fun z : Int=>Tu [I z,S (s.drop (2 + 1)),Bo true]) oM))
  ·rw [pU h1] at hng
   repeat' (first | refine jM ?_ | (refine jo ?_;refine aH F ?_) | refine aA F F (ay oM) ?_ | refine ac F F ?_ | refine ad F (aB oM) ?_)
   refine Nx.re (d:=5) (v':=I ((m + c.toNat % 128 * 16384 : Nat) : Int)) F (congrArg (Value.int .i64) (by rw [hc3];omega)) ?_
   refine Nx.re (d:=6) (v':=I (dk 3)) F (congrArg (Value.int .i64) (by show _ = (2097152 : Int);omega)) ?_
   refine Nx.re (d:=7) (v':=I ((3 : Nat) : Int)) F (congrArg (Value.int .i64) F) ?_
   exact aW (3,m + c.toNat % 128 * 16384) ⟨⟨oM,oM⟩,by show _ < _;simp only [jh];omega,hng⟩ oM tU rfl aX
theorem jc {s : acA} (hs : s.length ≤ 1000000) : ao acz 68 [S s] G (· = tkV (bU s)):=by
 have cx_ng0:=d2 (G:=G) (s:=s) hs
 unfold bU
 cases hg : bi s with
 | none =>
  rw [hg] at cx_ng0
  have cx_ng : ao acz 106 [S s] G (· = Tu [I 0,S [],Bo false]):=cx_ng0
  refine jE [(0,_)] Tryz.func68 Tryz.ntmps68 fun B hB=>?_
  repeat' (first | refine jR ?_ | (refine jo ?_;first | refine aH F ?_ | refine ab F F F cx_ng F ?_) | refine aA F F F ?_ | refine ac F F ?_)
  all_goals refine jY (vs:=[_,_,_]) ?_
  all_goals rfl
 | some z =>
  obtain ⟨n,r⟩:=z
  obtain ⟨h0,h1,_⟩:=cx hg
  have hl:=bD hg
  rw [hg] at cx_ng0
  have cx_ng : ao acz 106 [S s] G (· = Tu [I n,S r,Bo true]):=cx_ng0
  dsimp only
  by_cases hb : n.toNat ≤ r.length
  ·rw [if_pos hb]
   refine jE [(0,_)] Tryz.func68 Tryz.ntmps68 fun B hB=>?_
   repeat' (first | refine jR ?_ | (refine jo ?_;first | refine av F ?_ | refine ab F F F cx_ng F ?_) | refine an F F F ?_ | refine ad F (aB oM) ?_ | (refine aj (am (id:=4) _ (fun _ h=>h) ai ?_);refine jW 0 [0,1,2,3,4,5,6,7,8] (aa 9 511) ?_;refine jQ ?_))
   all_goals refine jY (vs:=[_,_,_]) ?_
   all_goals rfl
  ·rw [if_neg hb]
   refine jE [(0,_)] Tryz.func68 Tryz.ntmps68 fun B hB=>?_
   repeat' (first | refine jR ?_ | (refine jo ?_;first | refine av F ?_ | refine ab F F F cx_ng F ?_) | refine an F F F ?_ | refine ac F (ay oM) ?_)
   all_goals refine jY (vs:=[_,_,_]) ?_
   all_goals rfl
def cz (s : acA) : acA × Nat × Bool :=
 if bt s 0 ≠ 126 then ([],0,false)
 else if s.length = 1 then ([],0,true)
 else if 100 < bt s 1 then ([],0,false)
 else if s.length < 2 + bt s 1 then ([],0,true)
 else
  let body:=(s.take (2 + bt s 1)).drop 2
  if (frame body).isPrefixOf s then (body,(frame body).length,false)
  else if s.isPrefixOf (frame body) then ([],0,true)
  else ([],0,false)
def fg (s : acA) : List acA × Nat × acA :=
 if h : s = [] then ([],0,[])
 else if 0 < (cz s).2.1 then
  let r:=fg (s.drop (cz s).2.1)
  ((cz s).1 :: r.1,r.2.1,r.2.2)
 else if (cz s).2.2 then ([],0,s)
 else
  let r:=fg (s.drop 1)
  (r.1,r.2.1 + 1,r.2.2)
termination_by s.length
decreasing_by
 all_goals simp only [List.length_drop]
 all_goals have:=List.length_pos_iff.2 h
 all_goals omega
theorem oK : fg [] = ([],0,[]):=by rw [fg];simp
theorem oL {s : acA} (h : s ≠ []) (h1 : 0 < (cz s).2.1) : fg s = ((cz s).1 :: (fg (s.drop (cz s).2.1)).1,(fg (s.drop (cz s).2.1)).2.1,(fg (s.drop (cz s).2.1)).2.2):=by
 rw [fg];simp [h,h1]
theorem rm {s : acA} (h : s ≠ []) (h1 : ¬ 0 < (cz s).2.1) (h2 : (cz s).2.2 = true) : fg s = ([],0,s):=by
 rw [fg];simp [h,h1,h2]
theorem pp {s : acA} (h : s ≠ []) (h1 : ¬ 0 < (cz s).2.1) (h2 : (cz s).2.2 = false) : fg s = ((fg (s.drop 1)).1,(fg (s.drop 1)).2.1 + 1,(fg (s.drop 1)).2.2):=by
 rw [fg];simp [h,h1,h2]
def ck (s : acA) : List acA × Nat × acA:=if s.length ≤ 2000 then fg s else ([],0,[])
theorem yh (s : acA) : (cz s).2.1 ≤ s.length:=by
 unfold cz
 split;· simp
 split;· simp
 split;· simp
 split;· simp
 simp only
 split
 ·rename_i h
  exact (List.isPrefixOf_iff_prefix.1 h).length_le
 split <;> simp
theorem ri {b : acA} (h : b.length ≤ 100) : frame b = u8 126 :: u8 b.length :: (b ++ a6 (er b)):=by
 simp [frame,ff (n:=b.length) oM oM]
theorem wW (c : UInt8) (l : acA) : bt (c :: l) 0 = c.toNat:=by simp [bt,List.getD]
theorem wV (c d : UInt8) (l : acA) : bt (c :: d :: l) 1 = d.toNat:=by simp [bt,List.getD]
theorem lB {k : Nat} (h : k < 256) : (u8 (k : Int)).toNat = k:=by have:=ee (a:=(k : Int)) oM;omega
theorem k3 {b r : acA} (h : b.length ≤ 100) : cz (frame b ++ r) = (b,(frame b).length,false):=by
 have e:=ri h
 have e1 : bt (frame b ++ r) 0 = 126:=by rw [e,List.cons_append,wW];exact lB dC
 have e2 : bt (frame b ++ r) 1 = b.length:=by rw [e,List.cons_append,List.cons_append,wV];exact lB oM
 have e3 : (frame b ++ r).length = b.length + 2 + (a6 (er b)).length + r.length:=by rw [e];simp;omega
 have e4 : ((frame b ++ r).take (2 + b.length)).drop 2 = b:=by
  rw [e];simp [Nat.add_comm 2,List.take_append]
 unfold cz
 rw [e1,if_neg (by simp),if_neg (by rw [e3];have : (a6 (er b)).length ≠ 0:=by { unfold a6;rw [num];split <;> simp };omega),e2,if_neg oM,if_neg oM,e4]
 simp
theorem ju {b : acA} (h : b.length ≤ 100) : ck (frame b) = ([b],0,[]):=by
 have h1:=gh b oM
 have h2:=k3 (b:=b) (r:=[]) h
 simp only [List.append_nil] at h2
 have h3 : frame b ≠ []:=by rw [ri h];simp
 have h4 : 0 < (frame b).length:=List.length_pos_iff.2 h3
 rw [ck,if_pos oM,oL h3 (by rw [h2];exact h4),h2]
 simp [oK]
theorem yo {s : acA} (h : ((bt s 0 : Nat) : Int) ≠ 126) : cz s = ([],0,false):=by unfold cz;rw [if_pos oM]
theorem yn {s : acA} (h : ¬ ((bt s 0 : Nat) : Int) ≠ 126) (h2 : (s.length : Int) = 1) : cz s = ([],0,true):=by unfold cz;rw [if_neg oM,if_pos oM]
theorem ym {s : acA} (h : ¬ ((bt s 0 : Nat) : Int) ≠ 126) (h2 : ¬ (s.length : Int) = 1) (h3 : 100 < ((bt s 1 : Nat) : Int)) : cz s = ([],0,false):=by unfold cz;rw [if_neg oM,if_neg oM,if_pos oM]
theorem yl {s : acA} (h : ¬ ((bt s 0 : Nat) : Int) ≠ 126) (h2 : ¬ (s.length : Int) = 1) (h3 : ¬ 100 < ((bt s 1 : Nat) : Int)) (h4 : (s.length : Int) < 2 + ((bt s 1 : Nat) : Int)) : cz s = ([],0,true):=by
 unfold cz;rw [if_neg oM,if_neg oM,if_neg oM,if_pos oM]
theorem rj {s : acA} (h : ¬ ((bt s 0 : Nat) : Int) ≠ 126) (h2 : ¬ (s.length : Int) = 1) (h3 : ¬ 100 < ((bt s 1 : Nat) : Int)) (h4 : ¬ (s.length : Int) < 2 + ((bt s 1 : Nat) : Int)) :
  cz s = if (frame ((s.take (2 + (bt s 1 : Int)).toNat).drop 2)).isPrefixOf s then ((s.take (2 + (bt s 1 : Int)).toNat).drop 2,(frame ((s.take (2 + (bt s 1 : Int)).toNat).drop 2)).length,false)
   else if s.isPrefixOf (frame ((s.take (2 + (bt s 1 : Int)).toNat).drop 2)) then ([],0,true) else ([],0,false):=by
 unfold cz;rw [if_neg oM,if_neg oM,if_neg oM,if_neg oM]
 rw [show (2 + (bt s 1 : Int)).toNat = 2 + bt s 1 by omega]
theorem nz {s : acA} (h3 : ¬ 100 < ((bt s 1 : Nat) : Int)) : gi ((s.take (2 + (bt s 1 : Int)).toNat).drop 2) = frame ((s.take (2 + (bt s 1 : Int)).toNat).drop 2):=by
 rw [gi,if_pos (by simp;omega)]
theorem yk {s : acA} (h : ¬ ((bt s 0 : Nat) : Int) ≠ 126) (h2 : ¬ (s.length : Int) = 1) (h3 : ¬ 100 < ((bt s 1 : Nat) : Int)) (h4 : ¬ (s.length : Int) < 2 + ((bt s 1 : Nat) : Int))
  (hp : (gi ((s.take (2 + (bt s 1 : Int)).toNat).drop 2)).isPrefixOf s = true) : cz s = ((s.take (2 + (bt s 1 : Int)).toNat).drop 2,(gi ((s.take (2 + (bt s 1 : Int)).toNat).drop 2)).length,false):=by
 rw [rj h h2 h3 h4,← nz h3,if_pos hp]
theorem yj {s : acA} (h : ¬ ((bt s 0 : Nat) : Int) ≠ 126) (h2 : ¬ (s.length : Int) = 1) (h3 : ¬ 100 < ((bt s 1 : Nat) : Int)) (h4 : ¬ (s.length : Int) < 2 + ((bt s 1 : Nat) : Int))
  (hp : (gi ((s.take (2 + (bt s 1 : Int)).toNat).drop 2)).isPrefixOf s = false) (hq : s.isPrefixOf (gi ((s.take (2 + (bt s 1 : Int)).toNat).drop 2)) = true) : cz s = ([],0,true):=by
 rw [rj h h2 h3 h4,← nz h3,if_neg (by rw [hp];decide),if_pos hq]
theorem yi {s : acA} (h : ¬ ((bt s 0 : Nat) : Int) ≠ 126) (h2 : ¬ (s.length : Int) = 1) (h3 : ¬ 100 < ((bt s 1 : Nat) : Int)) (h4 : ¬ (s.length : Int) < 2 + ((bt s 1 : Nat) : Int))
  (hp : (gi ((s.take (2 + (bt s 1 : Int)).toNat).drop 2)).isPrefixOf s = false) (hq : s.isPrefixOf (gi ((s.take (2 + (bt s 1 : Int)).toNat).drop 2)) = false) : cz s = ([],0,false):=by
 rw [rj h h2 h3 h4,← nz h3,if_neg (by rw [hp];decide),if_neg (by rw [hq];decide)]
def en (s : acA) : Option acA:=if s.length ≤ 2000 ∧ (ck s).2.1 = 0 ∧ (ck s).2.2 = [] then (match (ck s).1 with
 | [b]=>some b
 | _=>none) else none
theorem wB {s : acA} (h : 0 < (cz s).2.1) : (cz s).1.length ≤ 100 ∧ ∃ r,s = frame (cz s).1 ++ r ∧ s.drop (cz s).2.1 = r:=by
 unfold cz at h ⊢
 split at h
 ·exact absurd h (by simp)
 rw [if_neg aS]
 split at h
 ·exact absurd h (by simp)
 rw [if_neg aS]
 split at h
 ·exact absurd h (by simp)
 rw [if_neg aS]
 split at h
 ·exact absurd h (by simp)
 rw [if_neg aS]
 dsimp only at h ⊢
 split at h
 ·rename_i h1 h2 h3 h4 h5
  rw [if_pos h5]
  dsimp only
  obtain ⟨r,hr⟩:=List.isPrefixOf_iff_prefix.1 h5
  refine ⟨by simp;omega,r,hr.symm,?_⟩
  have e : ∀ bd : acA,bd ++ r = s → s.drop bd.length = r:=fun bd h=>by rw [← h,List.drop_left]
  exact e _ hr
 ·split at h
  ·exact absurd h (by simp)
  ·exact absurd h (by simp)
theorem i3 {s b : acA} : en s = some b ↔ b.length ≤ 100 ∧ s = frame b:=by
 constructor
 ·intro h
  unfold en at h
  split at h
  ·rename_i hc
   obtain ⟨h1,h2,h3⟩:=hc
   have e : ck s = fg s:=by rw [ck,if_pos h1]
   rw [e] at h h2 h3
   by_cases hs : s = []
   ·subst hs;rw [oK] at h;cases h
   by_cases hh : 0 < (cz s).2.1
   ·obtain ⟨g1,r,g2,g3⟩:=wB hh
    rw [oL hs hh,g3] at h h2 h3
    dsimp only at h h2 h3
    by_cases hr : r = []
    ·subst hr
     rw [oK] at h
     dsimp only at h
     simp only [Option.some.injEq] at h;subst h
     exact ⟨g1,by rw [List.append_nil] at g2;exact g2⟩
    ·exfalso
     by_cases hh2 : 0 < (cz r).2.1
     ·rw [oL hr hh2] at h
      simp at h
     ·by_cases hm : (cz r).2.2 = true
      ·rw [rm hr hh2 hm] at h3;exact hr h3
      ·rw [pp hr hh2 (by simpa using hm)] at h2
       simp at h2
   ·exfalso
    by_cases hm : (cz s).2.2 = true
    ·rw [rm hs hh hm] at h3;exact hs h3
    ·rw [pp hs hh (by simpa using hm)] at h2
     simp at h2
  ·cases h
 ·rintro ⟨h,rfl⟩
  have h1:=gh b oM
  unfold en
  rw [ju h,if_pos ⟨oM,rfl,rfl⟩]
theorem nv {s b : acA} (h : en s = some b) : b.length ≤ 100:=(i3.1 h).1
theorem ve {a b r q : acA} (ha : a.length ≤ 100) (hb : b.length ≤ 100) (h : frame a ++ r = frame b ++ q) : a = b ∧ r = q:=by
 have h1:=k3 (b:=a) (r:=r) ha
 have h2:=k3 (b:=b) (r:=q) hb
 rw [h,h2] at h1
 simp only [Prod.mk.injEq] at h1
 obtain ⟨rfl,_⟩:=h1
 exact ⟨F,List.append_cancel_left h⟩
theorem vd {s : acA} {b r : acA} (hb : b.length ≤ 100) (h : 126 :: s = frame b ++ r) : bi s = some (((b.length : Nat) : Int),b ++ (a6 (er b) ++ r)):=by
 have e : s = a6 b.length ++ (b ++ (a6 (er b) ++ r)):=by
  unfold frame at h
  simp only [List.cons_append,List.nil_append,List.cons.injEq,List.append_assoc] at h
  exact h.2
 rw [e]
 exact gL oM oM _
theorem vN {s : acA} (hs : s ≠ []) (hs2 : s.length ≤ 9000000000000000000) : ao acz 111 [S s] G (· = Tu [S (cz s).1,I (cz s).2.1,Bo (cz s).2.2]):=by
 have h0:=List.length_pos_iff.2 hs
 refine jE [(0,_)] Tryz.func111 Tryz.ntmps111 fun B hB=>?_
 repeat' (first | refine jX ?_ | (refine jo ?_;first | (refine ab F F F (m7 ?_) F ?_;(focus ((simp;omega);done))) | refine ab F F F fU F ?_) | refine cB F (fun _=>?_) (fun _=>?_) | refine kV F (fun _=>?_) (fun _=>?_))
 all_goals refine jY (vs:=[_,_,_]) ?_
 all_goals rw [aC]
 ·rw [yo aS];rfl
 ·rw [yn aS aS];rfl
 ·rw [ym aS aS aS];rfl
 ·rw [yl aS aS aS aS];rfl
 ·rw [yk aS aS aS aS aS];rfl
 ·rw [yj aS aS aS aS aS aS];rfl
 ·rw [yi aS aS aS aS aS aS];rfl
theorem mf {s : acA} (hs : s.length ≤ 9000000000000000000) : bV acz 74 [S s] G [] (fun v L'=>∃ u,v = Tu [u,I (ck s).2.1,S (ck s).2.2,Bo (decide (s.length ≤ 2000))] ∧ L' = [.acc u j9 1 (ck s).1.length (iq (ck s).1)] ∧ qq u (ck s).1.length):=by
 by_cases h : s.length ≤ 2000
 ·have e : ck s = fg s:=by rw [ck,if_pos h]
  rw [e,decide_eq_true h]
  refine jH [(0,_)] Tryz.func74 Tryz.ntmps74 fun B hB hW=>?_
  repeat' (first | refine jR ?_ | refine ad F (aB oM) ?_)
  refine Nx.addNil j9 1 ?_
  refine aR (ι:=Value × List acA × Nat × acA) (fun i=>i.2.1.length + i.2.2.1 + i.2.2.2.length ≤ 2000 ∧ (i.2.1 ++ (fg i.2.2.2).1,i.2.2.1 + (fg i.2.2.2).2.1,(fg i.2.2.2).2.2) = fg s) (fun i=>[(0,S i.2.2.2),(6,i.1),(7,I i.2.2.1)]) (fun _=>G) (fun i=>[.acc i.1 j9 1 i.2.1.length (iq i.2.1)]) (fun i=>i.2.2.2.length) (aL,[],0,s) ?_ tU F aX (fun i hI=>?_)
  ·dsimp only;refine ⟨by simp;omega,by simp⟩
  ·obtain ⟨u,xs,j,t⟩:=i
   dsimp only at hI ⊢
   have hle:=yh t
   by_cases ht : t = []
   ·subst ht
    have e2 : fg s = (xs,j,[]):=by rw [← hI.2,oK];simp
    repeat' (first | refine jR ?_ | refine ad F F ?_)
    exact Nx.shp (.head _) fun hsh=>aN (vs:=[_,_,_,_]) F ⟨F,F,F,F,trivial⟩ F (List.Sublist.refl _) ⟨F,u,by rw [e2];rfl,by rw [e2],by rw [e2];exact hsh⟩
   ·have hpos:=List.length_pos_iff.2 ht
    repeat' (first | refine jM ?_ | (refine jo ?_;first | refine jF fun _=>?_ | refine mG F F F F F F F F oM fun _=>?_ | (refine ab F F F (vN (by (repeat (assumption));done) oM) rfl ?_)) | refine ac F (ay ‹_›) ?_ | refine cB F (fun _=>?_) (fun _=>?_) | refine kV F (fun _=>?_) (fun _=>?_))
    ·rename_i hh _ _
     have e2:=oL ht oM
     refine aW (_,xs ++ [(cz t).1],j,t.drop (cz t).2.1) ?_ ?_ tU F (by dsimp only;simp only [jk,List.length_append,List.length_cons,List.length_nil,Nat.zero_add];repeat (first | exact List.nil_sublist _ | apply List.Sublist.cons_cons))
     ·dsimp only
      refine ⟨by simp;omega,?_⟩
      rw [← hI.2,e2];simp
     ·dsimp only;simp;omega
    ·rename_i hh hm
     have e2 : fg s = (xs,j,t):=by rw [← hI.2,rm ht oM hm];simp
     exact Nx.shp (.head _) fun hsh=>aN (vs:=[_,_,_,_]) F ⟨F,F,F,F,trivial⟩ F (List.Sublist.refl _) ⟨F,u,by rw [e2];rfl,by rw [e2],by rw [e2];exact hsh⟩
    ·rename_i hh hm
     have e2:=pp ht oM hm
     refine aW (u,xs,j + 1,t.drop 1) ?_ ?_ tU F aX
     ·dsimp only
      refine ⟨by simp;omega,?_⟩
      rw [← hI.2,e2];simp;omega
     ·dsimp only;simp;omega
 ·have e : ck s = ([],0,[]):=by rw [ck,if_neg h]
  rw [e,decide_eq_false h]
  refine jH [(0,_)] Tryz.func74 Tryz.ntmps74 fun B hB hW=>?_
  repeat' (first | refine jR ?_ | refine ac F (ay oM) ?_)
  refine Nx.addNil j9 1 ?_
  exact aN (vs:=[_,_,_,_]) F ⟨F,F,F,F,trivial⟩ F (List.Sublist.refl _) ⟨F,_,F,F,.inl ⟨F,F⟩⟩
theorem vG {s : acA} {top : Int} (hs : s.length ≤ 2) (ht : 0 ≤ top ∧ top ≤ 1000) : ao acz 188 [S s,I top] G (fun v=>∃ gb,v = Bo gb):=by
 refine jE [(0,_),(1,_)] Tryz.func188 Tryz.ntmps188 fun B hB=>?_
 repeat' (refine jR ?_)
 refine aR (ι:=Nat × Int) (fun q=>q.1 ≤ s.length ∧ 0 ≤ q.2 ∧ q.2 < dk q.1) (fun q=>[(0,S s),(1,I top),(5,I q.2),(6,I (dk q.1)),(7,I q.1)]) (fun _=>G) (fun q=>[]) (fun q=>s.length - q.1) (0,0) ?_ tU F aX (fun q Hq=>?_)
 ·exact ⟨Nat.zero_le _,by decide,by decide⟩
 obtain ⟨i,m⟩:=q
 dsimp only at Hq ⊢
 obtain ⟨hi0,hm0,hm1⟩:=Hq
 by_cases hi : i < s.length
 ·have hbl:=gD s i
  obtain rfl | rfl : i = 0 ∨ i = 1:=oM
  ·have hm1 : m < 1:=hm1
   rw [show dk 0 = 1 from rfl]
   have hb : bt s ((0 : Nat) : Int).toNat = bt s 0:=rfl
   repeat' (first | refine jM ?_ | refine ac F (ay oM) ?_)
   refine Nx.re (d:=6) (v':=I (dk 1)) F (congrArg (Value.int .i64) (by show _ = (128 : Int);omega)) ?_
   refine Nx.re (d:=7) (v':=I ((1 : Nat) : Int)) F (congrArg (Value.int .i64) F) ?_
   exact aW (1,m + ((bt s ((0 : Nat) : Int).toNat : Nat) : Int) % 128 * 1) ⟨oM,oM,by show _ < _;simp only [dk];omega⟩ oM tU rfl aX
  ·have hm1 : m < 128:=hm1
   rw [show dk 1 = 128 from rfl]
   have hb : bt s ((1 : Nat) : Int).toNat = bt s 1:=rfl
   repeat' (first | refine jM ?_ | refine ac F (ay oM) ?_)
   refine Nx.re (d:=6) (v':=I (dk 2)) F (congrArg (Value.int .i64) (by show _ = (16384 : Int);omega)) ?_
   refine Nx.re (d:=7) (v':=I ((2 : Nat) : Int)) F (congrArg (Value.int .i64) F) ?_
   exact aW (2,m + ((bt s ((1 : Nat) : Int).toNat : Nat) : Int) % 128 * 128) ⟨oM,oM,by show _ < _;simp only [dk];omega⟩ oM tU rfl aX
 ·have hu : 1 ≤ dk i ∧ dk i ≤ 16384:=by
   obtain rfl | rfl | rfl : i = 0 ∨ i = 1 ∨ i = 2:=oM
   all_goals decide
  generalize dk i = un at *
  all_goals repeat' (first | refine jM ?_ | (refine jo ?_;first | refine aH F ?_ | refine av F ?_) | refine dF F F (fun _=>?_) (fun _=>?_) | refine ad F (aB oM) ?_)
  all_goals refine jY (vs:=[_]) ?_
  all_goals exact ⟨_,F⟩
theorem vE {s r : acA} {n top : Int} (hs : s.length ≤ 100000) (h : bi s = some (n,r)) : ao acz 151 [S s,I top] G (· = Tu [I n,S r,Bo (decide (n ≤ top)),Bo (decide (n ≤ top))]):=by
 have cx_ng0:=d2 (G:=G) (s:=s) oM
 rw [h] at cx_ng0
 have cx_ng : ao acz 106 [S s] G (· = Tu [I n,S r,Bo true]):=cx_ng0
 refine jE [(0,_),(1,_)] Tryz.func151 Tryz.ntmps151 fun B hB=>?_
 repeat' (first | refine jR ?_ | (refine jo ?_;refine ab F F F cx_ng F ?_) | refine ac F F ?_)
 all_goals refine jY (vs:=[_,_,_,_]) ?_
 all_goals rfl
theorem vF {s : acA} {top : Int} (hs : s.length ≤ 100000) (ht : 0 ≤ top ∧ top ≤ 1000) (h : bi s = none) : ao acz 151 [S s,I top] G (fun v=>∃ gb,v = Tu [I 0,S s,Bo false,Bo gb]):=by
 have cx_ng0:=d2 (G:=G) (s:=s) oM
 rw [h] at cx_ng0
 have cx_ng : ao acz 106 [S s] G (· = Tu [I 0,S [],Bo false]):=cx_ng0
 by_cases h2 : s.length ≤ 2
 ·have cx_grw:=vG (G:=G) h2 ht
  refine jE [(0,_),(1,_)] Tryz.func151 Tryz.ntmps151 fun B hB=>?_
  repeat' (first | refine jR ?_ | (refine jo ?_;refine ab F F F cx_ng F ?_) | (refine ad F (by first | rfl | (refine decide_eq_false ?_;(omega))) ?_))
  refine aR (ι:=Nat) (fun i=>i ≤ s.length) (fun i=>[(0,S s),(1,I top),(11,I (i : Nat))]) (fun _=>G) (fun i=>[]) (fun i=>s.length - i) 0 ?_ tU F aX (fun i Hi=>?_)
  ·exact Nat.zero_le _
  by_cases hi : i < s.length
  ·have hbl:=gD s i
   repeat' (first | refine jM ?_ | refine ac F (ay oM) ?_ | refine cB F (fun _=>?_) (fun _=>?_))
   ·refine jY (vs:=[_,_,_,_]) ?_
    exact ⟨_,F⟩
   ·refine Nx.re (d:=11) (v':=I (i + 1 : Nat)) F (congrArg (Value.int .i64) oM) ?_
    exact aW (i + 1) oM oM tU F aX
  ·repeat' (first | refine jR ?_ | (refine jo ?_;(refine cO F F F cx_grw F ?_;rintro _ ⟨gb,rfl⟩)) | refine ad F (aB oM) ?_)
   all_goals refine jY (vs:=[_,_,_,_]) ?_
   all_goals exact ⟨_,F⟩
 ·refine jE [(0,_),(1,_)] Tryz.func151 Tryz.ntmps151 fun B hB=>?_
  repeat' (first | refine jR ?_ | (refine jo ?_;refine ab F F F cx_ng F ?_) | refine ac F (ay oM) ?_ | refine ad F F ?_)
  all_goals refine jY (vs:=[_,_,_,_]) ?_
  all_goals exact ⟨_,F⟩
theorem oI {b r : acA} (h : b.length ≤ 100) : frame b ++ r = 126 :: (a6 b.length ++ (b ++ (a6 (er b) ++ r))):=by
 unfold frame
 simp only [List.cons_append,List.nil_append,List.append_assoc]
 rfl
def xy (s tx rest : acA) (ok : Bool) : Prop:=(ok = true → tx.length ≤ 100 ∧ s = frame tx ++ rest) ∧ (ok = false → ∀ b r,b.length ≤ 100 → s ≠ frame b ++ r)
theorem wK {s : acA} (h0 : s ≠ []) (hs : s.length ≤ 2000) : ao acz 112 [S s] G (fun v=>∃ tx rest ok gr,v = Tu [S tx,S rest,Bo ok,Bo gr] ∧ xy s tx rest ok):=by
 have hnof : ∀ {gr : Bool} {v : Value},(∀ b r,b.length ≤ 100 → s ≠ frame b ++ r) → v = Tu [S [],S s,Bo false,Bo gr] → ∃ tx rest ok gr,v = Tu [S tx,S rest,Bo ok,Bo gr] ∧ xy s tx rest ok:=fun h1 h2=>⟨_,_,_,_,h2,fun h=>(by cases h),fun _=>h1⟩
 cases s with
 | nil=>exact absurd F h0
 | cons c q =>
  have hel : (c :: q).length = q.length + 1:=rfl
  have hc0 : bt (c :: q) (Int.toNat 0) = c.toNat:=bh c q
  by_cases hc : c.toNat = 126
  case neg =>
   have hno : ∀ b r,b.length ≤ 100 → c :: q ≠ frame b ++ r:=fun b r hb e=>by
    rw [oI hb] at e
    simp only [List.cons.injEq] at e
    exact hc (by rw [e.1];rfl)
   refine jE [(0,_)] Tryz.func112 Tryz.ntmps112 fun B hB=>?_
   repeat' (first | refine jM ?_ | refine ac F (ay oM) ?_)
   all_goals refine jY (vs:=[_,_,_,_]) ?_
   all_goals exact hnof hno F
  obtain rfl:=bm hc dC
  have hdr : List.drop (Int.toNat 1) (126 :: q) = q:=rfl
  have hnum : ∀ b r,b.length ≤ 100 → (126 :: q : acA) = frame b ++ r → bi q = some (((b.length : Nat) : Int),b ++ (a6 (er b) ++ r)):=fun b r hb e=>vd hb e
  cases hg : bi q with
  | none =>
   have cx_pt0:=vF (G:=G) (s:=q) (top:=100) oM oM hg
   have hno : ∀ b r,b.length ≤ 100 → (126 :: q : acA) ≠ frame b ++ r:=fun b r hb e=>by
    have:=hnum b r hb e
    rw [hg] at this;cases this
   rw [← hdr] at cx_pt0
   refine jE [(0,_)] Tryz.func112 Tryz.ntmps112 fun B hB=>?_
   repeat' (first | refine jM ?_ | (refine jo ?_;(refine cO F F F cx_pt0 F ?_;rintro _ ⟨gb,rfl⟩)) | refine ac F F ?_ | refine ad F F ?_)
   all_goals refine jY (vs:=[_,_,_,_]) ?_
   all_goals exact hnof hno F
  | some z =>
   obtain ⟨n,r⟩:=z
   obtain ⟨g0,g1,_⟩:=cx hg
   have hl:=bD hg
   have cx_pt1:=vE (G:=G) (s:=q) (top:=100) oM hg
   rw [← hdr] at cx_pt1
   by_cases hn : n ≤ 100
   case neg =>
    rw [decide_eq_false hn] at cx_pt1
    have hno : ∀ b r,b.length ≤ 100 → (126 :: q : acA) ≠ frame b ++ r:=fun b r hb e=>by
     have:=hnum b r hb e
     rw [hg] at this
     simp only [Option.some.injEq,Prod.mk.injEq] at this
     omega
    refine jE [(0,_)] Tryz.func112 Tryz.ntmps112 fun B hB=>?_
    repeat' (first | refine jM ?_ | (refine jo ?_;refine ab F F F cx_pt1 F ?_) | refine ac F F ?_ | refine ad F F ?_)
    all_goals refine jY (vs:=[_,_,_,_]) ?_
    all_goals exact hnof hno F
   rw [decide_eq_true hn] at cx_pt1
   obtain ⟨m,rfl⟩ : ∃ m : Nat,n = (m : Int):=⟨n.toNat,oM⟩
   by_cases hm : m ≤ r.length
   case neg =>
    have hno : ∀ b r,b.length ≤ 100 → (126 :: q : acA) ≠ frame b ++ r:=fun b r' hb e=>by
     have:=hnum b r' hb e
     rw [hg] at this
     simp only [Option.some.injEq,Prod.mk.injEq] at this
     obtain ⟨e1,e2⟩:=this
     have:=congrArg List.length e2
     simp only [List.length_append] at this
     omega
    refine jE [(0,_)] Tryz.func112 Tryz.ntmps112 fun B hB=>?_
    repeat' (first | refine jM ?_ | (refine jo ?_;refine ab F F F cx_pt1 F ?_) | refine ac F (ay oM) ?_ | refine ad F F ?_)
    all_goals refine jY (vs:=[_,_,_,_]) ?_
    all_goals exact hnof hno F
   have hq : q = a6 m ++ r:=by
    obtain ⟨_,_,h⟩:=cx hg
    exact h
   have htl : (r.take m).length = m:=by rw [List.length_take];omega
   have htk : r.take ((m : Nat) : Int).toNat = r.take m:=rfl
   have hdk : r.drop ((m : Nat) : Int).toNat = r.drop m:=rfl
   have hsr:=iy (r.take m)
   have hsl:=kG (r.take m)
   have hdl : (r.drop m).length = r.length - m:=List.length_drop
   have hall : ∀ b r',b.length ≤ 100 → (126 :: q : acA) = frame b ++ r' → r.drop m = a6 (er (r.take m)) ++ r':=fun b r' hb e=>by
    have:=hnum b r' hb e
    rw [hg] at this
    simp only [Option.some.injEq,Prod.mk.injEq] at this
    obtain ⟨e1,e2⟩:=this
    have e3 : m = b.length:=oM
    rw [e2,e3,List.drop_left,List.take_left]
   by_cases hsh : (r.drop m).length < (a6 (er (r.take m))).length
   ·have hno : ∀ b r,b.length ≤ 100 → (126 :: q : acA) ≠ frame b ++ r:=fun b r' hb e=>by
     have:=congrArg List.length (hall b r' hb e)
     simp only [List.length_append] at this
     omega
    refine jE [(0,_)] Tryz.func112 Tryz.ntmps112 fun B hB=>?_
    repeat' (first | refine jM ?_ | (refine jo ?_;first | refine ab F F F cx_pt1 F ?_ | (refine ab F F F (iO ?_) F ?_;(focus ((simp;omega);done))) | (refine ab F F F (dE ?_) F ?_;(focus ((simp;omega);done)))) | (refine ac F ?_ ?_;(focus ((simp;omega);done))) | (refine ad F (by first | rfl | (refine decide_eq_false ?_;(omega))) ?_) | (refine aj (am (id:=12) _ (fun _ h=>h) ai ?_);refine jW 0 [0,1,2,3,4,5,6,7,8,9,10] (aa 11 2047) ?_;refine jQ ?_))
    all_goals refine jY (vs:=[_,_,_,_]) ?_
    all_goals exact hnof hno F
   by_cases hpre : (r.drop m).take (a6 (er (r.take m))).length = a6 (er (r.take m))
   case neg =>
    have hno : ∀ b r,b.length ≤ 100 → (126 :: q : acA) ≠ frame b ++ r:=fun b r' hb e=>by
     refine hpre ?_
     rw [hall b r' hb e,List.take_left]
    refine jE [(0,_)] Tryz.func112 Tryz.ntmps112 fun B hB=>?_
    repeat' (first | refine jX ?_ | (refine jo ?_;first | refine ab F F F cx_pt1 F ?_ | (refine ab F F F (iO ?_) F ?_;(focus ((simp;omega);done))) | (refine ab F F F (dE ?_) F ?_;(focus ((simp;omega);done)))) | refine ac F (ay ‹_›) ?_ | (refine ad F ?_ ?_;(focus ((first | rfl | (refine decide_eq_false ?_;(omega)) | (simp;omega));done))))
    all_goals refine jY (vs:=[_,_,_,_]) ?_
    all_goals exact hnof hno F
   have hyes : (126 :: q : acA) = frame (r.take m) ++ (r.drop m).drop (a6 (er (r.take m))).length:=by
    rw [oI oM,htl,hq]
    congr 2
    conv=>lhs;rw [← List.take_append_drop m r]
    congr 1
    conv=>lhs;rw [← List.take_append_drop (a6 (er (r.take m))).length (r.drop m),hpre]
   refine jE [(0,_)] Tryz.func112 Tryz.ntmps112 fun B hB=>?_
   repeat' (first | refine jX ?_ | (refine jo ?_;first | refine ab F F F cx_pt1 F ?_ | (refine ab F F F (iO ?_) F ?_;(focus ((simp;omega);done))) | (refine ab F F F (dE ?_) F ?_;(focus ((simp;omega);done)))) | (refine ad F ?_ ?_;(focus ((first | rfl | (refine decide_eq_false ?_;(omega)) | (simp [*];done) | (simp;omega));done))) | (refine aj (am (id:=15) _ (fun _ h=>h) ai ?_);refine jW 0 [0,1,2,3,4,5,6,7,8] (aa 9 511) ?_;refine jQ ?_))
   all_goals refine jY (vs:=[_,_,_,_]) ?_
   all_goals exact ⟨_,_,_,_,F,fun _=>⟨by rw [htk,htl];omega,hyes⟩,fun h=>(by cases h)⟩
theorem v7 {ts : List Ty} {k s : acA} {u : V} {t : acA} {N : Nat} (hN : 12 ≤ N) (hl : s.length ≤ 400) (h : rd ts N k s = some (u,t)) : b9 ts k s = if t = [] ∧ V.deep u ≤ 12 then some u else none:=by
 unfold b9
 rw [if_pos hl]
 cases h12 : rd ts 12 k s with
 | none =>
  dsimp only
  rw [if_neg]
  rintro ⟨_,hd⟩
  have:=xb _ 12 k s _ h hd
  rw [h12] at this;cases this
 | some x =>
  have h1:=xa (m:=N) hN h12
  rw [h] at h1
  have hd:=kK _ _ _ _ h12
  obtain rfl:=Option.some.inj h1
  dsimp only at hd ⊢
  cases t with
  | nil=>dsimp only;rw [if_pos ⟨rfl,hd⟩]
  | cons c t=>dsimp only;rw [if_neg (fun h=>by cases h.1)]
theorem v8 {ts : List Ty} {k s : acA} {N : Nat} (hN : 12 ≤ N) (hl : s.length ≤ 400) (h : rd ts N k s = none) : b9 ts k s = none:=by
 unfold b9
 rw [if_pos hl]
 cases h12 : rd ts 12 k s with
 | none=>rfl
 | some x=>rw [xa (m:=N) hN h12] at h;cases h
theorem te {b : Nat} {qs : List cE} {k s : acA} (hS : ScI G b qs) (hw : SchW (al qs)) (hk : aM (al qs) k = true) (hs : s.length ≤ 10000000) :
  bo acz 96 [Pt b 0,Ag (em k),S s] G (fun v G'=>(b9 (al qs) k s = none ∧ v = Tu [zP,Bo false]) ∨ ∃ u c,b9 (al qs) k s = some u ∧ v = Tu [Ag (cg c),Bo true] ∧ V.rep G' u c):=by
 unfold em
 by_cases hl : s.length ≤ 400
 case neg =>
  have hno : b9 (al qs) k s = none:=by unfold b9;rw [if_neg hl]
  refine jB [(0,_),(1,_),(2,_)] Tryz.func96 Tryz.ntmps96 fun B hok hB hW=>?_
  repeat' (first | refine jR ?_ | (refine jo ?_;first | refine jO fun _=>?_ | refine jL fun _=>?_ | refine jV (ak F F) ?_ | refine jC F F F ?_) | refine ac F (ay oM) ?_)
  all_goals refine jZ (vs:=[_,_]) F ⟨aD F F F F,F,trivial⟩ F ⟨Gh.le.refl _,F,?_⟩
  all_goals exact .inl ⟨hno,F⟩
 obtain ⟨N,hN⟩ : ∃ N,s.length + 12 ≤ N:=⟨_,Nat.le_refl _⟩
 have hN2 : 12 ≤ N:=oM
 have hV:=qE (sc:=b) hw N
 have cy_vl : ∀ {r : Nat},di acz 144 [Pt r 0,Ag (em k)] G [dN r b s false] (gY (rd (al qs) N k) r b s false):=fun {r}=>hV G r k s false hS hk oM oM
 refine jB [(0,_),(1,_),(2,_)] Tryz.func96 Tryz.ntmps96 fun B hok hB hW=>?_
 repeat' (first | refine jR ?_ | (refine jo ?_;first | refine jO fun _=>?_ | refine jL fun _=>?_ | refine jV (ak F F) ?_ | refine aK F ?_) | refine ad F (aB oM) ?_)
 refine jo ?_
 rename_i r
 refine cP F F F (cy_vl (r:=r)) F ?_
 rintro _ G1 _ hle ⟨u1,c1,t1,b1,rfl,hrep,rfl,hP⟩
 dsimp only [zA,fA]
 obtain ⟨hPl,hP0,hP1⟩:=hP
 cases b1 with
 | true =>
  have hno : b9 (al qs) k s = none:=v8 hN2 hl (by rcases (hP1 rfl).1 with h | h;cases h;exact h)
  repeat' (first | refine jR ?_ | (refine jo ?_;first | refine jL fun _=>?_ | refine jV (ak F F) ?_ | refine jC F F F ?_ | refine ah F ?_ | refine aH F ?_) | refine aA F F F ?_ | refine ac F F ?_)
  all_goals refine jZ (vs:=[_,_]) F ⟨aD F F F F,F,trivial⟩ F ⟨hle,F,?_⟩
  all_goals exact .inl ⟨hno,F⟩
 | false =>
  have hrd:=(hP0 rfl).2
  have hof:=v7 hN2 hl hrd
  have htt:=iW _ _ _ _ hrd
  dsimp only at htt
  by_cases ht : t1 = []
  case neg =>
   have hno : b9 (al qs) k s = none:=by rw [hof,if_neg (fun h=>ht h.1)]
   repeat' (first | refine jR ?_ | (refine jo ?_;first | refine jL fun _=>?_ | refine jV (ak F F) ?_ | refine jC F F F ?_ | refine ah F ?_ | refine aH F ?_ | refine av F ?_) | refine aA F F (ay ‹_›) ?_ | refine an F F F ?_ | refine ac F F ?_)
   all_goals refine jZ (vs:=[_,_]) F ⟨aD F F F F,F,trivial⟩ F ⟨hle,F,?_⟩
   all_goals exact .inl ⟨hno,F⟩
  have hnn : ¬ t1 ≠ []:=fun h=>h ht
  have cx_dp:=vQ (G:=G1) u1.tot (Nat.le_refl _) oM hrep
  have hdt:=nC u1
  by_cases hd : V.deep u1 ≤ 12
  ·have hyes : b9 (al qs) k s = some u1:=by rw [hof,if_pos ⟨ht,hd⟩]
   repeat' (first | refine jR ?_ | (refine jo ?_;first | refine jL fun _=>?_ | refine jC F F F ?_ | refine ah F ?_ | refine aK F ?_ | refine av F ?_ | refine ab F F F cx_dp F ?_) | (refine an F F (by first | rfl | (refine decide_eq_false ?_;(assumption))) ?_) | refine ad F (aB oM) ?_)
   all_goals refine jZ (vs:=[_,_]) F ⟨aD F F F F,F,trivial⟩ F ⟨hle,F,?_⟩
   all_goals exact .inr ⟨u1,c1,hyes,F,hrep⟩
  ·have hno : b9 (al qs) k s = none:=by rw [hof,if_neg (fun h=>hd h.2)]
   repeat' (first | refine jR ?_ | (refine jo ?_;first | refine jL fun _=>?_ | refine jV (ak F F) ?_ | refine jC F F F ?_ | refine ah F ?_ | refine aK F ?_ | refine av F ?_ | refine ab F F F cx_dp F ?_) | (refine an F F (by first | rfl | (refine decide_eq_false ?_;(assumption))) ?_) | refine ac F (ay oM) ?_)
   all_goals refine jZ (vs:=[_,_]) F ⟨aD F F F F,F,trivial⟩ F ⟨hle,F,?_⟩
   all_goals exact .inl ⟨hno,F⟩
theorem g9 {s k : acA} (h : bM s k = true) : ∃ ts,aO s = some ts ∧ aM ts k = true ∧ SchW ts:=by
 unfold bM at h
 cases h1 : aO s with
 | none=>rw [h1] at h;cases h
 | some ts=>rw [h1] at h;exact ⟨ts,F,h,cG h1⟩
def e7 (s k v : acA) : Option V:=match aO s with
 | some ts=>if aM ts k = true then b9 ts k v else none
 | none=>none
theorem wP {s k w : acA} (h : s.length ≤ 1048576 ∧ k.length ≤ 1048576 ∧ w.length ≤ 1048576) (hno : e7 s k w = none) : bo acz 53 [S s,S k,S w] G (fun v _=>∃ p a b c,v = Tu [p,Ag [S a,S b,S c],zP,Bo false]):=by
 by_cases hk : bM s k = true
 case neg =>
  have cx_bo1 : ∀ G,bo acz 50 [S s,S k] G (fun v _=>∃ p a b c,v = Tu [p,Ag [S a,S b,S c],Bo false]):=fun G=>by
   refine (jg (G:=G) (s:=s) (k:=k) oM oM).mono ?_
   rintro v G' L' ⟨h1,h2,⟨_,p,a,b,c,rfl⟩ | ⟨b,qs,rfl,h4,h5,_⟩⟩
   ·exact ⟨h1,h2,p,a,b,c,F⟩
   ·exact absurd (by unfold bM;rw [h4];exact h5) hk
  refine jB [(0,_),(1,_),(2,_)] Tryz.func53 Tryz.ntmps53 fun B hok hB hW=>?_
  repeat' (first | refine jR ?_ | (refine jo ?_;first | refine jL fun _=>?_ | refine jC F F F ?_ | refine jV (ak F F) ?_ | (refine aI F F F (cx_bo1 _) F ?_;rintro _ G hle ⟨p1,a1,b1,c1,rfl⟩;skip)) | refine ac F F ?_)
  all_goals refine jZ (vs:=[_,_,_,_]) F ⟨F,aD F F F F,aD F F F F,F,trivial⟩ F ⟨hle,F,?_⟩
  all_goals exact ⟨_,_,_,_,F⟩
 obtain ⟨ts,hs,hki,hw⟩:=g9 hk
 have hvo : b9 ts k w = none:=by unfold e7 at hno;rw [hs] at hno;dsimp only at hno;rwa [if_pos hki] at hno
 have cx_boa : ∀ G,bo acz 50 [S s,S k] G (fun v G'=>∃ b qs,v = Tu [Pt b 0,Ag [S (sg k),S (bs k),S (nm k)],Bo true] ∧ al qs = ts ∧ ScI G' b qs):=fun G=>by
  refine (jg (G:=G) (s:=s) (k:=k) oM oM).mono ?_
  rintro v G' L' ⟨h1,h2,⟨h4,_⟩ | ⟨b,qs,rfl,h4,h5,h6⟩⟩
  ·rw [h4] at hk;cases hk
  ·rw [hs] at h4;exact ⟨h1,h2,b,qs,F,(Option.some.inj h4).symm,h6⟩
 have cx_ri0 : ∀ G b qs,al qs = ts → ScI G b qs → bo acz 96 [Pt b 0,Ag [S (sg k),S (bs k),S (nm k)],S w] G (fun v _=>v = Tu [zP,Bo false]):=fun G b qs hq hS=>by
  subst hq
  refine (te (G:=G) (b:=b) (s:=w) hS hw hki oM).mono ?_
  rintro v G' L' ⟨h1,h2,⟨_,rfl⟩ | ⟨u,c,h4,_⟩⟩
  ·exact ⟨h1,h2,F⟩
  ·rw [hvo] at h4;cases h4
 refine jB [(0,_),(1,_),(2,_)] Tryz.func53 Tryz.ntmps53 fun B hok hB hW=>?_
 repeat' (first | refine jR ?_ | (refine jo ?_;first | refine jL fun _=>?_ | refine jC F F F ?_ | refine aK F ?_ | (refine aI F F F (cx_boa _) F ?_;rintro _ G hle ⟨ba,qa,rfl,hT1,hR1⟩;skip) | (refine aI F F F ((cx_ri0 _ _ _) (by (repeat (assumption));done) (by (repeat (assumption));done)) rfl ?_;rintro _ G hle rfl;skip)) | refine ad F F ?_ | (refine aj (dU (id:=5) (tt:=7) F ai ?_);refine jW 5 [0,3,4] (aa 8 25) ?_;(refine jG (aa 8 27) 1 F (bB F F F F) ?_);(refine jG (aa 8 31) 2 F (bB F F F F) ?_);refine jA 5 F ?_;(refine jC F F F ?_);refine jK (aa 8 63) ?_;refine jA 6 F ?_;(refine jC F F F ?_);refine jK (aa 8 127) ?_;refine jW 0 [7] (aa 8 255) ?_;refine jQ ?_))
 all_goals refine jZ (vs:=[_,_,_,_]) F ⟨F,aD F F F F,aD F F F F,F,trivial⟩ F ⟨(Gh.le.trans aS hle),F,?_⟩
 all_goals exact ⟨_,_,_,_,F⟩
theorem wO {s k w : acA} {u : V} {ts : List Ty} (h : s.length ≤ 1048576 ∧ k.length ≤ 1048576 ∧ w.length ≤ 1048576) (hs : aO s = some ts) (hki : aM ts k = true) (hvo : b9 ts k w = some u) :
  bo acz 53 [S s,S k,S w] G (fun v G'=>∃ b qs cv,v = Tu [Pt b 0,Ag [S (sg k),S (bs k),S (nm k)],Ag (cg cv),Bo true] ∧ al qs = ts ∧ ScI G' b qs ∧ V.rep G' u cv):=by
 have hw:=cG hs
 have hk : bM s k = true:=by unfold bM;rw [hs];exact hki
 have cx_boa : ∀ G,bo acz 50 [S s,S k] G (fun v G'=>∃ b qs,v = Tu [Pt b 0,Ag [S (sg k),S (bs k),S (nm k)],Bo true] ∧ al qs = ts ∧ ScI G' b qs):=fun G=>by
  refine (jg (G:=G) (s:=s) (k:=k) oM oM).mono ?_
  rintro v G' L' ⟨h1,h2,⟨h4,_⟩ | ⟨b,qs,rfl,h4,h5,h6⟩⟩
  ·rw [h4] at hk;cases hk
  ·rw [hs] at h4;exact ⟨h1,h2,b,qs,F,(Option.some.inj h4).symm,h6⟩
 have cx_ri1 : ∀ G b qs,al qs = ts → ScI G b qs → bo acz 96 [Pt b 0,Ag [S (sg k),S (bs k),S (nm k)],S w] G (fun v G'=>∃ cv,v = Tu [Ag (cg cv),Bo true] ∧ V.rep G' u cv):=fun G b qs hq hS=>by
  subst hq
  refine (te (G:=G) (b:=b) (s:=w) hS hw hki oM).mono ?_
  rintro v G' L' ⟨h1,h2,⟨h4,_⟩ | ⟨u',c,h4,rfl,h5⟩⟩
  ·rw [hvo] at h4;cases h4
  ·rw [hvo] at h4;obtain rfl:=Option.some.inj h4;exact ⟨h1,h2,c,F,h5⟩
 refine jB [(0,_),(1,_),(2,_)] Tryz.func53 Tryz.ntmps53 fun B hok hB hW=>?_
 repeat' (first | refine jR ?_ | (refine jo ?_;first | refine jL fun _=>?_ | refine jC F F F ?_ | refine aK F ?_ | (refine aI F F F (cx_boa _) F ?_;rintro _ G hle ⟨ba,qa,rfl,hT1,hR1⟩;skip) | (refine aI F F F ((cx_ri1 _ _ _) (by (repeat (assumption));done) (by (repeat (assumption));done)) rfl ?_;rintro _ G hle ⟨cv,rfl,hrv⟩;skip)) | refine ad F F ?_)
 rename_i x7 x8 Ga hla x11 x13
 dsimp only [cg,VC.sl]
 (refine aj (am (id:=5) [.blk x13 (.cells (List.toArray [U8 (cv.what : Nat),S cv.text,I cv.tag,.slice cv.a cv.n cv.c]) ip (0,0)),.blk x11 (.cells (List.toArray [S (sg k),S (bs k),S (nm k)]) tK (0,0))] (by intro y hy;simp only [List.mem_cons,List.not_mem_nil,or_false] at hy ⊢;rcases hy with hy | hy <;> simp [hy]) ai ?_);refine jW 5 [0,3,4] (aa 8 25) ?_;(refine jG (aa 8 27) 1 F (bB F F F F) ?_);(refine jG (aa 8 31) 2 F (bB F F F F) ?_);refine jA 5 F ?_;(refine jC F F F ?_);refine jK (aa 8 63) ?_;refine jA 6 F ?_;(refine jC F F F ?_);refine jK (aa 8 127) ?_;refine jW 0 [7] (aa 8 255) ?_;refine jQ ?_)
 all_goals repeat' (refine jR ?_)
 all_goals refine jZ (vs:=[_,_,_,_]) F ⟨F,aD F F F F,aD F F F F,F,trivial⟩ F ⟨(Gh.le.trans aS hle),F,?_⟩
 all_goals exact ⟨ba,qa,cv,F,hT1,hR1.mono hle,hrv⟩
def eE (b : Nat) : List Value:=[Pt b 0]
instance : RowF eE 1:=⟨fun _=>rfl⟩
def gg (n : Int) : List Value:=[I n]
instance : RowF gg 1:=⟨fun _=>rfl⟩
abbrev acd : TypeId:=9
abbrev pI : TypeId:=120
inductive RepR (G : Gh) (ts : List Ty) : V → acA → Nat → Prop
 | leaf (w : Nat) (x k tx : acA) (b : Nat) : bZ G b 0 [S k,S tx,aL,aL] → ((w = 110 ∧ k = [110] ∧ tx = x ∧ ∀ c ∈ x,a7 c = true) ∨ (w = 116 ∧ k = [116] ∧ tx = 39 :: (x ++ [39])) ∨ (w = 102 ∧ k = [102] ∧ tx = x ∧ (x = [121,101,115] ∨ x = [110,111]))) → RepR G ts (.nd w x 0 []) k b
 | lst (k : acA) (b : Nat) (ks : List V) (bs : List Nat) (a : Option Addr) (c : Nat) : bZ G b 0 [S (91 :: k),S [],aL,.slice a ks.length c] → bj G (.slice a ks.length c) 1 ks.length (aF eE bs) → bs.length = ks.length → (∀ i,i < ks.length → RepR G ts (ae ks i) k (ae bs i)) → RepR G ts (.nd 91 [] 0 ks) (91 :: k) b
 | non (k : acA) (b : Nat) : bZ G b 0 [S (63 :: k),S [],aL,aL] → RepR G ts (.nd 63 [] 0 []) (63 :: k) b
 | opt (k : acA) (b kb b' cc : Nat) (v : V) : 1 ≤ cc → bZ G b 0 [S (63 :: k),S [],aL,.slice (some ⟨kb,0,none⟩) 1 cc] → bZ G kb 0 [Pt b' 0] → RepR G ts v k b' → RepR G ts (.nd 63 [] 0 [v]) (63 :: k) b
 | recd (k : acA) (b : Nat) (t : Ty) (fs : List (Fld × V)) (bs : List Nat) (a a2 : Option Addr) (c c2 : Nat) : aZ ts k = some t ∧ t.sort = 82 → bZ G b 0 [S k,S [82],.slice a fs.length c,.slice a2 fs.length c2] → bj G (.slice a fs.length c) 1 fs.length (aF gg (fs.map fun p=>p.1.tag)) → bj G (.slice a2 fs.length c2) 1 fs.length (aF eE bs) → bs.length = fs.length → (∀ i,i < fs.length → (ae fs i).1 ∈ t.fields) → (∀ i,i < fs.length → RepR G ts (ae fs i).2 (ae fs i).1.kind (ae bs i)) → RepR G ts (.nd 82 [] 0 (fs.map fun p=>.nd 61 [] p.1.tag [p.2])) k b
 | enm (k : acA) (b tb : Nat) (t : Ty) (d : Fld) {tc : Nat} : aZ ts k = some t ∧ t.sort = 69 → d ∈ t.fields → bZ G b 0 [S k,S [69],.slice (some ⟨tb,0,none⟩) 1 (tc + 1),aL] → bZ G tb 0 [I d.tag] → RepR G ts (.nd 69 [] d.tag []) k b
 | uni (k : acA) (b tb kb b' cc : Nat) (t : Ty) (d : Fld) (v : V) {tc : Nat} : 1 ≤ cc → aZ ts k = some t ∧ t.sort = 85 → d ∈ t.fields → bZ G b 0 [S k,S [85],.slice (some ⟨tb,0,none⟩) 1 (tc + 1),.slice (some ⟨kb,0,none⟩) 1 cc] → bZ G tb 0 [I d.tag] → bZ G kb 0 [Pt b' 0] → RepR G ts v d.kind b' → RepR G ts (.nd 85 [] d.tag [v]) k b
theorem RepR.mono {G G' : Gh} {ts : List Ty} (hl : Gh.le G G') {v : V} {k : acA} {b : Nat} (h : RepR G ts v k b) : RepR G' ts v k b:=by
 induction h with
 | leaf w x k tx b h1 h2=>exact .leaf w x k tx b (h1.mono hl) h2
 | lst k b ks bs a c h1 h2 h3 _ ih=>exact .lst k b ks bs a c (h1.mono hl) (h2.mono hl) h3 ih
 | non k b h1=>exact .non k b (h1.mono hl)
 | opt k b kb b' cc v h0 h1 h2 _ ih=>exact .opt k b kb b' cc v h0 (h1.mono hl) (h2.mono hl) ih
 | recd k b t fs bs a a2 c c2 h0 h1 h2 h3 h4 h5 _ ih=>exact .recd k b t fs bs a a2 c c2 h0 (h1.mono hl) (h2.mono hl) (h3.mono hl) h4 h5 ih
 | enm k b tb t d h0 h1 h2 h3=>exact .enm k b tb t d h0 h1 (h2.mono hl) (h3.mono hl)
 | uni k b tb kb b' cc t d v hcc h0 h1 h2 h3 h4 _ ih=>exact .uni k b tb kb b' cc t d v hcc h0 h1 (h2.mono hl) (h3.mono hl) (h4.mono hl) ih
def cm (ts : List Ty) (f : Option (V × acA)) (k : acA) (v : Value) (G' : Gh) : Prop :=
 ∃ q rest ok,v = Tu [.pointer q,S rest,Bo ok] ∧ (ok = true → ∃ w b,q = some ⟨b,0,none⟩ ∧ f = some (w,rest) ∧ RepR G' ts w k b) ∧ (ok = false → f = none)
theorem rS {s : acA} (hs : s.length ≤ 100000000) : ao acz 191 [S s] G (· = I ((s.takeWhile a7).length : Nat)):=by
 refine jE [(0,_)] Tryz.func191 Tryz.ntmps191 fun B hB=>?_
 repeat' (refine jR ?_)
 refine aR (ι:=Nat) (fun i=>i ≤ s.length ∧ i + ((s.drop i).takeWhile a7).length = (s.takeWhile a7).length) (fun i=>[(0,S s),(3,I i)]) (fun _=>G) (fun i=>[]) (fun i=>s.length - i) 0 ?_ tU F aX (fun i Hi=>?_)
 ·exact ⟨Nat.zero_le _,by simp⟩
 obtain ⟨hi0,hi1⟩:=Hi
 by_cases hi : i < s.length
 ·obtain ⟨c,hc1,hc2⟩:=fL hi
  have hc3 : bt s ((i : Int).toNat) = c.toNat:=hc2
  rw [hc1,List.takeWhile_cons] at hi1
  by_cases hd : a7 c = true
  ·rw [if_pos hd] at hi1
   have hd2:=hd
   unfold a7 at hd2
   rw [decide_eq_true_eq] at hd2
   simp only [List.length_cons] at hi1
   repeat' (first | refine jM ?_ | (refine jo ?_;refine aH F ?_) | refine aA F F (ay oM) ?_ | refine ac F (ay oM) ?_)
   exact aW (i + 1) ⟨oM,oM⟩ oM tU F aX
  ·rw [if_neg hd] at hi1
   have hd2 : ¬ (48 ≤ c.toNat ∧ c.toNat ≤ 57):=fun h=>hd (by unfold a7;rw [decide_eq_true_eq];exact h)
   simp only [List.length_nil] at hi1
   repeat' (first | refine jM ?_ | (refine jo ?_;first | refine aH F ?_ | refine av F ?_) | refine aA F F (ay oM) ?_ | refine dF F F (fun _=>?_) (fun _=>?_) | (refine ad F (by first | rfl | (refine decide_eq_false ?_;(omega))) ?_))
   all_goals refine jY (vs:=[_]) ?_
   all_goals (rw [ax,← hi1];rfl)
 ·have : i = s.length:=oM
  rw [this,List.drop_length] at hi1
  simp only [List.takeWhile_nil,List.length_nil] at hi1
  repeat' (first | refine jR ?_ | (refine jo ?_;refine av F ?_) | (refine an F F (by first | rfl | (refine decide_eq_false ?_;(omega))) ?_) | refine ad F F ?_)
  all_goals refine jY (vs:=[_]) ?_
  all_goals (rw [ax,← hi1,this];rfl)
theorem nV (q : UInt8 → Bool) (s : acA) : s.take ((((s.takeWhile q).length : Nat) : Int)).toNat = s.takeWhile q ∧ s.drop ((((s.takeWhile q).length : Nat) : Int)).toNat = s.dropWhile q:=by
 have h:=List.takeWhile_append_dropWhile (p:=q) (l:=s)
 have e : ((((s.takeWhile q).length : Nat) : Int)).toNat = (s.takeWhile q).length:=oM
 rw [e]
 constructor
 ·have h2 : (s.takeWhile q ++ s.dropWhile q).take (s.takeWhile q).length = s.takeWhile q:=List.take_left
  rwa [h] at h2
 ·have h2 : (s.takeWhile q ++ s.dropWhile q).drop (s.takeWhile q).length = s.dropWhile q:=List.drop_left
  rwa [h] at h2
theorem wI {u : Value} {ts : List Ty} {s : acA} (hu : u.oneCell' = true) (hs : s.length ≤ 100000000) : bo acz 154 [Ag [u],S s,S [110]] G (cm ts ((ci 999999 s).map fun x=>(.nd 110 (bw x.1) 0 [],x.2)) [110]):=by
 have cx_dg:=rS (G:=G) hs
 obtain ⟨e1,e2⟩:=nV a7 s
 have hwl:=dH a7 s
 have hlen : (s.take ((((s.takeWhile a7).length : Nat) : Int)).toNat).length ≤ 100000000:=by rw [e1];omega
 refine jB [(0,_),(1,_),(2,_)] Tryz.func154 Tryz.ntmps154 fun B hok hB hW=>?_
 repeat' (first | refine jM ?_ | (refine jo ?_;first | refine jO fun _=>?_ | refine ab F F F cx_dg F ?_ | (refine cO F F F (gV oM) F ?_;rintro _ ⟨n,rfl,hnum⟩)) | refine ac F F ?_ | (refine aj (am (id:=6) _ (fun _ h=>h) ai ?_);refine jW 5 [0,1,2,3,6,7,8,9] (aa 13 975) ?_;(refine jG (aa 13 991) 4 F (ak F F) ?_);refine jA 5 F ?_;(refine jO fun _=>?_);refine jS (aa 13 1023) ?_;refine jT 0 [10,11,12] (aa 13 8191) ?_;refine jQ ?_))
 rename_i x3 x4
 refine Nx.sealC (b:=x4) fun G2 hG2 hsy=>?_
 refine jZ (vs:=[_,_,_]) F ⟨F,F,F,trivial⟩ F ⟨hG2,F,?_⟩
 rw [aC]
 rw [e1] at hnum hsy
 rw [e1,e2]
 refine ⟨_,_,_,F,fun h=>?_,fun h=>?_⟩
 ·cases hm : aP (s.takeWhile a7) 999999 with
  | none=>rw [hm] at h;cases h
  | some m =>
   have hmd:=(d8 hm).2.1
   refine ⟨.nd 110 (bw m) 0 [],x4,F,by unfold ci;rw [hm];rfl,.leaf 110 _ _ _ _ hsy (.inl ⟨rfl,rfl,hmd,fun c hc=>List.all_eq_true.1 (List.all_takeWhile (l:=s) (p:=a7)) c (by rw [hmd];exact hc)⟩)⟩
 ·cases hm : aP (s.takeWhile a7) 999999 with
  | none=>unfold ci;rw [hm];rfl
  | some m=>rw [hm] at h;cases h
theorem ou {c : UInt8} {r : acA} {i : Nat} (hc : i ≤ r.length) (hn : ∀ j,j < i → bt r j ≠ 39) (hi : i = r.length ∨ bt r i = 39 ∧ i < r.length) :
  (df (c :: r) = if c6 ((c :: r).take (min (i + 2) (r.length + 1))) = true then some (.nd 116 (r.take i) 0 [],r.drop (i + 1)) else none) ∧ (c6 ((c :: r).take (min (i + 2) (r.length + 1))) = true → (c :: r).take (min (i + 2) (r.length + 1)) = 39 :: (r.take i ++ [39])):=by
 unfold df
 dsimp only
 rcases hi with hi | ⟨h39,hlt⟩
 ·have hcut : aE 39 r = (r,[],false):=py fun j hj=>hn j oM
  have htk : (c :: r).take (min (i + 2) (r.length + 1)) = c :: r:=List.take_of_length_le (by simp;omega)
  have hno : c6 (c :: r) = false:=by
   unfold c6
   refine decide_eq_false fun h=>?_
   obtain ⟨⟨h2,_⟩,_,h3,_⟩:=h
   simp only [List.length_cons] at h2
   rw [show (c :: r).length - 1 = (r.length - 1) + 1 by simp;omega,dR] at h3
   exact hn (r.length - 1) oM h3
  rw [hcut,htk,hno]
  exact ⟨by simp,fun h=>(by cases h)⟩
 ·have hcut:=mB (k:=39) hlt hn h39
  have htk : (c :: r).take (min (i + 2) (r.length + 1)) = c :: (r.take i ++ [39]):=by
   rw [show min (i + 2) (r.length + 1) = (i + 1) + 1 by omega,List.take_succ_cons,eS hlt]
   congr 1;congr 1;congr 1
   rw [aV hlt]
   have : bt r i = (r[i]).toNat:=by simp [bt,List.getD,List.getElem?_eq_getElem hlt]
   exact UInt8.toNat_inj.1 (by rw [← this,h39];rfl)
  rw [hcut,htk]
  dsimp only
  by_cases h : c.toNat = 39
  ·rw [if_pos h,show c = 39 from UInt8.toNat_inj.1 h]
   exact ⟨F,fun _=>rfl⟩
  ·have hno : ¬ c6 (c :: (r.take i ++ [39])) = true:=fun ht=>by
    unfold c6 at ht
    rw [decide_eq_true_eq] at ht
    exact h (by have:=ht.2.1;rwa [bh] at this)
   rw [if_neg h,if_neg hno]
   exact ⟨F,fun h2=>absurd h2 hno⟩
theorem wH {u : Value} {ts : List Ty} {s : acA} (hu : u.oneCell' = true) (hs : s.length ≤ 100000000) (hne : s ≠ []) : bo acz 154 [Ag [u],S s,S [116]] G (cm ts (df s) [116]):=by
 match s,hne with
 | c :: r,_ =>
 simp only [List.length_cons] at hs
 have hcl : (c :: r).length = r.length + 1:=rfl
 refine jB [(0,_),(1,_),(2,_)] Tryz.func154 Tryz.ntmps154 fun B hok hB hW=>?_
 repeat' (first | refine jR ?_ | (refine jo ?_;refine jO fun _=>?_) | refine ac F F ?_ | refine ad F F ?_)
 rename_i x3
 refine aR (ι:=Nat) (fun i=>i ≤ r.length ∧ ∀ j,j < i → bt r j ≠ 39) (fun i=>[(1,S (c :: r)),(2,S [116]),(9,I (i + 1 : Nat))]) (fun _=>G) (fun i=>[]) (fun i=>r.length - i) 0 ?_ tU F (by repeat (exact List.nil_sublist _)) (fun i Hi=>?_)
 ·exact ⟨Nat.zero_le _,fun j hj=>absurd hj oM⟩
 obtain ⟨hi0,hi1⟩:=Hi
 have hb : bt (c :: r) ((i + 1 : Nat) : Int).toNat = bt r i:=dR c r i
 by_cases hi : i < r.length
 ·by_cases h39 : bt r i = 39
  ·have h39' : bt (c :: r) ((i + 1 : Nat) : Int).toNat = 39:=by rw [hb];exact h39
   have hq:=ou (c:=c) hi0 hi1 (.inr ⟨h39,hi⟩)
   have e3 : (min (((i + 1 : Nat) : Int) + 1) ((((c :: r).length : Nat) : Int))).toNat = min (i + 2) (r.length + 1):=oM
   have cx_tx:=eW (G:=G) (s:=(c :: r).take (min (((i + 1 : Nat) : Int) + 1) ((((c :: r).length : Nat) : Int))).toNat) (by rw [List.length_take];omega)
   repeat' (first | refine jM ?_ | (refine jo ?_;first | refine aH F ?_ | refine jV (t4 F F) ?_) | refine aA F F (ay oM) ?_ | refine ad F (aB oM) ?_ | (refine aj (am (id:=12) _ (fun _ h=>h) ai ?_);refine jW 6 [0,1,2,3,6,7,8,9,10,11] (aa 16 4047) ?_;(refine jG (aa 16 4063) 4 F (ak F F) ?_);refine cl [5,12] kR dC ⟨?_,?_,trivial⟩;(focus (refine bc F F ?_;(refine jO fun _=>?_);refine jS (aa 16 4095) ?_;refine jA 12 F ?_;((refine ab F F F (eW ?_) F ?_;(focus ((simp;omega);done))));refine jS (aa 16 8191) ?_;refine jW 0 [13,14,15] (aa 16 65535) ?_;refine jQ ?_));rotate_left 1;(focus (refine bc F F ?_;((refine ab F F F (eW ?_) F ?_;(focus ((simp;omega);done))));refine jS (aa 16 8159) ?_;refine jA 5 F ?_;(refine jO fun _=>?_);refine jS (aa 16 8191) ?_;refine jW 0 [13,14,15] (aa 16 65535) ?_;refine jQ ?_));rotate_left 1))
   all_goals
    rename_i x4
    refine Nx.sealC (b:=x4) fun G2 hG2 hsy=>?_
    refine jZ (vs:=[_,_,_]) F ⟨F,F,F,trivial⟩ F ⟨hG2,F,?_⟩
    rw [aC]
    rw [e3] at hsy
    rw [e3]
    refine ⟨_,_,_,F,fun h=>?_,fun h=>?_⟩
    ·have htk:=hq.2 h
     rw [htk] at hsy
     have hdr : (c :: r).drop (min (i + 2) (r.length + 1)) = r.drop (i + 1):=by
      rcases Nat.lt_or_ge i r.length with h2 | h2
      ·rw [show min (i + 2) (r.length + 1) = (i + 1) + 1 by omega];rfl
      ·rw [List.drop_eq_nil_of_le (by simp;omega),List.drop_eq_nil_of_le oM]
     exact ⟨_,x4,F,by rw [hq.1,if_pos h,hdr],.leaf 116 _ _ _ _ hsy (.inr (.inl ⟨F,F,F⟩))⟩
    ·rw [hq.1,if_neg (by rw [h];decide)]
  ·have h39' : ¬ bt (c :: r) ((i + 1 : Nat) : Int).toNat = 39:=by rw [hb];exact h39
   repeat' (first | refine jM ?_ | (refine jo ?_;refine aH F ?_) | refine aA F F (ay oM) ?_ | refine ac F (ay oM) ?_)
   refine Nx.re (d:=9) (v':=I (i + 1 + 1 : Nat)) F (congrArg (Value.int .i64) oM) ?_
   exact aW (i + 1) ⟨oM,fun j hj=>(by
    rcases Nat.lt_or_ge j i with h | h
    ·exact hi1 j h
    ·have : j = i:=oM
     subst this;exact h39)⟩ oM tU F aX
 ·have hq:=ou (c:=c) hi0 hi1 (.inl oM)
  have e3 : (min (((i + 1 : Nat) : Int) + 1) ((((c :: r).length : Nat) : Int))).toNat = min (i + 2) (r.length + 1):=oM
  have cx_tx:=eW (G:=G) (s:=(c :: r).take (min (((i + 1 : Nat) : Int) + 1) ((((c :: r).length : Nat) : Int))).toNat) (by rw [List.length_take];omega)
  repeat' (first | refine jM ?_ | (refine jo ?_;first | refine av F ?_ | refine jV (t4 F F) ?_) | refine an F F (aB oM) ?_ | refine ad F F ?_ | (refine aj (am (id:=12) _ (fun _ h=>h) ai ?_);refine jW 6 [0,1,2,3,6,7,8,9,10,11] (aa 16 4047) ?_;(refine jG (aa 16 4063) 4 F (ak F F) ?_);refine cl [5,12] kR dC ⟨?_,?_,trivial⟩;(focus (refine bc F F ?_;(refine jO fun _=>?_);refine jS (aa 16 4095) ?_;refine jA 12 F ?_;((refine ab F F F (eW ?_) F ?_;(focus ((simp;omega);done))));refine jS (aa 16 8191) ?_;refine jW 0 [13,14,15] (aa 16 65535) ?_;refine jQ ?_));rotate_left 1;(focus (refine bc F F ?_;((refine ab F F F (eW ?_) F ?_;(focus ((simp;omega);done))));refine jS (aa 16 8159) ?_;refine jA 5 F ?_;(refine jO fun _=>?_);refine jS (aa 16 8191) ?_;refine jW 0 [13,14,15] (aa 16 65535) ?_;refine jQ ?_));rotate_left 1))
  all_goals
   rename_i x4
   refine Nx.sealC (b:=x4) fun G2 hG2 hsy=>?_
   refine jZ (vs:=[_,_,_]) F ⟨F,F,F,trivial⟩ F ⟨hG2,F,?_⟩
   rw [aC]
   rw [e3] at hsy
   rw [e3]
   refine ⟨_,_,_,F,fun h=>?_,fun h=>?_⟩
   ·have htk:=hq.2 h
    rw [htk] at hsy
    have hdr : (c :: r).drop (min (i + 2) (r.length + 1)) = r.drop (i + 1):=by
     rcases Nat.lt_or_ge i r.length with h2 | h2
     ·rw [show min (i + 2) (r.length + 1) = (i + 1) + 1 by omega];rfl
     ·rw [List.drop_eq_nil_of_le (by simp;omega),List.drop_eq_nil_of_le oM]
    exact ⟨_,x4,F,by rw [hq.1,if_pos h,hdr],.leaf 116 _ _ _ _ hsy (.inr (.inl ⟨F,F,F⟩))⟩
   ·rw [hq.1,if_neg (by rw [h];decide)]
theorem wJ {u : Value} {ts : List Ty} {s : acA} (hu : u.oneCell' = true) (hs : s.length ≤ 100000000) : bo acz 154 [Ag [u],S s,S [102]] G (cm ts (dV s) [102]):=by
 have hpf : ∀ l : acA,l.isPrefixOf s = true ↔ l.length ≤ s.length ∧ s.take l.length = l:=fun l=>by
  rw [List.isPrefixOf_iff_prefix]
  constructor
  ·rintro ⟨t,rfl⟩;simp
  ·rintro ⟨h1,h2⟩;exact ⟨s.drop l.length,by rw [show l ++ s.drop l.length = s.take l.length ++ s.drop l.length from by rw [h2]];exact List.take_append_drop _ _⟩
 refine jB [(0,_),(1,_),(2,_)] Tryz.func154 Tryz.ntmps154 fun B hok hB hW=>?_
 repeat' (first | refine jR ?_ | (refine jo ?_;first | refine jO fun _=>?_ | refine jF fun _=>?_ | refine jV (ar F) ?_) | refine ad F F ?_)
 rename_i x3 x4
 refine aR (ι:=Nat) (fun i=>i ≤ 2 ∧ (1 ≤ i → ([121,101,115] : acA).isPrefixOf s = false) ∧ (2 ≤ i → ([110,111] : acA).isPrefixOf s = false)) (fun i=>[(1,S s),(2,S [102]),(68,.slice (some ⟨x4,0,none⟩) 2 2),(69,I (2 : Nat)),(70,I i)]) (fun _=>G) (fun i=>[.blk x4 (.cells (List.toArray [S [121,101,115],S [110,111]]) acd (0,0))]) (fun i=>2 - i) 0 ?_ tU F sB (fun i Hi=>?_)
 ·exact ⟨Nat.zero_le _,fun h=>absurd h oM,fun h=>absurd h oM⟩
 obtain ⟨hi0,hi1,hi2⟩:=Hi
 have h3 : i = 0 ∨ i = 1 ∨ i = 2:=oM
 rcases h3 with rfl | rfl | rfl
 ·cases hp : ([121,101,115] : acA).isPrefixOf s with
  | true =>
   obtain ⟨h1,h2⟩:=(hpf _).1 hp
   have h1' : (((([121,101,115] : acA).length : Nat) : Int)) ≤ s.length:=oM
   have h2' : s.take (((([121,101,115] : acA).length : Nat) : Int)).toNat = [121,101,115]:=h2
   repeat' (first | refine jM ?_ | (refine jo ?_;first | refine aH F ?_ | refine jV (aw F F oM) ?_ | refine ah F ?_) | refine aA F F (ay ‹_›) ?_ | (refine ac F (by first | rfl | (refine decide_eq_true ?_;(assumption))) ?_) | (refine aj (am (id:=17) _ (fun _ h=>h) ai ?_);refine jW 5 [0,1,4,5,6,7] (aa 11 243) ?_;(refine jG (aa 11 247) 2 F (ak F F) ?_);refine jA 3 F ?_;(refine jO fun _=>?_);refine jS (aa 11 255) ?_;refine jT 0 [8,9,10] (aa 11 2047) ?_;refine jQ ?_))
   all_goals
    rename_i y
    refine Nx.sealC (b:=y) fun G2 hG2 hsy=>?_
    refine jZ (vs:=[_,_,_]) F ⟨F,F,F,trivial⟩ F ⟨hG2,F,?_⟩
    rw [aC]
    exact ⟨_,_,_,F,fun _=>⟨.nd 102 [121,101,115] 0 [],y,F,by unfold dV;rw [hp,if_pos rfl];rfl,.leaf 102 _ _ _ _ hsy (.inr (.inr ⟨rfl,rfl,rfl,.inl rfl⟩))⟩,fun h=>(by cases h)⟩
  | false =>
   have hn : ¬ ((([121,101,115] : acA).length : Nat) ≤ s.length ∧ s.take ([121,101,115] : acA).length = [121,101,115]):=fun h=>by rw [(hpf _).2 h] at hp;cases hp
   have hn' : ¬ ((((([121,101,115] : acA).length : Nat) : Int)) ≤ s.length ∧ s.take (((([121,101,115] : acA).length : Nat) : Int)).toNat = [121,101,115]):=fun h=>hn ⟨oM,h.2⟩
   by_cases h1' : (((([121,101,115] : acA).length : Nat) : Int)) ≤ s.length
   ·have h2' : ¬ s.take (((([121,101,115] : acA).length : Nat) : Int)).toNat = [121,101,115]:=fun h=>hn' ⟨h1',h⟩
    repeat' (first | refine jM ?_ | (refine jo ?_;first | refine aH F ?_ | refine jV (aw F F oM) ?_ | refine ah F ?_) | refine aA F F (ay ‹_›) ?_ | refine ac F F ?_ | refine ad F (aB ‹_›) ?_)
    exact aW 1 ⟨oM,fun _=>rfl,fun h=>absurd h oM⟩ oM tU F aX
   ·repeat' (first | refine jM ?_ | (refine jo ?_;first | refine av F ?_ | refine jV (aw F F oM) ?_ | refine ah F ?_) | refine an F F (aB ‹_›) ?_ | refine ac F F ?_ | refine ad F F ?_)
    exact aW 1 ⟨oM,fun _=>rfl,fun h=>absurd h oM⟩ oM tU F aX
 ·have hy:=hi1 (Nat.le_refl _)
  cases hp : ([110,111] : acA).isPrefixOf s with
  | true =>
   obtain ⟨h1,h2⟩:=(hpf _).1 hp
   have h1' : (((([110,111] : acA).length : Nat) : Int)) ≤ s.length:=oM
   have h2' : s.take (((([110,111] : acA).length : Nat) : Int)).toNat = [110,111]:=h2
   repeat' (first | refine jM ?_ | (refine jo ?_;first | refine aH F ?_ | refine jV (aw F F oM) ?_ | refine ah F ?_) | refine aA F F (ay ‹_›) ?_ | (refine ac F (by first | rfl | (refine decide_eq_true ?_;(assumption))) ?_) | (refine aj (am (id:=17) _ (fun _ h=>h) ai ?_);refine jW 5 [0,1,4,5,6,7] (aa 11 243) ?_;(refine jG (aa 11 247) 2 F (ak F F) ?_);refine jA 3 F ?_;(refine jO fun _=>?_);refine jS (aa 11 255) ?_;refine jT 0 [8,9,10] (aa 11 2047) ?_;refine jQ ?_))
   all_goals
    rename_i y
    refine Nx.sealC (b:=y) fun G2 hG2 hsy=>?_
    refine jZ (vs:=[_,_,_]) F ⟨F,F,F,trivial⟩ F ⟨hG2,F,?_⟩
    rw [aC]
    exact ⟨_,_,_,F,fun _=>⟨.nd 102 [110,111] 0 [],y,F,by unfold dV;rw [hy,if_neg dC,hp,if_pos rfl];rfl,.leaf 102 _ _ _ _ hsy (.inr (.inr ⟨rfl,rfl,rfl,.inr rfl⟩))⟩,fun h=>(by cases h)⟩
  | false =>
   have hn : ¬ ((([110,111] : acA).length : Nat) ≤ s.length ∧ s.take ([110,111] : acA).length = [110,111]):=fun h=>by rw [(hpf _).2 h] at hp;cases hp
   have hn' : ¬ ((((([110,111] : acA).length : Nat) : Int)) ≤ s.length ∧ s.take (((([110,111] : acA).length : Nat) : Int)).toNat = [110,111]):=fun h=>hn ⟨oM,h.2⟩
   by_cases h1' : (((([110,111] : acA).length : Nat) : Int)) ≤ s.length
   ·have h2' : ¬ s.take (((([110,111] : acA).length : Nat) : Int)).toNat = [110,111]:=fun h=>hn' ⟨h1',h⟩
    repeat' (first | refine jM ?_ | (refine jo ?_;first | refine aH F ?_ | refine jV (aw F F oM) ?_ | refine ah F ?_) | refine aA F F (ay ‹_›) ?_ | refine ac F F ?_ | refine ad F (aB ‹_›) ?_)
    exact aW 2 ⟨oM,fun _=>hy,fun _=>rfl⟩ oM tU F aX
   ·repeat' (first | refine jM ?_ | (refine jo ?_;first | refine av F ?_ | refine jV (aw F F oM) ?_ | refine ah F ?_) | refine an F F (aB ‹_›) ?_ | refine ac F F ?_ | refine ad F F ?_)
    exact aW 2 ⟨oM,fun _=>hy,fun _=>rfl⟩ oM tU F aX
 ·repeat' (first | refine jR ?_ | refine ad F F ?_)
  refine jZ (vs:=[_,_,_]) F ⟨F,F,F,trivial⟩ F ⟨Gh.le.refl _,F,?_⟩
  rw [aC]
  exact ⟨_,_,_,F,fun h=>(by cases h),fun _=>by unfold dV;rw [hi1 oM,if_neg dC,hi2 oM,if_neg dC]⟩
theorem qA {u : Value} {x : bP} {s : acA} (hs : s.length ≤ 100000000) (hu : u.oneCell' = true) (hf : bj G (gc x) 4 x.2.fields.length (aF gQ x.2.fields)) (hl : x.2.fields.length ≤ 1000) :
  ao acz 190 [Ag [u],S s,Ag (iR x)] G (fun v=>∃ n,v = Tu [Ag (gQ ((bN x.2.fields n).getD zF)),S (s.dropWhile a7),Bo ((aP (s.takeWhile a7) 200).isSome && (bN x.2.fields n).isSome)] ∧ ∀ m,aP (s.takeWhile a7) 200 = some m → n = m):=by
 have cx_dg:=rS (G:=G) hs
 obtain ⟨e1,e2⟩:=nV a7 s
 have hwl:=dH a7 s
 have hlen : (s.take ((((s.takeWhile a7).length : Nat) : Int)).toNat).length ≤ 100000000:=by rw [e1];omega
 simp only [iR]
 refine jE [(0,_),(1,_),(2,_)] Tryz.func190 Tryz.ntmps190 fun B hB=>?_
 repeat' (first | refine jM ?_ | (refine jo ?_;first | refine jO fun _=>?_ | refine jL fun _=>?_ | refine aK F ?_ | refine ab F F F cx_dg F ?_ | (refine cO F F F (gV oM) F ?_;rintro _ ⟨n,rfl,hnum⟩)))
 rename_i n
 have cx_fld:=gW (G:=G) (tag:=n) hf hl
 rw [e1] at hnum
 cases hm : (aP (s.take ((((s.takeWhile a7).length : Nat) : Int)).toNat) 200).isSome with
 | false =>
  repeat' (first | refine jR ?_ | (refine jo ?_;first | refine jL fun _=>?_ | refine jC F F F ?_ | refine ab F F F cx_fld F ?_) | (refine aj (dU (id:=4) (tt:=6) F ai ?_);refine jW 6 [1,2,3,4,5] (aa 11 62) ?_;(try (refine Nx.re (d:=34) (v':=Bo false) F (congrArg Value.bool F) ?_));refine jW 5 [6] (aa 11 126) ?_;(refine jG (aa 11 127) 0 F (bB F F F F) ?_);((refine jG (aa 11 255) 7 F (aG F F ?_) ?_;(focus ((rfl);done))));refine jA 8 F ?_;(refine jC F F F ?_);refine jK (aa 11 511) ?_;refine jW 0 [9,10] (aa 11 2047) ?_;refine jQ ?_))
  all_goals refine jZ (vs:=[_,_,_]) F ⟨aD F F F F,F,F,trivial⟩ F ⟨F,F,?_⟩
  all_goals (rw [aC];exact ⟨n,by rw [e1] at hm;rw [hm,e2];rfl,hnum⟩)
 | true =>
  repeat' (first | refine jR ?_ | (refine jo ?_;first | refine jL fun _=>?_ | refine jC F F F ?_ | refine ab F F F cx_fld F ?_) | (refine aj (dU (id:=4) (tt:=6) F ai ?_);refine jW 6 [1,2,3,4,5] (aa 11 62) ?_;(try (refine Nx.re (d:=34) (v':=Bo true) F (congrArg Value.bool F) ?_));refine jW 5 [6] (aa 11 126) ?_;(refine jG (aa 11 127) 0 F (bB F F F F) ?_);((refine jG (aa 11 255) 7 F (aY F F ?_) ?_;(focus ((rfl);done))));refine jA 8 F ?_;(refine jC F F F ?_);refine jK (aa 11 511) ?_;refine jW 0 [9,10] (aa 11 2047) ?_;refine jQ ?_))
  all_goals refine jZ (vs:=[_,_,_]) F ⟨aD F F F F,F,F,trivial⟩ F ⟨F,F,?_⟩
  all_goals (rw [aC];exact ⟨n,by rw [e1] at hm;rw [hm,e2];rfl,hnum⟩)
def gE (v : V) : Prop:=v.out.length + 1 ≤ 2 * v.tot
theorem jp : ∀ {ks : List V},(∀ v ∈ ks,gE v) → da (V.outs ks) + ks.length ≤ 2 * V.tots ks
 | [],_=>by simp [V.outs,da]
 | v :: r,h=>by
  have h1:=h v (.head _)
  have h2:=jp fun u hu=>h u (.tail _ hu)
  unfold gE at h1
  simp only [V.outs,da,List.map_cons,List.sum_cons,V.tots,List.length_cons] at *
  omega
theorem fE {w : Nat} {x : acA} {t : Int} {ks : List V} (h : ∀ v ∈ ks,gE v) (ht : t ≤ 999999) : gE (.nd w x t ks):=by
 have h1:=jp h
 have h2:=fx 44 (V.outs ks)
 rw [iY] at h2
 have h4:=qU (w:=w) (x:=x) (e:=ks.isEmpty) (j:=aU 44 (V.outs ks)) ht
 have h5:=d5 ks
 unfold gE
 rw [V.out,V.tot]
 omega
theorem oz {α : Type} [Inhabited α] {l : List α} {x : α} (h : x ∈ l) : ∃ i,i < l.length ∧ ae l i = x:=by
 obtain ⟨i,hi,rfl⟩:=List.mem_iff_getElem.1 h
 exact ⟨i,hi,aV hi⟩
theorem fT {ts : List Ty} (hw : SchW ts) {k : acA} {t : Ty} (h : aZ ts k = some t) {d : Fld} (hd : d ∈ t.fields) : d.tag ≤ 999999 ∧ 0 ≤ d.tag:=by
 have:=((hw.ty t (ce h)).fld d hd).tag
 omega
theorem fc {ts : List Ty} {k : acA} {t : Ty} (h : aZ ts k = some t) : ∃ r,k = 64 :: r:=by
 unfold aZ at h
 cases k with
 | nil=>cases h
 | cons c r =>
  unfold bG at h
  dsimp only at h
  by_cases h64 : c.toNat = 64
  ·exact ⟨r,by rw [show c = 64 from UInt8.toNat_inj.1 h64]⟩
  ·rw [if_neg h64] at h;cases h
theorem kT {ts : List Ty} (hw : SchW ts) {v : V} {k : acA} {b : Nat} (h : RepR G ts v k b) : gE v:=by
 induction h with
 | leaf w x k tx b h1 h2=>exact fE (by simp) dC
 | lst k b ks bs a c h1 h2 h3 _ ih =>
  exact fE (fun v hv=>by obtain ⟨i,hi,rfl⟩:=oz hv;exact ih i hi) dC
 | non k b h1=>exact fE (by simp) dC
 | opt k b kb b' cc v h0 h1 h2 _ ih=>exact fE (fun u hu=>by simp only [List.mem_singleton] at hu;subst hu;exact ih) dC
 | recd k b t fs bs a a2 c c2 h0 h1 h2 h3 h4 h5 _ ih =>
  refine fE (fun v hv=>?_) dC
  obtain ⟨p,hp,rfl⟩:=List.mem_map.1 hv
  obtain ⟨i,hi,rfl⟩:=oz hp
  exact fE (fun u hu=>by simp only [List.mem_singleton] at hu;subst hu;exact ih i hi) (fT hw h0.1 (h5 i hi)).1
 | enm k b tgb t d h0 h1 h2 h3=>exact fE (by simp) (fT hw h0.1 h1).1
 | uni k b tgb kb b' cc t d v hcc h0 h1 h2 h3 h4 _ ih=>exact fE (fun u hu=>by simp only [List.mem_singleton] at hu;subst hu;exact ih) (fT hw h0.1 h1).1
theorem oB {c : UInt8} {xs : List acA} {i : Nat} (h : i < xs.length) : aU c (xs.take (i + 1)) = if 0 < i then aU c (xs.take i) ++ c :: ae xs i else ae xs i:=by
 rw [eS h]
 by_cases hi : 0 < i
 ·rw [if_pos hi,kW]
  rw [ne_eq,List.take_eq_nil_iff]
  rintro (h0 | h0)
  ·omega
  ·subst h0;simp at h
 ·have : i = 0:=oM
  subst this;rfl
theorem ii {ts : List Ty} (hw : SchW ts) {v : V} {k : acA} {b : Nat} (h : RepR G ts v k b) : v.tot ≤ 1000000000000 → ao acz 77 [Pt b 0] G (· = S v.out):=by
 induction h with
 | leaf w x k tx b h1 h2 =>
  intro _
  rcases h2 with ⟨rfl,rfl,rfl,_⟩ | ⟨rfl,rfl,rfl⟩ | ⟨rfl,rfl,rfl,_⟩
  all_goals
   refine jE [(0,_)] Tryz.func77 Tryz.ntmps77 fun B hB=>?_
   repeat' (first | refine jX ?_ | (refine jo ?_;refine jV (aJ F F aS F F) ?_) | refine ad F F ?_)
   refine jY (vs:=[_]) ?_
   rw [ax,V.out];rfl
 | lst k b ks bs a c h1 h2 h3 hk ih =>
  intro ht
  rw [bY] at ht
  have hb:=jp (ks:=ks) fun v hv=>by obtain ⟨i,hi,rfl⟩:=oz hv;exact kT hw (hk i hi)
  have hol:=iY ks
  refine jE [(0,_)] Tryz.func77 Tryz.ntmps77 fun B hB=>?_
  repeat' (first | refine jX ?_ | (refine jo ?_;refine jV (aJ F F aS F F) ?_) | refine ac F F ?_)
  refine aR (ι:=Nat) (fun i=>i ≤ ks.length) (fun i=>[(0,Pt b 0),(3,S (91 :: aU 44 ((V.outs ks).take i))),(4,I i)]) (fun _=>G) (fun i=>[]) (fun i=>ks.length - i) 0 ?_ tU F aX (fun i Hi=>?_)
  ·exact Nat.zero_le _
  have hj1:=fx 44 ((V.outs ks).take i)
  have hj2:=eh (V.outs ks) i
  have hj3 : ((V.outs ks).take i).length ≤ ks.length:=by rw [List.length_take];omega
  by_cases hi : i < ks.length
  ·have hti:=f9 hi
   have cx_out:=ih i hi oM
   have hou:=kS hi
   have hxi : ae bs i = ae bs i:=rfl
   have hob:=kT hw (hk i hi)
   unfold gE at hob
   have hst:=oB (c:=44) (xs:=V.outs ks) (i:=i) oM
   rw [hou] at hst
   obtain ⟨kb,ko,kc,e,hs⟩:=h2.expl oM
   simp only [Value.slice.injEq] at e
   obtain ⟨rfl,-,rfl⟩:=e
   by_cases h0 : 0 < i
   ·rw [if_pos h0] at hst
    repeat' (first | refine jX ?_ | (refine jo ?_;first | refine jV (aJ F F aS F F) ?_ | (refine jV (fJ F F aS ?_ aS F) ?_;focus omega) | refine jV (ar F) ?_ | refine jV (aw F F oM) ?_ | refine ab F F F cx_out F ?_) | refine ac F (ay oM) ?_)
    refine Nx.re (d:=3) (v':=S (91 :: aU 44 ((V.outs ks).take (i + 1)))) F (congrArg (fun l=>S l) (by rw [hst];simp)) ?_
    exact aW (i + 1) oM oM tU F aX
   ·rw [if_neg h0] at hst
    have hi0 : i = 0:=oM
    subst hi0
    repeat' (first | refine jX ?_ | (refine jo ?_;first | (refine jV (iJ F F aS ?_ aS F F) ?_;focus omega) | refine jV (aJ F F aS F F) ?_ | refine jV (ar F) ?_ | refine jV (aw F F oM) ?_ | refine ab F F F cx_out F ?_) | refine ac F (ay oM) ?_ | refine ad F F ?_)
    refine Nx.re (d:=3) (v':=S (91 :: aU 44 ((V.outs ks).take (0 + 1)))) F (congrArg (fun l=>S l) (by rw [hst];rfl)) ?_
    exact aW (0 + 1) oM oM tU F aX
  ·have hin : i = ks.length:=oM
   subst hin
   repeat' (first | refine jX ?_ | (refine jo ?_;first | refine jV (aJ F F aS F F) ?_ | refine jV (ar F) ?_) | refine ad F (aB oM) ?_)
   refine jY (vs:=[_]) ?_
   rw [ax,V.out,← hol,List.take_length];rfl
 | non k b h1 =>
  intro _
  refine jE [(0,_)] Tryz.func77 Tryz.ntmps77 fun B hB=>?_
  repeat' (first | refine jX ?_ | (refine jo ?_;first | refine jV (aJ F F aS F F) ?_ | refine jV (ar F) ?_) | refine ac F F ?_ | refine ad F F ?_)
  refine jY (vs:=[_]) ?_
  rfl
 | opt k b kb b' cc v h0 h1 h2 h3 ih =>
  intro ht
  simp only [bY,V.tots] at ht
  have cx_out:=ih oM
  have hob:=kT hw h3
  unfold gE at hob
  refine jE [(0,_)] Tryz.func77 Tryz.ntmps77 fun B hB=>?_
  repeat' (first | refine jX ?_ | (refine jo ?_;first | refine jV (aJ F F aS F F) ?_ | refine jV (ar F) ?_ | refine jV (aQ F F oM) ?_ | refine ab F F F cx_out F ?_) | refine ac F F ?_ | refine ad F F ?_)
  refine jY (vs:=[_]) ?_
  rw [ax,V.out];rfl
 | recd k b t fs bs a a2 c c2 h0 h1 h2 h3 h4 h5 hk ih =>
  intro ht
  obtain ⟨r,rfl⟩:=fc h0.1
  rw [bY] at ht
  have hB1 : ∀ v ∈ fs.map (fun p : Fld × V=>V.nd 61 [] p.1.tag [p.2]),gE v:=fun v hv=>by
   obtain ⟨p,hp,rfl⟩:=List.mem_map.1 hv
   obtain ⟨i,hi,rfl⟩:=oz hp
   exact fE (fun u hu=>by simp only [List.mem_singleton] at hu;subst hu;exact kT hw (hk i hi)) (fT hw h0.1 (h5 i hi)).1
  have hb:=jp hB1
  have hml : (fs.map (fun p : Fld × V=>V.nd 61 [] p.1.tag [p.2])).length = fs.length:=by simp
  have hol:=iY (fs.map (fun p : Fld × V=>V.nd 61 [] p.1.tag [p.2]))
  have hnt : ∀ i,i < fs.length → ae (fs.map (fun p : Fld × V=>V.nd 61 [] p.1.tag [p.2])) i = V.nd 61 [] (ae fs i).1.tag [(ae fs i).2]:=fun i hi=>by rw [aV (by simpa using hi),aV hi];simp
  generalize hKS : fs.map (fun p : Fld × V=>V.nd 61 [] p.1.tag [p.2]) = KS at *
  have cx_nmd : ao acz 113 [Pt b 0] G (· = S (V.out (.nd 82 [] 0 KS))):=by
   refine jE [(0,_)] Tryz.func113 Tryz.ntmps113 fun B hB=>?_
   repeat' (first | refine jR ?_ | (refine jo ?_;refine jV (aJ F F aS F F) ?_) | refine ad F F ?_)
   refine aR (ι:=Nat) (fun i=>i ≤ fs.length) (fun i=>[(0,Pt b 0),(3,S (123 :: aU 44 ((V.outs KS).take i))),(4,I i)]) (fun _=>G) (fun i=>[]) (fun i=>fs.length - i) 0 ?_ tU F aX (fun i Hi=>?_)
   ·exact Nat.zero_le _
   have hj1:=fx 44 ((V.outs KS).take i)
   have hj2:=eh (V.outs KS) i
   have hj3 : ((V.outs KS).take i).length ≤ fs.length:=by rw [List.length_take];omega
   by_cases hi : i < fs.length
   ·have hti:=f9 (ks:=KS) (i:=i) oM
    rw [hnt i hi] at hti
    simp only [bY,V.tots] at hti
    have cx_out:=ih i hi oM
    have hou:=kS (ks:=KS) (i:=i) oM
    rw [hnt i hi,ge] at hou
    have hxi : ae bs i = ae bs i:=rfl
    have htg:=fT hw h0.1 (h5 i hi)
    have hdl:=fM htg.1
    have hob:=kT hw (hk i hi)
    unfold gE at hob
    have hst:=oB (c:=44) (xs:=V.outs KS) (i:=i) oM
    rw [hou] at hst
    have htn : ae (fs.map fun p : Fld × V=>p.1.tag) i = (ae fs i).1.tag:=by rw [aV (by simpa using hi),aV hi];simp
    have htl : (fs.map fun p : Fld × V=>p.1.tag).length = fs.length:=by simp
    obtain ⟨tgb,to,tc,e,hs1⟩:=h2.expl oM
    simp only [Value.slice.injEq] at e
    obtain ⟨rfl,-,rfl⟩:=e
    obtain ⟨kb,ko,kc,e,hs2⟩:=h3.expl oM
    simp only [Value.slice.injEq] at e
    obtain ⟨rfl,-,rfl⟩:=e
    by_cases hp0 : 0 < i
    ·rw [if_pos hp0] at hst
     repeat' (first | refine jX ?_ | (refine jo ?_;first | refine jV (aJ F F aS F F) ?_ | refine jV (ar F) ?_) | refine ac F (ay oM) ?_ | (refine aj (am (id:=12) _ (fun _ h=>h) ai ?_);refine jT 12 [0,1,2,3,5,11,12,13,15] (aa 21 47151) ?_;(refine jG (aa 21 47167) 4 F (aJ F F aS F F) ?_);(refine jG (aa 21 47231) 6 F (aw F F oM) ?_);((refine jG (aa 21 47359) 7 F (fJ F F aS ?_ aS F) ?_;focus omega));(refine jG (aa 21 63743) 14 F (aJ F F aS F F) ?_);(refine jG (aa 21 129279) 16 F (aw F F oM) ?_);((refine jG (aa 21 260351) 17 F (fJ F F aS ?_ aS F) ?_;focus omega));refine jA 8 F ?_;(refine ab F F F (eL oM) F ?_);refine jS (aa 21 260607) ?_;refine jW 3 [9,10] (aa 21 262143) ?_;refine jA 18 F ?_;(refine ab F F F cx_out F ?_);refine jS (aa 21 524287) ?_;refine jW 0 [19,20] (aa 21 2097151) ?_;refine jQ ?_))
     all_goals
      refine Nx.re (d:=3) (v':=S (123 :: aU 44 ((V.outs KS).take (i + 1)))) F (congrArg (fun l=>S l) (by rw [hst];simp)) ?_
      exact aW (i + 1) oM oM tU F aX
    ·rw [if_neg hp0] at hst
     have hi0 : i = 0:=oM
     subst hi0
     repeat' (first | refine jM ?_ | (refine jo ?_;first | refine jV (aJ F F aS F F) ?_ | refine jV (ar F) ?_) | refine ac F (ay oM) ?_ | refine ad F F ?_ | (refine aj (am (id:=12) _ (fun _ h=>h) ai ?_);refine jT 12 [0,1,2,3,5,11,12,13,15] (aa 21 47151) ?_;(refine jG (aa 21 47167) 4 F (aJ F F aS F F) ?_);(refine jG (aa 21 47231) 6 F (aw F F oM) ?_);((refine jG (aa 21 47359) 7 F (fJ F F aS ?_ aS F) ?_;focus omega));(refine jG (aa 21 63743) 14 F (aJ F F aS F F) ?_);(refine jG (aa 21 129279) 16 F (aw F F oM) ?_);((refine jG (aa 21 260351) 17 F (iJ F F aS ?_ aS F F) ?_;focus omega));refine jA 8 F ?_;(refine ab F F F (eL oM) F ?_);refine jS (aa 21 260607) ?_;refine jW 3 [9,10] (aa 21 262143) ?_;refine jA 18 F ?_;(refine ab F F F cx_out F ?_);refine jS (aa 21 524287) ?_;refine jW 0 [19,20] (aa 21 2097151) ?_;refine jQ ?_))
     all_goals
      refine Nx.re (d:=3) (v':=S (123 :: aU 44 ((V.outs KS).take (0 + 1)))) F (congrArg (fun l=>S l) (by rw [hst];simp [aU])) ?_
      exact aW (0 + 1) oM oM tU F aX
   ·have hin : i = fs.length:=oM
    repeat' (first | refine jX ?_ | (refine jo ?_;first | refine jV (aJ F F aS F F) ?_ | refine jV (ar F) ?_) | refine ad F (aB oM) ?_)
    refine jY (vs:=[_]) ?_
    rw [ax,V.out,hin,← hml,← hol,List.take_length];rfl
  refine jE [(0,_)] Tryz.func77 Tryz.ntmps77 fun B hB=>?_
  repeat' (first | refine jX ?_ | (refine jo ?_;first | refine jV (aJ F F aS F F) ?_ | refine ab F F F cx_nmd F ?_) | refine ac F F ?_ | refine ad F F ?_)
  refine jY (vs:=[_]) ?_
  rfl
 | enm k b tgb t d h0 h1 h2 h3 =>
  intro _
  obtain ⟨r,rfl⟩:=fc h0.1
  have htg:=fT hw h0.1 h1
  have hdl:=fM htg.1
  have cx_nmd : ao acz 113 [Pt b 0] G (· = S (V.out (.nd 69 [] d.tag []))):=by
   refine jE [(0,_)] Tryz.func113 Tryz.ntmps113 fun B hB=>?_
   repeat' (first | refine jX ?_ | (refine jo ?_;first | refine jV (aJ F F aS F F) ?_ | refine jV (aQ F F oM) ?_ | refine ab F F F (eL oM) F ?_) | refine ac F F ?_ | refine ad F F ?_)
   refine jY (vs:=[_]) ?_
   rw [ax,V.out];rfl
  refine jE [(0,_)] Tryz.func77 Tryz.ntmps77 fun B hB=>?_
  repeat' (first | refine jX ?_ | (refine jo ?_;first | refine jV (aJ F F aS F F) ?_ | refine ab F F F cx_nmd F ?_) | refine ac F F ?_ | refine ad F F ?_)
  refine jY (vs:=[_]) ?_
  rfl
 | uni k b tgb kb b' cc t d v hcc h0 h1 h2 h3 h4 hk ih =>
  intro ht
  obtain ⟨r,rfl⟩:=fc h0.1
  have htg:=fT hw h0.1 h1
  have hdl:=fM htg.1
  simp only [bY,V.tots] at ht
  have cx_out:=ih oM
  have hob:=kT hw hk
  unfold gE at hob
  have cx_nmd : ao acz 113 [Pt b 0] G (· = S (V.out (.nd 85 [] d.tag [v]))):=by
   refine jE [(0,_)] Tryz.func113 Tryz.ntmps113 fun B hB=>?_
   repeat' (first | refine jR ?_ | (refine jo ?_;refine jV (aJ F F aS F F) ?_) | refine ac F F ?_ | (refine aj (am (id:=3) _ (fun _ h=>h) ai ?_);refine jT 13 [0,1,2,9,10,11] (aa 19 3591) ?_;(refine jG (aa 19 3599) 3 F (aJ F F aS F F) ?_);(refine jG (aa 19 3615) 4 F (aQ F F oM) ?_);(refine jG (aa 19 3647) 5 F (aJ F F aS F F) ?_);(refine jG (aa 19 7743) 12 F (aJ F F aS F F) ?_);(refine jG (aa 19 15935) 13 F (aQ F F oM) ?_);(refine jG (aa 19 32319) 14 F (aJ F F aS F F) ?_);refine jA 6 F ?_;(refine ab F F F (eL oM) F ?_);refine jS (aa 19 32383) ?_;refine jW 4 [7,8] (aa 19 32767) ?_;refine jA 15 F ?_;(refine ab F F F cx_out F ?_);refine jS (aa 19 65535) ?_;refine jW 0 [16,17,18] (aa 19 524287) ?_;refine jQ ?_))
   all_goals refine jY (vs:=[_]) ?_
   all_goals (rw [ax,V.out];simp [V.outs,dh,aU])
  clear cx_out
  refine jE [(0,_)] Tryz.func77 Tryz.ntmps77 fun B hB=>?_
  repeat' (first | refine jX ?_ | (refine jo ?_;first | refine jV (aJ F F aS F F) ?_ | refine ab F F F cx_nmd F ?_) | refine ac F F ?_ | refine ad F F ?_)
  refine jY (vs:=[_]) ?_
  rfl
abbrev zi : TypeId:=60
abbrev zh : TypeId:=114
def j7 (n : Nat) (u : Value) (vs : List bP) : Prop:=∀ (G : Gh) (k s : acA),SchR G u vs → aM (ag vs) k = true → s.length ≤ 2000000 →
 bo acz 114 [Ag [u],S s,S k,I (n : Nat)] G (cm (ag vs) (rd (ag vs) n k s) k)
theorem yH {n : Nat} {u : Value} {vs : List bP} {k s : acA} (hR : j7 n u vs) (h : SchR G u vs) (hk : aM (ag vs) k = true) (hs : s.length ≤ 2000000) (hn : n ≤ 1000) :
  bo acz 152 [Ag [u],S s,S (91 :: k),I (n + 1 : Nat)] G (cm (ag vs) (eI (rd (ag vs) n k) (91 :: s)) (91 :: k)):=by
 have edn : ((n + 1 : Nat) : Int) - 1 = (n : Nat):=oM
 by_cases h93 : ∃ s2,s = 93 :: s2
 ·obtain ⟨s2,rfl⟩:=h93
  refine jB [(0,_),(1,_),(2,_),(3,_)] Tryz.func152 Tryz.ntmps152 fun B hok hB hW=>?_
  repeat' (first | refine jX ?_ | (refine jo ?_;first | refine jO fun _=>?_ | refine jV (ak F F) ?_ | refine aH F ?_) | refine aA F F F ?_ | refine ac F F ?_ | (refine aj (am (id:=3) _ (fun _ h=>h) ai ?_);refine jW 0 [0,1,2,3,4,5] (aa 6 63) ?_;refine jQ ?_))
  rename_i x4 x11
  refine Nx.sealC (b:=x11) fun G2 hG2 hsy=>?_
  refine jZ (vs:=[_,_,_]) F ⟨F,F,F,trivial⟩ F ⟨hG2,F,?_⟩
  rw [aC]
  exact ⟨_,_,_,F,fun _=>⟨.nd 91 [] 0 [],x11,F,F,.lst k x11 [] [] none 0 hsy ⟨F,.inl ⟨F,F⟩⟩ F (fun i hi=>absurd hi (by simp))⟩,fun h=>(by cases h)⟩
 have hRl : eI (rd (ag vs) n k) (91 :: s) = (be (rd (ag vs) n k) 20 s []).map fun x=>(.nd 91 [] 0 x.1,x.2):=by
  unfold eI
  dsimp only
  rw [if_pos (show (91 : UInt8).toNat = 91 from rfl)]
  cases s with
  | nil =>
   have : rd (ag vs) n k [] = none:=by
    cases h : rd (ag vs) n k [] with
    | none=>rfl
    | some x=>have:=gI h;simp at this
   simp [be,this]
  | cons e r' =>
   dsimp only
   rw [if_neg]
   intro h;exact h93 ⟨r',by rw [show e = 93 from UInt8.toNat_inj.1 h]⟩
 have hs0 : s = [] ∨ s ≠ [] ∧ ¬ ((bt s (Int.toNat 0) : Nat) : Int) = 93:=by
  cases s with
  | nil=>exact .inl F
  | cons e r' =>
   refine .inr ⟨by simp,fun h=>h93 ⟨r',?_⟩⟩
   have : bt (e :: r') (Int.toNat 0) = e.toNat:=bh e r'
   rw [show e = 93 from UInt8.toNat_inj.1 (show e.toNat = 93 by omega)]
 have hkl : k.length ≤ 1000:=by
  have:=(cN (cZ hk)).2
  omega
 have hslen : s = [] ∨ 0 < s.length:=by cases s <;> simp
 rcases hs0 with hs0 | ⟨hs0,hs1⟩
 all_goals
  have hslen2 : s ≠ [] → 0 < s.length:=fun h=>by rcases hslen with h' | h';exact absurd h' h;exact h'
  try have hslen3:=hslen2 hs0
  refine jB [(0,_),(1,_),(2,_),(3,_)] Tryz.func152 Tryz.ntmps152 fun B hok hB hW=>?_
  repeat' (first | refine jM ?_ | (refine jo ?_;first | refine jO fun _=>?_ | refine jV (ak F F) ?_ | refine aH F ?_ | refine av F ?_) | refine aA F F (ay ‹_›) ?_ | (refine an F F ?_ ?_;(focus ((simp [*];done);done))) | (refine ad F (by first | rfl | (refine decide_eq_false ?_;(assumption))) ?_))
  rename_i x4 x11
  refine Nx.addNil zi 1 ?_
  refine aR (ι:=List V × List Nat × Option Addr × Nat × acA × Gh) (fun q=>((q.2.1.length = q.1.length ∧ ∀ i,i < q.1.length → RepR q.2.2.2.2.2 (ag vs) (ae q.1 i) k (ae q.2.1 i)) ∧ Gh.le G q.2.2.2.2.2) ∧ be (rd (ag vs) n k) 20 s [] = be (rd (ag vs) n k) (20 - q.1.length) q.2.2.2.2.1 q.1 ∧ q.1.length ≤ 20 ∧ q.2.2.2.2.1.length ≤ s.length) (fun q=>[(1,S q.2.2.2.2.1),(2,S (91 :: k)),(3,I (n + 1 : Nat)),(4,Pt x4 0),(11,Pt x11 0)]) (fun q=>q.2.2.2.2.2) (fun q=>[.acc (.slice q.2.2.1 q.1.length q.2.2.2.1) zi 1 q.1.length (aF eE q.2.1),.blk x11 (.cells (List.toArray [S (91 :: k),S [],aL,.slice q.2.2.1 q.1.length q.2.2.2.1]) pI (0,0)),.blk x4 (.cells (List.toArray [u]) zh (0,0))]) (fun q=>20 - q.1.length) ([],[],none,0,s,G) ?_ tU F aX (fun q Hq=>?_)
  ·exact ⟨⟨⟨F,fun i hi=>absurd hi (by simp)⟩,Gh.le.refl _⟩,F,Nat.zero_le _,Nat.le_refl _⟩
  obtain ⟨ws,bs,a,cap,t,Gq⟩:=q
  dsimp only at Hq ⊢
  obtain ⟨⟨⟨hbl,hreps⟩,hgq⟩,hit,hwl,htl⟩:=Hq
  by_cases h20 : ws.length < 20
  case neg =>
   have e20 : 20 - ws.length = 0:=oM
   repeat' (first | refine jR ?_ | (refine jo ?_;first | refine ah F ?_ | refine jV (ar F) ?_) | refine ad F (aB oM) ?_)
   refine jZ (vs:=[_,_,_]) F ⟨F,F,F,trivial⟩ F ⟨hgq,F,?_⟩
   rw [aC]
   exact ⟨_,_,_,F,fun h=>(by cases h),fun _=>by rw [hRl,hit,e20];rfl⟩
  have cx_rd:=hR Gq k t (h.mono hgq) hk oM
  rw [← edn] at cx_rd
  repeat' (first | refine jR ?_ | (refine jo ?_;first | refine ah F ?_ | refine jV (ar F) ?_) | refine ac F (ay oM) ?_)
  (refine aj (am (id:=5) _ (fun _ h=>h) ai ?_);refine jW 9 [1,2,3,4,5] (aa 14 62) ?_;(refine jG (aa 14 63) 0 F (bB F F F F) ?_);refine jA 6 F ?_;(refine aI F F F cx_rd F ?_;rintro _ G hle ⟨q1,r1,ok1,rfl,hyes,hno⟩;skip);refine jS (aa 14 127) ?_;refine jT 0 [7,8,9,10,11,12,13] (aa 14 16383) ?_;refine jQ ?_)
  have hgl:=hgq.trans hle
  cases ok1 with
  | false =>
   have hnone : be (rd (ag vs) n k) (20 - ws.length) t ws = none:=iD (.inl (hno rfl))
   repeat' (first | refine jR ?_ | (refine jo ?_;refine aH F ?_) | refine aA F F F ?_ | refine ac F F ?_)
   refine jZ (vs:=[_,_,_]) F ⟨F,F,F,trivial⟩ F ⟨hgl,F,?_⟩
   rw [aC]
   exact ⟨_,_,_,F,fun h=>(by cases h),fun _=>by rw [hRl,hit,hnone];rfl⟩
  | true =>
   obtain ⟨w,wb,rfl,hf,hrep⟩:=hyes rfl
   have hsh:=gI hf
   cases r1 with
   | nil =>
    have hnone : be (rd (ag vs) n k) (20 - ws.length) t ws = none:=iD (.inr ⟨w,hf⟩)
    repeat' (first | refine jR ?_ | (refine jo ?_;first | refine aH F ?_ | refine av F ?_) | refine aA F F F ?_ | refine an F F F ?_ | refine ac F F ?_)
    refine jZ (vs:=[_,_,_]) F ⟨F,F,F,trivial⟩ F ⟨hgl,F,?_⟩
    rw [aC]
    exact ⟨_,_,_,F,fun h=>(by cases h),fun _=>by rw [hRl,hit,hnone];rfl⟩
   | cons e r2 =>
    have hstep:=iC (vs:=ws) hf (show 0 < 20 - ws.length by omega)
    have he0 : bt (e :: r2) (Int.toNat 0) = e.toNat:=bh e r2
    simp only [List.length_cons] at hsh
    have hel : (e :: r2).length = r2.length + 1:=rfl
    have hrow : aF eE bs ++ [Pt wb 0] = aF eE (bs ++ [wb]):=(cj eE bs wb).symm
    have hwl1 : (ws ++ [w]).length = ws.length + 1:=by simp
    have hbl1 : (bs ++ [wb]).length = (ws ++ [w]).length:=by simp [hbl]
    have hrp : ∀ i,i < (ws ++ [w]).length → RepR G (ag vs) (ae (ws ++ [w]) i) k (ae (bs ++ [wb]) i):=fun i hi=>by
     by_cases h1 : i < ws.length
     ·have e1 : ae (ws ++ [w]) i = ae ws i:=by rw [aV hi,aV h1,List.getElem_append_left h1]
      have e2 : ae (bs ++ [wb]) i = ae bs i:=by rw [aV oM,aV oM,List.getElem_append_left oM]
      rw [e1,e2];exact (hreps i h1).mono hle
     ·have h2 : i = ws.length:=oM
      have e1 : ae (ws ++ [w]) i = w:=by rw [aV hi];simp [h2]
      have e2 : ae (bs ++ [wb]) i = wb:=by rw [aV oM];simp [h2,hbl]
      rw [e1,e2];exact hrep
    by_cases h44 : e.toNat = 44
    ·rw [if_pos h44] at hstep
     have hn93 : ¬ e.toNat = 93:=oM
     repeat' (first | refine jM ?_ | (refine jo ?_;first | refine av F ?_ | refine ah F ?_ | refine jF fun _=>?_ | refine bW F F F F F F F F F oM fun _ _=>?_ | refine jD F F F ?_) | (refine an F F (by first | rfl | (refine decide_eq_false ?_;(omega))) ?_) | (refine ad F (by first | rfl | (refine decide_eq_false ?_;(omega))) ?_))
     rename_i y0 y1 yc
     rw [hrow]
     exact aW (ws ++ [w],bs ++ [wb],some ⟨y1,0,none⟩,yc,r2,G) ⟨⟨⟨hbl1,hrp⟩,hgl⟩,(by dsimp only;rw [hit,hstep,hwl1,Nat.sub_sub]),(by dsimp only;omega),(by dsimp only;omega)⟩ (by dsimp only;omega) tU rfl (by rw [hwl1];repeat (first | exact List.Sublist.refl _ | apply List.Sublist.cons_cons | apply List.Sublist.cons))
    ·rw [if_neg h44] at hstep
     by_cases h93' : e.toNat = 93
     ·rw [if_pos h93'] at hstep
      repeat' (first | refine jM ?_ | (refine jo ?_;first | refine aH F ?_ | refine av F ?_ | refine ah F ?_ | refine jF fun _=>?_ | refine bW F F F F F F F F F oM fun _ _=>?_ | refine jD F F F ?_) | refine aA F F (ay oM) ?_ | refine an F F F ?_ | refine ac F (ay oM) ?_ | refine ad F (aB oM) ?_)
      rename_i y0 y1 yc
      rw [hrow]
      refine Nx.sealS (v:=.slice (some ⟨y1,0,none⟩) (ws.length + 1) yc) fun G2 hG2 hsl=>?_
      refine Nx.sealC (b:=x11) fun G3 hG3 hsg=>?_
      refine jZ (vs:=[_,_,_]) F ⟨F,F,F,trivial⟩ F ⟨((hgl.trans hG2).trans hG3),F,?_⟩
      rw [aC]
      exact ⟨_,_,_,F,fun _=>⟨.nd 91 [] 0 (ws ++ [w]),x11,F,by rw [hRl,hit,hstep];rfl,.lst k x11 _ (bs ++ [wb]) (some ⟨y1,0,none⟩) yc (by rw [hwl1];exact hsg) (by rw [hwl1];exact hsl.mono hG3) hbl1 (fun i hi=>(hrp i hi).mono (hG2.trans hG3))⟩,fun h=>(by cases h)⟩
     ·rw [if_neg h93'] at hstep
      repeat' (first | refine jM ?_ | (refine jo ?_;first | refine aH F ?_ | refine av F ?_) | refine aA F F (ay oM) ?_ | refine an F F F ?_ | refine ac F (ay oM) ?_)
      refine jZ (vs:=[_,_,_]) F ⟨F,F,F,trivial⟩ F ⟨hgl,F,?_⟩
      rw [aC]
      exact ⟨_,_,_,F,fun h=>(by cases h),fun _=>by rw [hRl,hit,hstep];rfl⟩
section
variable {P : Program} {n : Nat} {D : List Deferred} {E : bn} {M : World → Prop} {d : Option Nat} {ty : TypeId} {pos : String} {aft : Array Edge} {gd : Option (Nat × Bool)}
theorem u9 {T T0 : TypeId} {x : Operand} {desc : TypeDesc} {size bytes b m cap i : Nat} {zero : Value} {G0 : Gh} {L0 : List Own} {cs : List Int} {xs : List Value} {y : Int} [TI P T desc size bytes zero] [Kn M G0 L0] [h : AccB L0 b m cap T0 1 xs] (hx : ev E x = some (Pt b (0 + i * 1))) (ha : c9 desc = false) (hxs : xs = aF gg cs) (hi : i < cs.length) (hy : ae cs i = y) :
  Gives P n D E M ⟨d,.load T x,ty,pos,aft,gd⟩ (I y):=e8 hx ha (by
 have:=(eO (S:=M) h.mem).go (i * 1 + 0) (I y) (by rw [hxs,eT hi oM,hy];rfl)
 simpa using this)
end
def g8 (fs : List (Fld × V)) : Int:=match fs.getLast? with
 | some p=>p.1.tag
 | none=>0
def gp (fs : List (Fld × V)) : List V:=fs.map fun p=>.nd 61 [] p.1.tag [p.2]
theorem tV (fs : List (Fld × V)) (p : Fld × V) : g8 (fs ++ [p]) = p.1.tag:=by simp [g8]
abbrev w4 : TypeId:=60
abbrev w7 : TypeId:=3
abbrev tFd : TypeId:=150
abbrev zd : TypeId:=146
theorem vC {n : Nat} {u : Value} {vs : List bP} {x : bP} {k s : acA} (hR : j7 n u vs) (h : SchR G u vs) (hw : SchW (ag vs)) (hx : x ∈ vs) (hrf : aZ (ag vs) k = some x.2) (hso : x.2.sort = 82) (hs : s.length ≤ 2000000) (hn : n ≤ 1000) (hkl : k.length ≤ 1000) :
  bo acz 189 [Ag [u],S s,S k,Ag (iR x),I (n + 1 : Nat)] G (cm (ag vs) (a8 (ag vs) (rd (ag vs) n) x.2 (123 :: s)) k):=by
 have edn : ((n + 1 : Nat) : Int) - 1 = (n : Nat):=oM
 have hxt : x.2 ∈ ag vs:=List.mem_map_of_mem hx
 have hTW:=hw.ty _ hxt
 have hfl:=hTW.len
 by_cases h125 : ∃ s2,s = 125 :: s2
 ·obtain ⟨s2,rfl⟩:=h125
  have hgood : a8 (ag vs) (rd (ag vs) n) x.2 (123 :: 125 :: s2) = some (.nd 82 [] 0 [],s2):=by
   unfold a8
   dsimp only
   rw [if_pos hso,if_pos (show (123 : UInt8).toNat = 123 from rfl),if_pos (show (125 : UInt8).toNat = 125 from rfl)]
  refine jB [(0,_),(1,_),(2,_),(3,_),(4,_)] Tryz.func189 Tryz.ntmps189 fun B hok hB hW=>?_
  repeat' (first | refine jX ?_ | (refine jo ?_;first | refine jO fun _=>?_ | refine jV (ak F F) ?_ | refine aH F ?_) | refine aA F F F ?_ | refine ac F F ?_ | (refine aj (am (id:=3) _ (fun _ h=>h) ai ?_);refine jW 0 [0,1,2,3,4,5] (aa 6 63) ?_;refine jQ ?_))
  rename_i x5 x8 x13
  refine Nx.sealC (b:=x13) fun G2 hG2 hsy=>?_
  refine jZ (vs:=[_,_,_]) F ⟨F,F,F,trivial⟩ F ⟨hG2,F,?_⟩
  rw [aC]
  exact ⟨_,_,_,F,fun _=>⟨.nd 82 [] 0 [],x13,F,hgood,.recd k x13 x.2 [] [] none none 0 0 ⟨hrf,hso⟩ hsy ⟨F,.inl ⟨F,F⟩⟩ ⟨F,.inl ⟨F,F⟩⟩ F (fun i hi=>absurd hi (by simp)) (fun i hi=>absurd hi (by simp))⟩,fun h=>(by cases h)⟩
 have hRl : a8 (ag vs) (rd (ag vs) n) x.2 (123 :: s) = (bC (ag vs) (rd (ag vs) n) x.2 (s.length + 1) 0 s []).map fun x=>(.nd 82 [] 0 x.1,x.2):=by
  unfold a8
  dsimp only
  rw [if_pos hso,if_pos (show (123 : UInt8).toNat = 123 from rfl)]
  cases s with
  | nil=>rw [dK kf];rfl
  | cons e r' =>
   dsimp only
   rw [if_neg]
   intro h;exact h125 ⟨r',by rw [show e = 125 from UInt8.toNat_inj.1 h]⟩
 have hs0 : s = [] ∨ s ≠ [] ∧ ¬ ((bt s (Int.toNat 0) : Nat) : Int) = 125:=by
  cases s with
  | nil=>exact .inl F
  | cons e r' =>
   refine .inr ⟨by simp,fun h=>h125 ⟨r',?_⟩⟩
   have : bt (e :: r') (Int.toNat 0) = e.toNat:=bh e r'
   rw [show e = 125 from UInt8.toNat_inj.1 (show e.toNat = 125 by omega)]
 have hslen : s = [] ∨ 0 < s.length:=by cases s <;> simp
 rcases hs0 with hs0 | ⟨hs0,hs1⟩
 ·subst hs0
  have cx_tg:=qA (G:=G) (u:=u) (x:=x) (s:=[]) (by simp) h.sl.one (h.fl x hx) oM
  have e0 : aP (([] : acA).takeWhile a7) 200 = none:=by
   cases h : aP (([] : acA).takeWhile a7) 200 with
   | none=>rfl
   | some m =>
    have:=(d8 h).2.1
    have h2:=gT m
    rw [← this] at h2;simp at h2
  rw [e0] at cx_tg
  refine jB [(0,_),(1,_),(2,_),(3,_),(4,_)] Tryz.func189 Tryz.ntmps189 fun B hok hB hW=>?_
  repeat' (first | refine jR ?_ | (refine jo ?_;first | refine jO fun _=>?_ | refine jV (ak F F) ?_ | refine av F ?_) | refine an F F F ?_ | refine ad F F ?_)
  rename_i x5 x8 x13
  refine aR (ι:=Unit) (fun i=>True) (fun i=>[(1,S []),(2,S k),(4,I (n + 1 : Nat)),(5,Pt x5 0),(8,Pt x8 0),(13,Pt x13 0)]) (fun _=>G) (fun i=>[.blk x13 (.cells (List.toArray [S k,S [82],aL,aL]) pI (0,0)),.blk x8 (.cells (List.toArray [U8 x.2.sort,S x.2.name,gc x]) zd (0,0)),.blk x5 (.cells (List.toArray [u]) zh (0,0))]) (fun i=>0) () ?_ tU F aX (fun i Hi=>?_)
  ·trivial
  repeat' (first | refine jR ?_ | (refine jo ?_;first | refine aK F ?_ | refine jL fun _=>?_ | refine jC F F F ?_ | (refine cO F F F cx_tg F ?_;rintro _ ⟨nt,rfl,hnt⟩)) | refine ac F F ?_ | (refine aj (am (id:=5) _ (fun _ h=>h) ai ?_);refine jT 33 [0,1,2] (aa 36 7) ?_;(try (refine Nx.re (d:=43) (v':=Bo true) F (congrArg Value.bool F) ?_));refine jT 31 [3,4] (aa 36 31) ?_;(refine jG (aa 36 63) 5 F (aY F F F) ?_);refine jT 29 [6] (aa 36 127) ?_;(try (refine Nx.re (d:=47) (v':=Bo true) F (congrArg Value.bool F) ?_));refine jT 26 [7,8,9] (aa 36 1023) ?_;(refine jG (aa 36 2047) 10 F (aY F F F) ?_);refine jT 24 [11] (aa 36 4095) ?_;(try (refine Nx.re (d:=52) (v':=Bo true) F (congrArg Value.bool F) ?_));refine jT 21 [12,13,14] (aa 36 32767) ?_;(refine jN (aa 36 65535) 15 F ?_);(refine jN (aa 36 131071) 16 F ?_);refine jT 17 [17,18] (aa 36 524287) ?_;(try (fail));refine jT 10 [19,20,21,23,24,25,31] (aa 36 2210398207) ?_;(refine jN (aa 36 2214592511) 22 F ?_);(refine jN (aa 36 2281701375) 26 F ?_);(refine jN (aa 36 2415919103) 27 F ?_);refine jT 6 [28] (aa 36 2684354559) ?_;(refine jN (aa 36 3221225471) 29 F ?_);(refine jN (aa 36 4294967295) 30 F ?_);(refine jN (aa 36 8589934591) 32 F ?_);refine jT 2 [33] (aa 36 17179869183) ?_;(refine jN (aa 36 34359738367) 34 F ?_);(refine jG (aa 36 68719476735) 35 F (aY F F F) ?_);refine jQ ?_))
  all_goals refine jZ (vs:=[_,_,_]) F ⟨F,F,F,trivial⟩ F ⟨Gh.le.refl _,F,?_⟩
  all_goals (rw [aC];exact ⟨_,_,_,F,fun h=>(by cases h),fun _=>by rw [hRl,dK kf];rfl⟩)
 ·have hslen3 : 0 < s.length:=List.length_pos_iff.2 hs0
  refine jB [(0,_),(1,_),(2,_),(3,_),(4,_)] Tryz.func189 Tryz.ntmps189 fun B hok hB hW=>?_
  repeat' (first | refine jM ?_ | (refine jo ?_;first | refine jO fun _=>?_ | refine jV (ak F F) ?_ | refine aH F ?_) | refine aA F F (ay ‹_›) ?_ | refine ad F (aB ‹_›) ?_)
  rename_i x5 x8 x13
  refine Nx.addNil w7 1 (Nx.addNil w4 1 ?_)
  refine aR (ι:=List (Fld × V) × List Nat × Option Addr × Nat × Option Addr × Nat × acA × Nat × Gh) (fun q=>((q.2.1.length = q.1.length ∧ (∀ i,i < q.1.length → (ae q.1 i).1 ∈ x.2.fields) ∧ ∀ i,i < q.1.length → RepR q.2.2.2.2.2.2.2.2 (ag vs) (ae q.1 i).2 (ae q.1 i).1.kind (ae q.2.1 i)) ∧ Gh.le G q.2.2.2.2.2.2.2.2) ∧ (bC (ag vs) (rd (ag vs) n) x.2 (s.length + 1) 0 s [] = bC (ag vs) (rd (ag vs) n) x.2 q.2.2.2.2.2.2.2.1 (g8 q.1) q.2.2.2.2.2.2.1 (gp q.1) ∧ q.2.2.2.2.2.2.1.length < q.2.2.2.2.2.2.2.1) ∧ q.2.2.2.2.2.2.1.length ≤ s.length ∧ q.1.length + q.2.2.2.2.2.2.1.length ≤ s.length) (fun q=>[(1,S q.2.2.2.2.2.2.1),(2,S k),(4,I (n + 1 : Nat)),(5,Pt x5 0),(8,Pt x8 0),(13,Pt x13 0)]) (fun q=>q.2.2.2.2.2.2.2.2) (fun q=>[.acc (.slice q.2.2.2.2.1 q.1.length q.2.2.2.2.2.1) w4 1 q.1.length (aF eE q.2.1),.acc (.slice q.2.2.1 q.1.length q.2.2.2.1) w7 1 q.1.length (aF gg (q.1.map fun p=>p.1.tag)),.blk x13 (.cells (List.toArray [S k,S [82],.slice q.2.2.1 q.1.length q.2.2.2.1,.slice q.2.2.2.2.1 q.1.length q.2.2.2.2.2.1]) pI (0,0)),.blk x8 (.cells (List.toArray [U8 x.2.sort,S x.2.name,gc x]) zd (0,0)),.blk x5 (.cells (List.toArray [u]) zh (0,0))]) (fun q=>q.2.2.2.2.2.2.1.length) ([],[],none,0,none,0,s,s.length + 1,G) ?_ tU F aX (fun q Hq=>?_)
  ·exact ⟨⟨⟨F,fun i hi=>absurd hi (by simp),fun i hi=>absurd hi (by simp)⟩,Gh.le.refl _⟩,⟨F,Nat.lt_succ_self _⟩,Nat.le_refl _,by simp⟩
  obtain ⟨fs,bs,a1,c1,a2,c2,t,m,Gq⟩:=q
  dsimp only at Hq ⊢
  obtain ⟨⟨⟨hbl,hfm,hreps⟩,hgq⟩,⟨hit,htm⟩,htl,hft⟩:=Hq
  have cx_tg:=qA (G:=Gq) (u:=u) (x:=x) (s:=t) oM h.sl.one ((h.mono hgq).fl x hx) oM
  repeat' (first | refine jR ?_ | (refine jo ?_;first | refine aK F ?_ | refine jL fun _=>?_ | refine jC F F F ?_ | (refine cO F F F cx_tg F ?_;rintro _ ⟨nt,rfl,hnt⟩)))
  have hnone : ∀ {v : Value} {G' : Gh} {r : acA},bC (ag vs) (rd (ag vs) n) x.2 m (g8 fs) t (gp fs) = none → v = Tu [.pointer none,S r,Bo false] → cm (ag vs) (a8 (ag vs) (rd (ag vs) n) x.2 (123 :: s)) k v G':=fun h1 h2=>⟨_,_,_,h2,fun h=>(by cases h),fun _=>by rw [hRl,hit,h1];rfl⟩
  cases hb16 : (aP (t.takeWhile a7) 200).isSome && (bN x.2.fields nt).isSome with
  | false =>
   have hno : aT (rd (ag vs) n) x.2 t = none:=by
    cases hm : aP (t.takeWhile a7) 200 with
    | none=>exact eV (.inl hm)
    | some m0 =>
     refine eV (.inr ⟨m0,hm,?_⟩)
     rw [hm] at hb16
     rw [← hnt m0 hm]
     cases hf : bN x.2.fields nt with
     | none=>rfl
     | some d=>rw [hf] at hb16;cases hb16
   (refine aj (am (id:=5) _ (fun _ h=>h) ai ?_);refine jT 33 [0,1,2] (aa 36 7) ?_;(try (refine Nx.re (d:=43) (v':=Bo true) F (congrArg Value.bool F) ?_));refine jT 31 [3,4] (aa 36 31) ?_;(refine jG (aa 36 63) 5 F (aY F F F) ?_);refine jT 29 [6] (aa 36 127) ?_;(try (refine Nx.re (d:=47) (v':=Bo true) F (congrArg Value.bool F) ?_));refine jT 26 [7,8,9] (aa 36 1023) ?_;(refine jG (aa 36 2047) 10 F (aY F F F) ?_);refine jT 24 [11] (aa 36 4095) ?_;(try (refine Nx.re (d:=52) (v':=Bo true) F (congrArg Value.bool F) ?_));refine jT 21 [12,13,14] (aa 36 32767) ?_;(refine jN (aa 36 65535) 15 F ?_);(refine jN (aa 36 131071) 16 F ?_);refine jT 17 [17,18] (aa 36 524287) ?_;(try (fail));refine jT 10 [19,20,21,23,24,25,31] (aa 36 2210398207) ?_;(refine jN (aa 36 2214592511) 22 F ?_);(refine jN (aa 36 2281701375) 26 F ?_);(refine jN (aa 36 2415919103) 27 F ?_);refine jT 6 [28] (aa 36 2684354559) ?_;(refine jN (aa 36 3221225471) 29 F ?_);(refine jN (aa 36 4294967295) 30 F ?_);(refine jN (aa 36 8589934591) 32 F ?_);refine jT 2 [33] (aa 36 17179869183) ?_;(refine jN (aa 36 34359738367) 34 F ?_);(refine jG (aa 36 68719476735) 35 F (aY F F F) ?_);refine jQ ?_)
   repeat' (first | refine jR ?_ | refine ac F F ?_)
   all_goals refine jZ (vs:=[_,_,_]) F ⟨F,F,F,trivial⟩ F ⟨hgq,F,?_⟩
   all_goals exact hnone (dK hno) F
  | true =>
   simp only [Bool.and_eq_true] at hb16
   obtain ⟨hb1,hb2⟩:=hb16
   obtain ⟨m0,hm⟩:=Option.isSome_iff_exists.1 hb1
   obtain ⟨d,hd⟩:=Option.isSome_iff_exists.1 hb2
   have hnm:=hnt m0 hm
   subst hnm
   rw [hd]
   simp only [Option.getD_some]
   have hdm : d ∈ x.2.fields:=List.mem_of_find?_eq_some hd
   have hdt : d.tag = nt:=by have:=List.find?_some hd;simpa using this
   have hwl:=dH a7 t
   cases hdw : t.dropWhile a7 with
   | nil =>
    have hno : aT (rd (ag vs) n) x.2 t = none:=gx hm (fun s2 h=>by rw [hdw] at h;cases h)
    (refine aj (am (id:=5) _ (fun _ h=>h) ai ?_);refine jT 33 [0,1,2] (aa 36 7) ?_;(try (refine Nx.re (d:=43) (v':=Bo false) F (congrArg Value.bool F) ?_));refine jT 31 [3,4] (aa 36 31) ?_;(refine jG (aa 36 63) 5 F (aG F F F) ?_);refine jT 29 [6] (aa 36 127) ?_;(try (refine Nx.re (d:=47) (v':=Bo true) F (congrArg Value.bool F) ?_));refine jT 26 [7,8,9] (aa 36 1023) ?_;(refine jG (aa 36 2047) 10 F (aY F F F) ?_);refine jT 24 [11] (aa 36 4095) ?_;(try (refine Nx.re (d:=52) (v':=Bo true) F (congrArg Value.bool F) ?_));refine jT 21 [12,13,14] (aa 36 32767) ?_;(refine jN (aa 36 65535) 15 F ?_);(refine jN (aa 36 131071) 16 F ?_);refine jT 17 [17,18] (aa 36 524287) ?_;(try (fail));refine jT 10 [19,20,21,23,24,25,31] (aa 36 2210398207) ?_;(refine jN (aa 36 2214592511) 22 F ?_);(refine jN (aa 36 2281701375) 26 F ?_);(refine jN (aa 36 2415919103) 27 F ?_);refine jT 6 [28] (aa 36 2684354559) ?_;(refine jN (aa 36 3221225471) 29 F ?_);(refine jN (aa 36 4294967295) 30 F ?_);(refine jN (aa 36 8589934591) 32 F ?_);refine jT 2 [33] (aa 36 17179869183) ?_;(refine jN (aa 36 34359738367) 34 F ?_);(refine jG (aa 36 68719476735) 35 F (aY F F F) ?_);refine jQ ?_)
    repeat' (first | refine jR ?_ | refine ac F F ?_)
    all_goals refine jZ (vs:=[_,_,_]) F ⟨F,F,F,trivial⟩ F ⟨hgq,F,?_⟩
    all_goals exact hnone (dK hno) F
   | cons e r2 =>
    have he0 : bt (e :: r2) (Int.toNat 0) = e.toNat:=bh e r2
    have hel : (e :: r2).length = r2.length + 1:=rfl
    by_cases h61 : e.toNat = 61
    case neg =>
     have hno : aT (rd (ag vs) n) x.2 t = none:=gx hm (fun s2 h=>by rw [hdw] at h;simp only [List.cons.injEq] at h;exact h61 (by rw [h.1];rfl))
     (refine aj (am (id:=5) _ (fun _ h=>h) ai ?_);refine jT 33 [0,1,2] (aa 36 7) ?_;(try (refine Nx.re (d:=43) (v':=Bo false) F (congrArg Value.bool F) ?_));refine jT 31 [3,4] (aa 36 31) ?_;(refine jG (aa 36 63) 5 F (aG F F F) ?_);refine jT 29 [6] (aa 36 127) ?_;(try (refine Nx.re (d:=47) (v':=Bo false) F (congrArg Value.bool F) ?_));refine jW 26 [7,8,9] (aa 36 1023) ?_;(refine jG (aa 36 2047) 10 F (aG F F F) ?_);refine jT 24 [11] (aa 36 4095) ?_;(try ((refine Nx.re (d:=52) (v':=Bo true) F (congrArg Value.bool (ay oM)) ?_)));refine jT 21 [12,13,14] (aa 36 32767) ?_;(refine jN (aa 36 65535) 15 F ?_);(refine jN (aa 36 131071) 16 F ?_);refine jT 17 [17,18] (aa 36 524287) ?_;(try (fail));refine jT 10 [19,20,21,23,24,25,31] (aa 36 2210398207) ?_;(refine jN (aa 36 2214592511) 22 F ?_);(refine jN (aa 36 2281701375) 26 F ?_);(refine jN (aa 36 2415919103) 27 F ?_);refine jT 6 [28] (aa 36 2684354559) ?_;(refine jN (aa 36 3221225471) 29 F ?_);(refine jN (aa 36 4294967295) 30 F ?_);(refine jN (aa 36 8589934591) 32 F ?_);refine jT 2 [33] (aa 36 17179869183) ?_;(refine jN (aa 36 34359738367) 34 F ?_);(refine jG (aa 36 68719476735) 35 F (aY F F F) ?_);refine jQ ?_)
     repeat' (first | refine jR ?_ | refine ac F F ?_)
     all_goals refine jZ (vs:=[_,_,_]) F ⟨F,F,F,trivial⟩ F ⟨hgq,F,?_⟩
     all_goals exact hnone (dK hno) F
    have he61 : e = 61:=UInt8.toNat_inj.1 h61
    have hfs:=k5 (f:=rd (ag vs) n) (t:=x.2) (s:=t) hm hd (by rw [hdw,he61])
    have hm0 : 0 < m:=oM
    have hflt : (fs.map fun p : Fld × V=>p.1.tag).length = fs.length:=by simp
    have hdt1:=((hTW.fld d hdm).tag).1
    have hlast0 : fs.length = 0 → g8 fs = 0:=fun h0=>by rw [List.length_eq_zero_iff.1 h0];rfl
    have hlast1 : 0 < fs.length → ae (fs.map fun p : Fld × V=>p.1.tag) (((fs.length : Nat) : Int) - 1).toNat = g8 fs:=fun h0=>by
     have e1 : (((fs.length : Nat) : Int) - 1).toNat = fs.length - 1:=oM
     rw [e1,aV (by rw [hflt];omega)]
     unfold g8
     rw [List.getLast?_eq_getElem?,List.getElem?_eq_getElem oM]
     simp
    rename_i x14
    have hf0 : fs.length = 0 ∨ 0 < fs.length:=oM
    by_cases hlt : d.tag ≤ g8 fs
    ·have hpos : 0 < fs.length:=by
      rcases hf0 with h0 | h0
      ·have:=hlast0 h0;omega
      ·exact h0
     have hyl:=hlast1 hpos
     have hno : bC (ag vs) (rd (ag vs) n) x.2 m (g8 fs) t (gp fs) = none:=by
      cases hy : rd (ag vs) n d.kind r2 with
      | none=>exact dK (by rw [hfs,hy];rfl)
      | some y =>
       obtain ⟨w,r3⟩:=y
       rw [jv (d:=d) (v:=w) (r:=r3) (by rw [hfs,hy];rfl) hm0,if_pos (.inl hlt)]
     refine Nx.shp (v:=.slice a1 fs.length c1) (.tail _ (.tail _ (.head _))) fun hsh=>?_
     obtain ⟨tb1,tc1,e1⟩:=hsh.pos oM
     simp only [Value.slice.injEq] at e1
     obtain ⟨rfl,-,rfl⟩:=e1
     (refine aj (am (id:=5) _ (fun _ h=>h) ai ?_);refine jT 33 [0,1,2] (aa 36 7) ?_;(try (refine Nx.re (d:=43) (v':=Bo false) F (congrArg Value.bool F) ?_));refine jT 31 [3,4] (aa 36 31) ?_;(refine jG (aa 36 63) 5 F (aG F F F) ?_);refine jT 29 [6] (aa 36 127) ?_;(try (refine Nx.re (d:=47) (v':=Bo false) F (congrArg Value.bool F) ?_));refine jW 26 [7,8,9] (aa 36 1023) ?_;(refine jG (aa 36 2047) 10 F (aG F F F) ?_);refine jT 24 [11] (aa 36 4095) ?_;(try ((refine Nx.re (d:=52) (v':=Bo false) F (congrArg Value.bool (aB oM)) ?_)));refine jT 21 [12,13,14] (aa 36 32767) ?_;(refine jG (aa 36 65535) 15 F (aq F F F) ?_);(refine jG (aa 36 131071) 16 F (ar F) ?_);refine jT 17 [17,18] (aa 36 524287) ?_;(try ((refine Nx.re (d:=59) (v':=Bo true) F (congrArg Value.bool (ay oM)) ?_)));refine jT 10 [19,20,21,23,24,25,31] (aa 36 2210398207) ?_;(refine jG (aa 36 2214592511) 22 F (aq F F F) ?_);(refine jG (aa 36 2281701375) 26 F (aq F F F) ?_);(refine jG (aa 36 2415919103) 27 F (ar F) ?_);refine jW 6 [28] (aa 36 2684354559) ?_;(refine jG (aa 36 3221225471) 29 F (aQ F F oM) ?_);((refine jG (aa 36 4294967295) 30 F (u9 F F F ?_ aS) ?_;focus omega));(refine jG (aa 36 8589934591) 32 F (aq F F F) ?_);refine jT 2 [33] (aa 36 17179869183) ?_;(refine jG (aa 36 34359738367) 34 F (aY F F F) ?_);(refine jG (aa 36 68719476735) 35 F (aG F F F) ?_);refine jQ ?_)
     repeat' (first | refine jR ?_ | refine ac F (ay ‹_›) ?_)
     all_goals refine jZ (vs:=[_,_,_]) F ⟨F,F,F,trivial⟩ F ⟨hgq,F,?_⟩
     all_goals exact hnone hno F
    have hSq:=h.mono hgq
    have hdk : aM (ag vs) d.kind = true:=dP hw hxt oM hdm
    rw [hdw,List.length_cons] at hwl
    have cx_rd:=hR Gq d.kind r2 hSq hdk oM
    rw [← edn] at cx_rd
    rcases hf0 with hf0 | hf0
    rotate_left
    have hyl:=hlast1 hf0
    refine Nx.shp (v:=.slice a1 fs.length c1) (.tail _ (.tail _ (.head _))) fun hsh=>?_
    obtain ⟨tb1,tc1,e1⟩:=hsh.pos oM
    simp only [Value.slice.injEq] at e1
    obtain ⟨rfl,-,rfl⟩:=e1
    all_goals
     (refine aj (am (id:=5) _ (fun _ h=>h) ai ?_);refine jT 33 [0,1,2] (aa 36 7) ?_;(try (refine Nx.re (d:=43) (v':=Bo false) F (congrArg Value.bool F) ?_));refine jT 31 [3,4] (aa 36 31) ?_;(refine jG (aa 36 63) 5 F (aG F F F) ?_);refine jT 29 [6] (aa 36 127) ?_;(try (refine Nx.re (d:=47) (v':=Bo false) F (congrArg Value.bool F) ?_));refine jW 26 [7,8,9] (aa 36 1023) ?_;(refine jG (aa 36 2047) 10 F (aG F F F) ?_);refine jT 24 [11] (aa 36 4095) ?_;(try ((refine Nx.re (d:=52) (v':=Bo false) F (congrArg Value.bool (aB oM)) ?_)));refine jT 21 [12,13,14] (aa 36 32767) ?_;(refine jG (aa 36 65535) 15 F (aq F F F) ?_);(refine jG (aa 36 131071) 16 F (ar F) ?_);refine jT 17 [17,18] (aa 36 524287) ?_;(try (first | (refine Nx.re (d:=59) (v':=Bo true) F (congrArg Value.bool (ay oM)) ?_) | (refine Nx.re (d:=59) (v':=Bo false) F (congrArg Value.bool (aB oM)) ?_)));refine jT 10 [19,20,21,23,24,25,31] (aa 36 2210398207) ?_;(first | refine jG (aa 36 2214592511) 22 F (aq F F F) ?_ | refine jN (aa 36 2214592511) 22 F ?_);(first | refine jG (aa 36 2281701375) 26 F (aq F F F) ?_ | refine jN (aa 36 2281701375) 26 F ?_);(first | refine jG (aa 36 2415919103) 27 F (ar F) ?_ | refine jN (aa 36 2415919103) 27 F ?_);refine jW 6 [28] (aa 36 2684354559) ?_;(first | refine jG (aa 36 3221225471) 29 F (aQ F F oM) ?_ | refine jN (aa 36 3221225471) 29 F ?_);(first | (refine jG (aa 36 4294967295) 30 F (u9 F F F ?_ aS) ?_;focus omega) | refine jN (aa 36 4294967295) 30 F ?_);(first | refine jG (aa 36 8589934591) 32 F (aq F F F) ?_ | refine jN (aa 36 8589934591) 32 F ?_);refine jT 2 [33] (aa 36 17179869183) ?_;(first | refine jG (aa 36 34359738367) 34 F (aY F F F) ?_ | refine jG (aa 36 34359738367) 34 F (aG F F F) ?_);(refine jG (aa 36 68719476735) 35 F (aG F F F) ?_);refine jQ ?_)
     repeat' (first | refine jR ?_ | (refine ad F (by first | rfl | (refine decide_eq_false ?_;(assumption))) ?_))
     (refine aj (am (id:=7) _ (fun _ h=>h) ai ?_);refine jW 10 [1,2,3,5,6] (aa 15 110) ?_;(refine jG (aa 15 111) 0 F (bB F F F F) ?_);(refine jG (aa 15 127) 4 F (aq F F F) ?_);refine jA 7 F ?_;(refine aI F F F cx_rd F ?_;rintro _ G hle ⟨q1,r1,ok1,rfl,hyes,hno⟩;skip);refine jS (aa 15 255) ?_;refine jT 0 [8,9,10,11,12,13,14] (aa 15 32767) ?_;refine jQ ?_)
     repeat' (refine jR ?_)
     have hgl:=hgq.trans hle
     cases ok1 with
     | false =>
      have hno2 : aT (rd (ag vs) n) x.2 t = none:=by rw [hfs,hno rfl];rfl
      (refine aj (am (id:=8) _ (fun _ h=>h) ai ?_);refine jT 22 [0,1,2] (aa 25 7) ?_;(try (refine Nx.re (d:=92) (v':=Bo true) F (congrArg Value.bool F) ?_));refine jT 20 [3,5] (aa 25 47) ?_;(refine jN (aa 25 111) 6 F ?_);(refine jN (aa 25 239) 7 F ?_);(refine jN (aa 25 255) 4 F ?_);(refine jN (aa 25 511) 8 F ?_);refine jT 15 [9] (aa 25 1023) ?_;(refine jG (aa 25 2047) 10 F (aY F F F) ?_);refine jT 13 [11] (aa 25 4095) ?_;(try (refine Nx.re (d:=101) (v':=Bo true) F (congrArg Value.bool F) ?_));refine jT 11 [12,13] (aa 25 16383) ?_;(refine jG (aa 25 32767) 14 F (aY F F F) ?_);refine jT 9 [15] (aa 25 65535) ?_;(try (refine Nx.re (d:=105) (v':=Bo true) F (congrArg Value.bool F) ?_));refine jT 5 [16,17,18,19] (aa 25 1048575) ?_;(try (fail));refine jT 2 [20,21,22] (aa 25 8388607) ?_;(refine jN (aa 25 16777215) 23 F ?_);(refine jG (aa 25 33554431) 24 F (aY F F F) ?_);refine jQ ?_)
      repeat' (first | refine jR ?_ | refine ac F F ?_)
      all_goals refine jZ (vs:=[_,_,_]) F ⟨F,F,F,trivial⟩ F ⟨hgl,F,?_⟩
      all_goals exact hnone (dK hno2) F
     | true =>
      obtain ⟨w,wb,rfl,hf,hrep⟩:=hyes rfl
      have hsh:=gI hf
      have htt:=iW _ _ _ _ hf
      dsimp only at htt hsh
      have hob:=kT hw hrep
      unfold gE at hob
      have cx_out:=ii hw hrep oM
      have cx_sta:=nO (f:=d) (h.mono hgl) hw hdk
      have hfd : aT (rd (ag vs) n) x.2 t = some ((d,w),r1):=by rw [hfs,hf];rfl
      have hst:=jv (ts:=ag vs) (vs:=gp fs) (last:=g8 fs) hfd hm0
      by_cases heq : w.out = cS (ag vs) d
      ·rw [if_pos (.inr heq)] at hst
       (refine aj (am (id:=8) _ (fun _ h=>h) ai ?_);refine jT 22 [0,1,2] (aa 25 7) ?_;(try (refine Nx.re (d:=92) (v':=Bo false) F (congrArg Value.bool F) ?_));refine jT 20 [3,5] (aa 25 47) ?_;(refine jG (aa 25 111) 6 F (aq F F F) ?_);(refine jG (aa 25 239) 7 F (bB F F F F) ?_);(refine jA 4 F ?_;(refine ab F F F cx_out F ?_);refine jS (aa 25 255) ?_);(refine jA 8 F ?_;(refine ab F F F cx_sta F ?_);refine jS (aa 25 511) ?_);refine jT 15 [9] (aa 25 1023) ?_;(refine jG (aa 25 2047) 10 F (aG F F F) ?_);refine jT 13 [11] (aa 25 4095) ?_;(try (refine Nx.re (d:=101) (v':=Bo true) F (congrArg Value.bool (ay ‹_›)) ?_));refine jT 11 [12,13] (aa 25 16383) ?_;(refine jG (aa 25 32767) 14 F (aY F F F) ?_);refine jT 9 [15] (aa 25 65535) ?_;(try (refine Nx.re (d:=105) (v':=Bo true) F (congrArg Value.bool F) ?_));refine jT 5 [16,17,18,19] (aa 25 1048575) ?_;(try (fail));refine jT 2 [20,21,22] (aa 25 8388607) ?_;(refine jN (aa 25 16777215) 23 F ?_);(refine jG (aa 25 33554431) 24 F (aY F F F) ?_);refine jQ ?_)
       repeat' (first | refine jR ?_ | refine ac F F ?_)
       all_goals refine jZ (vs:=[_,_,_]) F ⟨F,F,F,trivial⟩ F ⟨hgl,F,?_⟩
       all_goals exact hnone hst F
      rw [if_neg (fun h=>by rcases h with h | h;exact hlt h;exact heq h)] at hst
      cases r1 with
      | nil =>
       (refine aj (am (id:=8) _ (fun _ h=>h) ai ?_);refine jT 22 [0,1,2] (aa 25 7) ?_;(try (refine Nx.re (d:=92) (v':=Bo false) F (congrArg Value.bool F) ?_));refine jT 20 [3,5] (aa 25 47) ?_;(refine jG (aa 25 111) 6 F (aq F F F) ?_);(refine jG (aa 25 239) 7 F (bB F F F F) ?_);(refine jA 4 F ?_;(refine ab F F F cx_out F ?_);refine jS (aa 25 255) ?_);(refine jA 8 F ?_;(refine ab F F F cx_sta F ?_);refine jS (aa 25 511) ?_);refine jT 15 [9] (aa 25 1023) ?_;(refine jG (aa 25 2047) 10 F (aG F F F) ?_);refine jT 13 [11] (aa 25 4095) ?_;(try (refine Nx.re (d:=101) (v':=Bo false) F (congrArg Value.bool (aB ‹_›)) ?_));refine jT 11 [12,13] (aa 25 16383) ?_;(refine jG (aa 25 32767) 14 F (aG F F F) ?_);refine jT 9 [15] (aa 25 65535) ?_;(try (refine Nx.re (d:=105) (v':=Bo true) F (congrArg Value.bool F) ?_));refine jT 5 [16,17,18,19] (aa 25 1048575) ?_;(try (fail));refine jT 2 [20,21,22] (aa 25 8388607) ?_;(refine jN (aa 25 16777215) 23 F ?_);(refine jG (aa 25 33554431) 24 F (aY F F F) ?_);refine jQ ?_)
       repeat' (first | refine jR ?_ | refine ac F F ?_)
       all_goals refine jZ (vs:=[_,_,_]) F ⟨F,F,F,trivial⟩ F ⟨hgl,F,?_⟩
       all_goals exact hnone hst F
      | cons e2 r3 =>
       have he20 : bt (e2 :: r3) (Int.toNat 0) = e2.toNat:=bh e2 r3
       have hel2 : (e2 :: r3).length = r3.length + 1:=rfl
       have hl' : (fs ++ [(d,w)]).length = fs.length + 1:=by simp
       have hbl' : (bs ++ [wb]).length = (fs ++ [(d,w)]).length:=by simp [hbl]
       have hnth : ∀ i,i < (fs ++ [(d,w)]).length → (i < fs.length ∧ ae (fs ++ [(d,w)]) i = ae fs i ∧ ae (bs ++ [wb]) i = ae bs i) ∨ (ae (fs ++ [(d,w)]) i = (d,w) ∧ ae (bs ++ [wb]) i = wb):=fun i hi=>by
        by_cases h1 : i < fs.length
        ·exact .inl ⟨h1,by rw [aV hi,aV h1,List.getElem_append_left h1],by rw [aV oM,aV oM,List.getElem_append_left oM]⟩
        ·have h2 : i = fs.length:=oM
         exact .inr ⟨by rw [aV hi];simp [h2],by rw [aV oM];simp [h2,hbl]⟩
       have hfm' : ∀ i,i < (fs ++ [(d,w)]).length → (ae (fs ++ [(d,w)]) i).1 ∈ x.2.fields:=fun i hi=>by
        rcases hnth i hi with ⟨h1,h2,_⟩ | ⟨h2,_⟩
        ·rw [h2];exact hfm i h1
        ·rw [h2];exact hdm
       have hreps' : ∀ i,i < (fs ++ [(d,w)]).length → RepR G (ag vs) (ae (fs ++ [(d,w)]) i).2 (ae (fs ++ [(d,w)]) i).1.kind (ae (bs ++ [wb]) i):=fun i hi=>by
        rcases hnth i hi with ⟨h1,h2,h3⟩ | ⟨h2,h3⟩
        ·rw [h2,h3];exact (hreps i h1).mono hle
        ·rw [h2,h3];exact hrep
       have hrow1 : aF gg (fs.map fun p=>p.1.tag) ++ [I d.tag] = aF gg ((fs ++ [(d,w)]).map fun p=>p.1.tag):=by rw [List.map_append];exact (cj gg _ d.tag).symm
       have hrow2 : aF eE bs ++ [Pt wb 0] = aF eE (bs ++ [wb]):=(cj eE bs wb).symm
       have hnd : gp (fs ++ [(d,w)]) = gp fs ++ [.nd 61 [] d.tag [w]]:=by simp [gp]
       dsimp only at hst
       by_cases h44 : e2.toNat = 44
       ·rw [if_pos h44] at hst
        have hn93 : ¬ e2.toNat = 125:=oM
        (refine aj (am (id:=8) _ (fun _ h=>h) ai ?_);refine jT 22 [0,1,2] (aa 25 7) ?_;(try (refine Nx.re (d:=92) (v':=Bo false) F (congrArg Value.bool F) ?_));refine jT 20 [3,5] (aa 25 47) ?_;(refine jG (aa 25 111) 6 F (aq F F F) ?_);(refine jG (aa 25 239) 7 F (bB F F F F) ?_);(refine jA 4 F ?_;(refine ab F F F cx_out F ?_);refine jS (aa 25 255) ?_);(refine jA 8 F ?_;(refine ab F F F cx_sta F ?_);refine jS (aa 25 511) ?_);refine jT 15 [9] (aa 25 1023) ?_;(refine jG (aa 25 2047) 10 F (aG F F F) ?_);refine jT 13 [11] (aa 25 4095) ?_;(try (refine Nx.re (d:=101) (v':=Bo false) F (congrArg Value.bool (aB ‹_›)) ?_));refine jT 11 [12,13] (aa 25 16383) ?_;(refine jG (aa 25 32767) 14 F (aG F F F) ?_);refine jT 9 [15] (aa 25 65535) ?_;(try (refine Nx.re (d:=105) (v':=Bo false) F (congrArg Value.bool F) ?_));refine jW 5 [16,17,18,19] (aa 25 1048575) ?_;(try ((refine Nx.re (d:=109) (v':=Bo false) F (congrArg Value.bool (aB oM)) ?_)));refine jT 2 [20,21,22] (aa 25 8388607) ?_;(refine jG (aa 25 16777215) 23 F (aG F F F) ?_);(refine jG (aa 25 33554431) 24 F (aG F F F) ?_);refine jQ ?_)
        repeat' (first | refine jR ?_ | refine ad F F ?_)
        (refine aj (am (id:=10) [.blk x14 (.cells (List.toArray [I d.tag,S d.name,S d.kind,S d.stand]) tFd (0,0))] (by intro y hy;simp only [List.mem_cons,List.not_mem_nil,or_false] at hy ⊢;simp [hy]) ai ?_);refine jW 7 [0,1,2,3,5] (aa 12 47) ?_;(refine jG (aa 12 111) 6 F (aq F F F) ?_);refine cl [4,7] kR dC ⟨?_,?_,trivial⟩;(focus (refine bc F F ?_;(refine ah F ?_);refine jK (aa 12 127) ?_;refine jA 7 F ?_;(refine jF fun _=>?_);refine jK (aa 12 255) ?_;refine jA 8 F ?_;((refine bW F F F F F F F F F ?_ fun _ _=>?_;focus omega));refine jK (aa 12 511) ?_;refine jW 1 [9,10] (aa 12 2047) ?_;refine jA 11 F ?_;(refine jD F F F ?_);refine jK (aa 12 4095) ?_;refine jQ ?_));rotate_left 1;(focus (refine bc F F ?_;(refine jF fun _=>?_);refine jK (aa 12 239) ?_;refine jA 4 F ?_;(refine ah F ?_);refine jK (aa 12 255) ?_;refine jA 8 F ?_;((refine bW F F F F F F F F F ?_ fun _ _=>?_;focus omega));refine jK (aa 12 511) ?_;refine jW 1 [9,10] (aa 12 2047) ?_;refine jA 11 F ?_;(refine jD F F F ?_);refine jK (aa 12 4095) ?_;refine jQ ?_));rotate_left 1)
        all_goals repeat' (first | refine jM ?_ | (refine jo ?_;first | refine ah F ?_ | refine jD F F F ?_ | refine jF fun _=>?_ | refine bW F F F F F F F F F oM fun _ _=>?_) | refine ad F (aB oM) ?_)
        all_goals
         rename_i _ y1 yc1 _ y2 yc2
         rw [hrow1,hrow2]
         exact aW (fs ++ [(d,w)],bs ++ [wb],some ⟨y1,0,none⟩,yc1,some ⟨y2,0,none⟩,yc2,r3,m - 1,G) ⟨⟨⟨hbl',hfm',hreps'⟩,hgl⟩,⟨(by dsimp only;rw [hit,hst,tV,hnd]),(by dsimp only;omega)⟩,(by dsimp only;omega),(by dsimp only;omega)⟩ (by dsimp only;omega) tU rfl (by rw [hl'];repeat (first | exact List.Sublist.refl _ | apply List.Sublist.cons_cons | apply List.Sublist.cons))
       ·rw [if_neg h44] at hst
        by_cases h125' : e2.toNat = 125
        ·rw [if_pos h125'] at hst
         (refine aj (am (id:=8) _ (fun _ h=>h) ai ?_);refine jT 22 [0,1,2] (aa 25 7) ?_;(try (refine Nx.re (d:=92) (v':=Bo false) F (congrArg Value.bool F) ?_));refine jT 20 [3,5] (aa 25 47) ?_;(refine jG (aa 25 111) 6 F (aq F F F) ?_);(refine jG (aa 25 239) 7 F (bB F F F F) ?_);(refine jA 4 F ?_;(refine ab F F F cx_out F ?_);refine jS (aa 25 255) ?_);(refine jA 8 F ?_;(refine ab F F F cx_sta F ?_);refine jS (aa 25 511) ?_);refine jT 15 [9] (aa 25 1023) ?_;(refine jG (aa 25 2047) 10 F (aG F F F) ?_);refine jT 13 [11] (aa 25 4095) ?_;(try (refine Nx.re (d:=101) (v':=Bo false) F (congrArg Value.bool (aB ‹_›)) ?_));refine jT 11 [12,13] (aa 25 16383) ?_;(refine jG (aa 25 32767) 14 F (aG F F F) ?_);refine jT 9 [15] (aa 25 65535) ?_;(try (refine Nx.re (d:=105) (v':=Bo false) F (congrArg Value.bool F) ?_));refine jW 5 [16,17,18,19] (aa 25 1048575) ?_;(try ((refine Nx.re (d:=109) (v':=Bo true) F (congrArg Value.bool (ay oM)) ?_)));refine jW 2 [20,21,22] (aa 25 8388607) ?_;(refine jG (aa 25 16777215) 23 F (aY F F F) ?_);(refine jG (aa 25 33554431) 24 F (aG F F F) ?_);refine jQ ?_)
         repeat' (first | refine jR ?_ | refine ad F (aB oM) ?_)
         (refine aj (am (id:=10) [.blk x14 (.cells (List.toArray [I d.tag,S d.name,S d.kind,S d.stand]) tFd (0,0))] (by intro y hy;simp only [List.mem_cons,List.not_mem_nil,or_false] at hy ⊢;simp [hy]) ai ?_);refine jW 7 [0,1,2,3,5] (aa 12 47) ?_;(refine jG (aa 12 111) 6 F (aq F F F) ?_);refine cl [4,7] kR dC ⟨?_,?_,trivial⟩;(focus (refine bc F F ?_;(refine ah F ?_);refine jK (aa 12 127) ?_;refine jA 7 F ?_;(refine jF fun _=>?_);refine jK (aa 12 255) ?_;refine jA 8 F ?_;((refine bW F F F F F F F F F ?_ fun _ _=>?_;focus omega));refine jK (aa 12 511) ?_;refine jW 1 [9,10] (aa 12 2047) ?_;refine jA 11 F ?_;(refine jD F F F ?_);refine jK (aa 12 4095) ?_;refine jQ ?_));rotate_left 1;(focus (refine bc F F ?_;(refine jF fun _=>?_);refine jK (aa 12 239) ?_;refine jA 4 F ?_;(refine ah F ?_);refine jK (aa 12 255) ?_;refine jA 8 F ?_;((refine bW F F F F F F F F F ?_ fun _ _=>?_;focus omega));refine jK (aa 12 511) ?_;refine jW 1 [9,10] (aa 12 2047) ?_;refine jA 11 F ?_;(refine jD F F F ?_);refine jK (aa 12 4095) ?_;refine jQ ?_));rotate_left 1)
         all_goals repeat' (first | refine jM ?_ | (refine jo ?_;first | refine ah F ?_ | refine jD F F F ?_ | refine jF fun _=>?_ | refine bW F F F F F F F F F oM fun _ _=>?_) | refine ac F (ay oM) ?_)
         all_goals
          rename_i _ y1 yc1 _ y2 yc2
          rw [hrow1,hrow2]
          refine Nx.sealS (v:=.slice (some ⟨y1,0,none⟩) (fs.length + 1) yc1) fun G2 hG2 hs1=>?_
          refine Nx.sealS (v:=.slice (some ⟨y2,0,none⟩) (fs.length + 1) yc2) fun G3 hG3 hs2=>?_
          refine Nx.sealC (b:=x13) fun G4 hG4 hsg=>?_
          refine jZ (vs:=[_,_,_]) F ⟨F,F,F,trivial⟩ F ⟨(((hgl.trans hG2).trans hG3).trans hG4),F,?_⟩
          rw [aC]
          exact ⟨_,_,_,F,fun _=>⟨.nd 82 [] 0 (gp (fs ++ [(d,w)])),x13,F,(by rw [hRl,hit,hst,hnd];rfl),.recd k x13 x.2 (fs ++ [(d,w)]) (bs ++ [wb]) (some ⟨y1,0,none⟩) (some ⟨y2,0,none⟩) yc1 yc2 ⟨hrf,hso⟩ (by rw [hl'];exact hsg) (by rw [hl'];exact (hs1.mono hG3).mono hG4) (by rw [hl'];exact hs2.mono hG4) hbl' hfm' (fun i hi=>(hreps' i hi).mono ((hG2.trans hG3).trans hG4))⟩,fun h=>(by cases h)⟩
        ·rw [if_neg h125'] at hst
         (refine aj (am (id:=8) _ (fun _ h=>h) ai ?_);refine jT 22 [0,1,2] (aa 25 7) ?_;(try (refine Nx.re (d:=92) (v':=Bo false) F (congrArg Value.bool F) ?_));refine jT 20 [3,5] (aa 25 47) ?_;(refine jG (aa 25 111) 6 F (aq F F F) ?_);(refine jG (aa 25 239) 7 F (bB F F F F) ?_);(refine jA 4 F ?_;(refine ab F F F cx_out F ?_);refine jS (aa 25 255) ?_);(refine jA 8 F ?_;(refine ab F F F cx_sta F ?_);refine jS (aa 25 511) ?_);refine jT 15 [9] (aa 25 1023) ?_;(refine jG (aa 25 2047) 10 F (aG F F F) ?_);refine jT 13 [11] (aa 25 4095) ?_;(try (refine Nx.re (d:=101) (v':=Bo false) F (congrArg Value.bool (aB ‹_›)) ?_));refine jT 11 [12,13] (aa 25 16383) ?_;(refine jG (aa 25 32767) 14 F (aG F F F) ?_);refine jT 9 [15] (aa 25 65535) ?_;(try (refine Nx.re (d:=105) (v':=Bo false) F (congrArg Value.bool F) ?_));refine jW 5 [16,17,18,19] (aa 25 1048575) ?_;(try ((refine Nx.re (d:=109) (v':=Bo true) F (congrArg Value.bool (ay oM)) ?_)));refine jW 2 [20,21,22] (aa 25 8388607) ?_;(refine jG (aa 25 16777215) 23 F (aY F F F) ?_);(refine jG (aa 25 33554431) 24 F (aG F F F) ?_);refine jQ ?_)
         repeat' (first | refine jR ?_ | refine ac F (ay oM) ?_)
         all_goals refine jZ (vs:=[_,_,_]) F ⟨F,F,F,trivial⟩ F ⟨hgl,F,?_⟩
         all_goals exact hnone hst F
theorem tG {ts : List Ty} {f : acA → acA → Option (V × acA)} {t : Ty} {e : UInt8} {s : acA} (h : t.sort = 82 ∧ ¬ e.toNat = 123 ∨ t.sort = 69 ∧ ¬ e.toNat = 35 ∨ t.sort = 85 ∧ ¬ e.toNat = 60) : a8 ts f t (e :: s) = none:=by
 unfold a8
 dsimp only
 rcases h with ⟨h1,h2⟩ | ⟨h1,h2⟩ | ⟨h1,h2⟩
 ·rw [if_pos h1,if_neg h2]
 ·rw [if_neg oM,if_pos h1,if_neg h2]
 ·rw [if_neg oM,if_neg oM,if_neg h2]
theorem aav {n : Nat} {u : Value} {vs : List bP} {x : bP} {k s : acA} {e : UInt8} (hu : u.oneCell' = true) (cx_rf : ao acz 160 [u,S k] G (· = Tu [Ag [U8 x.2.sort,S x.2.name,gc x],Bo true])) (hso : x.2.sort = 82 ∧ ¬ e.toNat = 123 ∨ x.2.sort = 69 ∧ ¬ e.toNat = 35 ∨ x.2.sort = 85 ∧ ¬ e.toNat = 60) (hs : s.length ≤ 2000000) (hn : n ≤ 1000) :
  bo acz 153 [Ag [u],S (e :: s),S k,I (n + 1 : Nat)] G (cm (ag vs) (a8 (ag vs) (rd (ag vs) n) x.2 (e :: s)) k):=by
 have hno:=tG (ts:=ag vs) (f:=rd (ag vs) n) (s:=s) hso
 have he0 : bt (e :: s) (Int.toNat 0) = e.toNat:=bh e s
 have hel : (e :: s).length = s.length + 1:=rfl
 rcases hso with ⟨h1,h2⟩ | ⟨h1,h2⟩ | ⟨h1,h2⟩
 all_goals
  have h1' : (x.2.sort : Int) = 82 ∨ (x.2.sort : Int) = 69 ∨ (x.2.sort : Int) = 85:=oM
  refine jB [(0,_),(1,_),(2,_),(3,_)] Tryz.func153 Tryz.ntmps153 fun B hok hB hW=>?_
  repeat' (first | refine jM ?_ | (refine jo ?_;first | refine jO fun _=>?_ | refine ah F ?_ | refine jL fun _=>?_ | refine jC F F F ?_ | refine aH F ?_ | refine av F ?_ | refine ab F F F cx_rf F ?_) | refine aA F F (ay oM) ?_ | refine an F F (aB oM) ?_ | (refine ad F (by first | rfl | (refine decide_eq_false ?_;(omega))) ?_))
  all_goals refine jZ (vs:=[_,_,_]) F ⟨F,F,F,trivial⟩ F ⟨Gh.le.refl _,F,?_⟩
  all_goals (rw [aC];exact ⟨_,_,_,F,fun h=>(by cases h),fun _=>hno⟩)
theorem aax {n : Nat} {u : Value} {vs : List bP} {x : bP} {k s : acA} (hR : j7 n u vs) (h : SchR G u vs) (hw : SchW (ag vs)) (hx : x ∈ vs) (hrf : aZ (ag vs) k = some x.2) (cx_rf : ao acz 160 [u,S k] G (· = Tu [Ag [U8 x.2.sort,S x.2.name,gc x],Bo true])) (hso : x.2.sort = 82) (hs : s.length ≤ 1999999) (hn : n ≤ 1000) (hkl : k.length ≤ 1000) :
  bo acz 153 [Ag [u],S (123 :: s),S k,I (n + 1 : Nat)] G (cm (ag vs) (a8 (ag vs) (rd (ag vs) n) x.2 (123 :: s)) k):=by
 have cx_rc:=vC (s:=s) hR h hw hx hrf hso oM hn hkl
 have he0 : bt (123 :: s) (Int.toNat 0) = 123:=bh 123 s
 have hel : (123 :: s).length = s.length + 1:=rfl
 have h1' : (x.2.sort : Int) = 82:=oM
 refine jB [(0,_),(1,_),(2,_),(3,_)] Tryz.func153 Tryz.ntmps153 fun B hok hB hW=>?_
 repeat' (first | refine jM ?_ | (refine jo ?_;first | refine jO fun _=>?_ | refine ah F ?_ | refine jL fun _=>?_ | refine jC F F F ?_ | refine aH F ?_ | refine ab F F F cx_rf F ?_) | refine aA F F (ay ‹_›) ?_ | refine ac F F ?_ | (refine aj (am (id:=3) _ (fun _ h=>h) ai ?_);refine jW 9 [1,2,3,5] (aa 13 46) ?_;(refine jG (aa 13 47) 0 F (bB F F F F) ?_);(refine jG (aa 13 63) 4 F (bB F F F F) ?_);refine jA 6 F ?_;(refine aI F F F cx_rc F ?_;rintro _ G hle ⟨q1,r1,ok1,rfl,hyes,hno⟩;skip);refine jS (aa 13 127) ?_;refine jT 0 [7,8,9,10,11,12] (aa 13 8191) ?_;refine jQ ?_))
 refine jZ (vs:=[_,_,_]) F ⟨F,F,F,trivial⟩ F ⟨hle,F,?_⟩
 rw [aC]
 exact ⟨_,_,_,F,hyes,hno⟩
theorem aay {n : Nat} {u : Value} {vs : List bP} {x : bP} {k s : acA} (h : SchR G u vs) (hw : SchW (ag vs)) (hx : x ∈ vs) (hrf : aZ (ag vs) k = some x.2) (cx_rf : ao acz 160 [u,S k] G (· = Tu [Ag [U8 x.2.sort,S x.2.name,gc x],Bo true])) (hso : x.2.sort = 69) (hs : s.length ≤ 1999999) (hn : n ≤ 1000) :
  bo acz 153 [Ag [u],S (35 :: s),S k,I (n + 1 : Nat)] G (cm (ag vs) (a8 (ag vs) (rd (ag vs) n) x.2 (35 :: s)) k):=by
 have hxt : x.2 ∈ ag vs:=List.mem_map_of_mem hx
 have hTW:=hw.ty _ hxt
 have hfl:=hTW.len
 have cx_tg:=qA (G:=G) (u:=u) (x:=x) (s:=s) oM h.sl.one (h.fl x hx) oM
 have he0 : bt (35 :: s) (Int.toNat 0) = 35:=bh 35 s
 have hel : (35 :: s).length = s.length + 1:=rfl
 have h1' : (x.2.sort : Int) = 69:=oM
 have hRT : a8 (ag vs) (rd (ag vs) n) x.2 (35 :: s) = match ci 200 s with
   | none=>none
   | some (n,r)=>if (bN x.2.fields n).isSome = true then some (.nd 69 [] n [],r) else none:=by
  unfold a8
  dsimp only
  rw [if_neg oM,if_pos hso,if_pos (show (35 : UInt8).toNat = 35 from rfl)]
  cases ci 200 s <;> rfl
 unfold ci at hRT
 simp only [iR] at cx_tg
 refine jB [(0,_),(1,_),(2,_),(3,_)] Tryz.func153 Tryz.ntmps153 fun B hok hB hW=>?_
 repeat' (first | refine jM ?_ | (refine jo ?_;first | refine jO fun _=>?_ | refine ah F ?_ | refine jL fun _=>?_ | refine jC F F F ?_ | refine aH F ?_ | refine av F ?_ | refine jF fun _=>?_ | refine jV (ak F F) ?_ | refine ab F F F cx_rf F ?_) | refine aA F F (ay ‹_›) ?_ | refine an F F (aB oM) ?_ | refine ac F F ?_ | refine ad F F ?_ | (refine aj (am (id:=5) _ (fun _ h=>h) ai ?_);refine jW 11 [1,2] (aa 13 6) ?_;(refine jG (aa 13 7) 0 F (bB F F F F) ?_);(refine jG (aa 13 15) 3 F (bB F F F F) ?_);refine cl [4,9] kR dC ⟨?_,?_,trivial⟩;(focus (refine bc F F ?_;(refine cO F F F cx_tg F ?_;rintro _ ⟨nt,rfl,hnt⟩);refine jK (aa 13 31) ?_;refine jW 4 [5,6,7,8] (aa 13 511) ?_;refine jA 9 F ?_;(refine jL fun _=>?_);refine jK (aa 13 1023) ?_;refine jA 10 F ?_;(refine jC F F F ?_);refine jK (aa 13 2047) ?_;refine jW 0 [11,12] (aa 13 8191) ?_;refine jQ ?_));rotate_left 1;(focus (refine bc F F ?_;(refine jL fun _=>?_);refine jK (aa 13 527) ?_;refine jA 4 F ?_;(refine cO F F F cx_tg F ?_;rintro _ ⟨nt,rfl,hnt⟩);refine jK (aa 13 543) ?_;refine jW 3 [5,6,7,8] (aa 13 1023) ?_;refine jA 10 F ?_;(refine jC F F F ?_);refine jK (aa 13 2047) ?_;refine jW 0 [11,12] (aa 13 8191) ?_;refine jQ ?_));rotate_left 1))
 all_goals
  rename_i y y8
  refine Nx.sealC (b:=y) fun G2 hG2 hsy=>?_
  refine Nx.sealC (b:=y8) fun G3 hG3 hsg=>?_
  refine jZ (vs:=[_,_,_]) F ⟨F,F,F,trivial⟩ F ⟨(hG2.trans hG3),F,?_⟩
  rw [aC]
  refine ⟨_,_,_,F,fun hb=>?_,fun hb=>?_⟩
  ·simp only [Bool.and_eq_true] at hb
   obtain ⟨hb1,hb2⟩:=hb
   obtain ⟨m0,hm⟩:=Option.isSome_iff_exists.1 hb1
   obtain ⟨d,hd⟩:=Option.isSome_iff_exists.1 hb2
   have hnm:=hnt m0 hm
   subst hnm
   rw [hd] at hsy
   simp only [Option.getD_some] at hsy
   have hdm : d ∈ x.2.fields:=List.mem_of_find?_eq_some hd
   have hdt : d.tag = nt:=by have:=List.find?_some hd;simpa using this
   exact ⟨.nd 69 [] d.tag [],y8,F,by rw [hRT,hm];dsimp only [Option.map_some];rw [hd,hdt];rfl,.enm k y8 y x.2 d ⟨hrf,hso⟩ hdm hsg (hsy.mono hG3)⟩
  ·rw [hRT]
   cases hm : aP (s.takeWhile a7) 200 with
   | none=>rfl
   | some m0 =>
    have hnm:=hnt m0 hm
    subst hnm
    rw [hm] at hb
    dsimp only [Option.map_some]
    rw [if_neg]
    intro h2
    rw [h2] at hb;cases hb
theorem aaw {n : Nat} {u : Value} {vs : List bP} {x : bP} {k s : acA} (hR : j7 n u vs) (h : SchR G u vs) (hw : SchW (ag vs)) (hx : x ∈ vs) (hrf : aZ (ag vs) k = some x.2) (cx_rf : ao acz 160 [u,S k] G (· = Tu [Ag [U8 x.2.sort,S x.2.name,gc x],Bo true])) (hso : x.2.sort = 85) (hs : s.length ≤ 1999999) (hn : n ≤ 1000) :
  bo acz 153 [Ag [u],S (60 :: s),S k,I (n + 1 : Nat)] G (cm (ag vs) (a8 (ag vs) (rd (ag vs) n) x.2 (60 :: s)) k):=by
 have edn : ((n + 1 : Nat) : Int) - 1 = (n : Nat):=oM
 have hxt : x.2 ∈ ag vs:=List.mem_map_of_mem hx
 have hTW:=hw.ty _ hxt
 have hfl:=hTW.len
 have cx_tg:=qA (G:=G) (u:=u) (x:=x) (s:=s) oM h.sl.one (h.fl x hx) oM
 have he0 : bt (60 :: s) (Int.toNat 0) = 60:=bh 60 s
 have hel : (60 :: s).length = s.length + 1:=rfl
 have h1' : (x.2.sort : Int) = 85:=oM
 have hRT : a8 (ag vs) (rd (ag vs) n) x.2 (60 :: s) = match aT (rd (ag vs) n) x.2 s with
   | none=>none
   | some ((d,v),r)=>match r with
    | []=>none
    | c' :: r'=>if c'.toNat = 62 then some (.nd 85 [] d.tag [v],r') else none:=by
  unfold a8
  dsimp only
  rw [if_neg oM,if_neg oM,if_pos (show (60 : UInt8).toNat = 60 from rfl)]
  cases aT (rd (ag vs) n) x.2 s <;> rfl
 simp only [iR] at cx_tg
 refine jB [(0,_),(1,_),(2,_),(3,_)] Tryz.func153 Tryz.ntmps153 fun B hok hB hW=>?_
 repeat' (first | refine jM ?_ | (refine jo ?_;first | refine jO fun _=>?_ | refine ah F ?_ | refine jL fun _=>?_ | refine jC F F F ?_ | refine aH F ?_ | refine av F ?_ | refine ab F F F cx_rf F ?_) | refine aA F F (ay ‹_›) ?_ | refine an F F (aB oM) ?_ | refine ac F F ?_ | refine ad F F ?_)
 (refine aj (am (id:=8) _ (fun _ h=>h) ai ?_);refine jW 11 [1,2] (aa 13 6) ?_;(refine jG (aa 13 7) 0 F (bB F F F F) ?_);(refine jG (aa 13 15) 3 F (bB F F F F) ?_);refine cl [4,9] kR dC ⟨?_,?_,trivial⟩;(focus (refine bc F F ?_;(refine cO F F F cx_tg F ?_;rintro _ ⟨nt,rfl,hnt⟩);refine jK (aa 13 31) ?_;refine jW 4 [5,6,7,8] (aa 13 511) ?_;refine jA 9 F ?_;(refine jL fun _=>?_);refine jK (aa 13 1023) ?_;refine jA 10 F ?_;(refine jC F F F ?_);refine jK (aa 13 2047) ?_;refine jW 0 [11,12] (aa 13 8191) ?_;refine jQ ?_));rotate_left 1;(focus (refine bc F F ?_;(refine jL fun _=>?_);refine jK (aa 13 527) ?_;refine jA 4 F ?_;(refine cO F F F cx_tg F ?_;rintro _ ⟨nt,rfl,hnt⟩);refine jK (aa 13 543) ?_;refine jW 3 [5,6,7,8] (aa 13 1023) ?_;refine jA 10 F ?_;(refine jC F F F ?_);refine jK (aa 13 2047) ?_;refine jW 0 [11,12] (aa 13 8191) ?_;refine jQ ?_));rotate_left 1)
 all_goals
  have hnone : ∀ {v : Value} {G' : Gh} {r : acA},aT (rd (ag vs) n) x.2 s = none → v = Tu [.pointer none,S r,Bo false] → cm (ag vs) (a8 (ag vs) (rd (ag vs) n) x.2 (60 :: s)) k v G':=fun h1 h2=>⟨_,_,_,h2,fun h=>(by cases h),fun _=>by rw [hRT,h1]⟩
  cases hb16 : (aP (s.takeWhile a7) 200).isSome && (bN x.2.fields nt).isSome with
  | false =>
   have hno : aT (rd (ag vs) n) x.2 s = none:=by
    cases hm : aP (s.takeWhile a7) 200 with
    | none=>exact eV (.inl hm)
    | some m0 =>
     refine eV (.inr ⟨m0,hm,?_⟩)
     rw [hm] at hb16
     rw [← hnt m0 hm]
     cases hf : bN x.2.fields nt with
     | none=>rfl
     | some d=>rw [hf] at hb16;cases hb16
   repeat' (first | refine jR ?_ | (refine jo ?_;refine aH F ?_) | refine aA F F F ?_ | refine ac F F ?_)
   all_goals refine jZ (vs:=[_,_,_]) F ⟨F,F,F,trivial⟩ F ⟨Gh.le.refl _,F,?_⟩
   all_goals exact hnone hno F
  | true =>
   simp only [Bool.and_eq_true] at hb16
   obtain ⟨hb1,hb2⟩:=hb16
   obtain ⟨m0,hm⟩:=Option.isSome_iff_exists.1 hb1
   obtain ⟨d,hd⟩:=Option.isSome_iff_exists.1 hb2
   have hnm:=hnt m0 hm
   subst hnm
   rw [hd]
   simp only [Option.getD_some]
   have hdm : d ∈ x.2.fields:=List.mem_of_find?_eq_some hd
   have hwl:=dH a7 s
   cases hdw : s.dropWhile a7 with
   | nil =>
    have hno : aT (rd (ag vs) n) x.2 s = none:=gx hm (fun s2 h=>by rw [hdw] at h;cases h)
    repeat' (first | refine jR ?_ | (refine jo ?_;first | refine aH F ?_ | refine av F ?_) | refine aA F F F ?_ | refine an F F F ?_ | refine ac F F ?_)
    all_goals refine jZ (vs:=[_,_,_]) F ⟨F,F,F,trivial⟩ F ⟨Gh.le.refl _,F,?_⟩
    all_goals exact hnone hno F
   | cons e r2 =>
    have he20 : bt (e :: r2) (Int.toNat 0) = e.toNat:=bh e r2
    have hel2 : (e :: r2).length = r2.length + 1:=rfl
    by_cases h61 : e.toNat = 61
    case neg =>
     have hno : aT (rd (ag vs) n) x.2 s = none:=gx hm (fun s2 h=>by rw [hdw] at h;simp only [List.cons.injEq] at h;exact h61 (by rw [h.1];rfl))
     repeat' (first | refine jM ?_ | (refine jo ?_;refine av F ?_) | refine an F F F ?_ | refine ac F (ay oM) ?_)
     all_goals refine jZ (vs:=[_,_,_]) F ⟨F,F,F,trivial⟩ F ⟨Gh.le.refl _,F,?_⟩
     all_goals exact hnone hno F
    have he61 : e = 61:=UInt8.toNat_inj.1 h61
    have hfs:=k5 (f:=rd (ag vs) n) (t:=x.2) (s:=s) hm hd (by rw [hdw,he61])
    have hdk : aM (ag vs) d.kind = true:=dP hw hxt oM hdm
    rw [hdw,List.length_cons] at hwl
    have cx_rd:=hR G d.kind r2 h hdk oM
    rw [← edn] at cx_rd
    repeat' (first | refine jM ?_ | (refine jo ?_;refine av F ?_) | refine an F F F ?_ | refine ad F (aB oM) ?_)
    (refine aj (am (id:=11) _ (fun _ h=>h) ai ?_);refine jW 10 [1,2,3,5,6] (aa 15 110) ?_;(refine jG (aa 15 111) 0 F (bB F F F F) ?_);(refine jG (aa 15 127) 4 F (aq F F F) ?_);refine jA 7 F ?_;(refine aI F F F cx_rd F ?_;rintro _ G hle ⟨q1,r1,ok1,rfl,hyes,hno⟩;skip);refine jS (aa 15 255) ?_;refine jT 0 [8,9,10,11,12,13,14] (aa 15 32767) ?_;refine jQ ?_)
    cases ok1 with
    | false =>
     have hno2 : aT (rd (ag vs) n) x.2 s = none:=by rw [hfs,hno rfl];rfl
     repeat' (first | refine jR ?_ | (refine jo ?_;refine aH F ?_) | refine aA F F F ?_ | refine ac F F ?_)
     all_goals refine jZ (vs:=[_,_,_]) F ⟨F,F,F,trivial⟩ F ⟨hle,F,?_⟩
     all_goals exact hnone hno2 F
    | true =>
     obtain ⟨w,wb,rfl,hf,hrep⟩:=hyes rfl
     have hfd : aT (rd (ag vs) n) x.2 s = some ((d,w),r1):=by rw [hfs,hf];rfl
     rw [hfd] at hRT
     dsimp only at hRT
     cases r1 with
     | nil =>
      repeat' (first | refine jR ?_ | (refine jo ?_;first | refine aH F ?_ | refine av F ?_) | refine aA F F F ?_ | refine an F F F ?_ | refine ac F F ?_)
      all_goals refine jZ (vs:=[_,_,_]) F ⟨F,F,F,trivial⟩ F ⟨hle,F,?_⟩
      all_goals (rw [aC];exact ⟨_,_,_,F,fun h=>(by cases h),fun _=>hRT⟩)
     | cons e3 r3 =>
      have he30 : bt (e3 :: r3) (Int.toNat 0) = e3.toNat:=bh e3 r3
      have hel3 : (e3 :: r3).length = r3.length + 1:=rfl
      dsimp only at hRT
      by_cases h62 : e3.toNat = 62
      case neg =>
       rw [if_neg h62] at hRT
       repeat' (first | refine jM ?_ | (refine jo ?_;refine av F ?_) | refine an F F F ?_ | refine ac F (ay oM) ?_)
       all_goals refine jZ (vs:=[_,_,_]) F ⟨F,F,F,trivial⟩ F ⟨hle,F,?_⟩
       all_goals (rw [aC];exact ⟨_,_,_,F,fun h=>(by cases h),fun _=>hRT⟩)
      rw [if_pos h62] at hRT
      repeat' (first | refine jM ?_ | (refine jo ?_;refine av F ?_) | refine an F F F ?_ | refine ad F (aB oM) ?_)
      (refine aj (am (id:=14) _ (fun _ h=>h) ai ?_);refine jW 8 [0,1,4,8,9] (aa 13 787) ?_;(refine jG (aa 13 791) 2 F (aq F F F) ?_);refine cl [3,5] kR dC ⟨?_,?_,trivial⟩;(focus (refine bc F F ?_;(refine jF fun _=>?_);refine jS (aa 13 799) ?_;refine jA 5 F ?_;(refine jF fun _=>?_);refine jS (aa 13 831) ?_;(refine jG (aa 13 895) 6 F (ak F F) ?_);refine jA 7 F ?_;(refine jO fun _=>?_);refine jS (aa 13 1023) ?_;refine jW 0 [10,11,12] (aa 13 8191) ?_;refine jQ ?_));rotate_left 1;(focus (refine bc F F ?_;(refine jF fun _=>?_);refine jS (aa 13 823) ?_;refine jA 3 F ?_;(refine jF fun _=>?_);refine jS (aa 13 831) ?_;(refine jG (aa 13 895) 6 F (ak F F) ?_);refine jA 7 F ?_;(refine jO fun _=>?_);refine jS (aa 13 1023) ?_;refine jW 0 [10,11,12] (aa 13 8191) ?_;refine jQ ?_));rotate_left 1)
      all_goals repeat' (refine jR ?_)
      all_goals
       rename_i y1 y2 y8
       refine Nx.sealC (b:=y1) fun G2 hG2 hs1=>?_
       refine Nx.sealC (b:=y2) fun G3 hG3 hs2=>?_
       refine Nx.sealC (b:=y8) fun G4 hG4 hsg=>?_
       refine jZ (vs:=[_,_,_]) F ⟨F,F,F,trivial⟩ F ⟨(((hle.trans hG2).trans hG3).trans hG4),F,?_⟩
       rw [aC]
       first | exact ⟨_,_,_,F,fun _=>⟨.nd 85 [] d.tag [w],y8,F,hRT,.uni k y8 y1 y2 wb 1 x.2 d w (Nat.le_refl _) ⟨hrf,hso⟩ hdm hsg (hs1.mono (hG3.trans hG4)) (hs2.mono hG4) (hrep.mono ((hG2.trans hG3).trans hG4))⟩,fun h=>(by cases h)⟩ | exact ⟨_,_,_,F,fun _=>⟨.nd 85 [] d.tag [w],y8,F,hRT,.uni k y8 y2 y1 wb 1 x.2 d w (Nat.le_refl _) ⟨hrf,hso⟩ hdm hsg (hs2.mono hG4) (hs1.mono (hG3.trans hG4)) (hrep.mono ((hG2.trans hG3).trans hG4))⟩,fun h=>(by cases h)⟩
end Go.E
