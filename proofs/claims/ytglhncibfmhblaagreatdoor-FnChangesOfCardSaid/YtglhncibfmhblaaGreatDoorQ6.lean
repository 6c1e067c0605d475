/- Contracts and plain laws that the statement rests on, part 6. Conditions: as each says. -/
import Derived.Test.YtglhncibfmhblaaGreatDoorQ5
set_option linter.unusedVariables false
set_option linter.unusedSimpArgs false
namespace Go.E
set_option maxRecDepth 20000
set_option maxHeartbeats 2000000
open Go.Proofs
theorem iN {ts : List Ty} (hw : SchW ts) {k : adB} {u v : V} (hu : OfK ts k u) (hv : OfK ts k v) (h : u.out = v.out) : u = v:=by
 have h1:=lM hw (max u.deep v.deep) hu (Nat.le_max_left _ _) [] lk
 have h2:=lM hw (max u.deep v.deep) hv (Nat.le_max_right _ _) [] lk
 rw [h,h2] at h1
 simp only [Option.some.injEq,Prod.mk.injEq,and_true] at h1
 exact h1.symm
theorem mF {w : Nat} {x : adB} {t : Int} {ks : List V} : V.tag (.nd w x t ks) = t:=rfl
def nf (ts : List Ty) (f : Fld) (x : V) : List V:=if x.out = bR ts f then [] else [.nd 61 [] f.tag [x]]
theorem eX {ts : List Ty} {f : Fld} {x : V} : dI ts f x [] = nf ts f x:=rfl
theorem dK {ts : List Ty} {f : Fld} {x y : V} {r : List V} : dI ts f x (y :: r) = if y.tag < f.tag then y :: dI ts f x r else nf ts f x ++ (if y.tag = f.tag then r else y :: r):=rfl
theorem zp {ts : List Ty} {f : Fld} {x : V} : ∀ {vs : List V},(∀ v ∈ vs,f.tag < v.tag) → dI ts f x vs = nf ts f x ++ vs
 | [],_=>by rw [eX,List.append_nil]
 | v :: vs,h=>by
  have:=h v (by simp)
  rw [dK,if_neg oM,if_neg oM]
theorem lC {f : Fld} : ∀ {vs : List V},(∀ v ∈ vs,f.tag < v.tag) → cC f vs = none
 | [],_=>rfl
 | v :: vs,h=>by
  have:=h v (by simp)
  rw [cC,if_neg oM]
  exact lC fun u hu=>h u (by simp [hu])
theorem sf {ts : List Ty} {f : Fld} {x : V} {vs : List V} (h : ∀ v ∈ vs,f.tag < v.tag) : cC f (nf ts f x ++ vs) = if x.out = bR ts f then none else some x:=by
 unfold nf
 split
 ·exact lC h
 ·rw [List.singleton_append,cC,mF,if_pos rfl];rfl
abbrev nz (vs : List V) : Prop:=vs.Pairwise fun a b=>a.tag < b.tag
theorem qT {ts : List Ty} {f : Fld} {x : V} : ∀ {vs : List V},nz vs → cC f (dI ts f x vs) = if x.out = bR ts f then none else some x
 | [],_=>by
  rw [eX]
  have:=sf (ts:=ts) (f:=f) (x:=x) (vs:=[]) (by simp)
  rwa [List.append_nil] at this
 | v :: vs,h=>by
  replace h:=List.pairwise_cons.1 h
  rw [dK]
  split
  ·rw [cC,if_neg oM]
   exact qT h.2
  ·refine sf fun u hu=>?_
   split at hu
   ·have:=h.1 u hu;omega
   ·rcases List.mem_cons.1 hu with rfl | hu
    ·omega
    ·have:=h.1 u hu;omega
theorem sC {ts : List Ty} {f : Fld} {x y : V} : ∀ {vs : List V},nz vs → dI ts f y (dI ts f x vs) = dI ts f y vs
 | [],_=>by
  rw [eX,eX]
  unfold nf
  split
  ·exact eX
  ·rw [dK,mF,if_neg oM,if_pos rfl,List.append_nil];rfl
 | v :: vs,h=>by
  replace h:=List.pairwise_cons.1 h
  rw [dK,dK (x:=y)]
  split
  ·rename_i hl
   rw [dK,if_pos hl,sC h.2]
  ·rename_i hl
   have hB : ∀ u ∈ (if v.tag = f.tag then vs else v :: vs),f.tag < u.tag:=fun u hu=>by
    split at hu
    ·have:=h.1 u hu;omega
    ·rcases List.mem_cons.1 hu with rfl | hu
     ·omega
     ·have:=h.1 u hu;omega
   generalize (if v.tag = f.tag then vs else v :: vs) = ws at hB
   rw [show nf ts f x = if x.out = bR ts f then [] else [.nd 61 [] f.tag [x]] from rfl]
   split
   ·exact zp hB
   ·rw [List.singleton_append,dK,mF,if_neg oM,if_pos rfl]
theorem rb {ts : List Ty} {t : Ty} (hw : TyW t) {f : Fld} (hf : f ∈ t.fields) {z : V} (hz : z.out = bR ts f) : ∀ {fs : List (Fld × V)},(∀ p ∈ fs,p.1 ∈ t.fields ∧ p.2.out ≠ bR ts p.1) → nz (fs.map aq) → dI ts f ((cC f (fs.map aq)).getD z) (fs.map aq) = fs.map aq
 | [],_,_=>by
  rw [List.map_nil,eX]
  show nf ts f z = []
  unfold nf;rw [if_pos hz]
 | q :: fs,hp,h=>by
  replace h:=List.pairwise_cons.1 h
  have hq:=hp q (by simp)
  rw [List.map_cons,dK,cC]
  by_cases hl : (aq q).tag < f.tag
  ·rw [if_pos hl,if_neg oM,rb hw hf hz (fun p hp'=>hp p (by simp [hp'])) h.2]
  ·rw [if_neg hl]
   by_cases he : (aq q).tag = f.tag
   ·rw [if_pos he,if_pos he]
    have h1 : q.1 = f:=eW hw hq.1 hf he
    have h2 : ((some (ab (aq q).kids 0)).getD z) = q.2:=rfl
    rw [h2]
    unfold nf
    rw [if_neg (by rw [← h1];exact hq.2),List.singleton_append,← h1]
   ·rw [if_neg he,if_neg he,lC fun v hv=>by have:=h.1 v hv;omega]
    show nf ts f z ++ _ = _
    unfold nf;rw [if_pos hz,List.nil_append]
theorem sh {ts : List Ty} {f g : Fld} (hg : g.tag ≠ f.tag) {x : V} : ∀ {vs : List V},cC g (dI ts f x vs) = cC g vs
 | []=>by
  rw [eX];unfold nf
  split
  ·rfl
  ·show (if V.tag (.nd 61 [] f.tag [x]) = g.tag then some (ab (V.kids (.nd 61 [] f.tag [x])) 0) else none) = none
   rw [mF,if_neg oM]
 | v :: vs=>by
  rw [dK]
  split
  ·rw [cC,cC,sh hg]
  ·have h1 : ∀ ws : List V,cC g (nf ts f x ++ ws) = cC g ws:=fun ws=>by
    unfold nf
    split
    ·rfl
    ·rw [List.singleton_append,cC,mF,if_neg oM]
   rw [h1]
   split
   ·rename_i he
    rw [cC,if_neg oM]
   ·rfl
def cQ (ts : List Ty) (k : adB) (v : V) (n : Int) (y : V) : V:=if v.what = 82 then (match a8 ts k with
  | some t=>(match co t.fields n with
   | some f=>.nd 82 [] 0 (dI ts f y v.kids)
   | none=>v)
  | none=>v)
 else .nd v.what [] v.tag (if v.what = 91 then v.kids.set n.toNat y else [y])
theorem eZ {ts : List Ty} {k k1 : adB} {v v1 x : V} {n : Int} {p : List Int} (h : aC ts k v n = some (k1,v1)) : bQ ts k v (n :: p) x = cQ ts k v n (bQ ts k1 v1 p x):=by
 rw [bQ,h];rfl
theorem td {ts : List Ty} {k k1 : adB} {v v1 : V} {n : Int} {p : List Int} (h : aC ts k v n = some (k1,v1)) : ce ts k v (n :: p) = ce ts k1 v1 p:=by
 rw [ce,h]
theorem pl {fs : List (Fld × V)} (h : fs.Pairwise fun a b=>a.1.tag < b.1.tag) : nz (fs.map aq):=List.pairwise_map.2 h
theorem oB {ts : List Ty} (hw : SchW ts) {k : adB} {v : V} (h : OfK ts k v) (hk : aA ts k = true) {n : Int} (hn : 0 ≤ n) {k1 : adB} {v1 : V} (hs : aC ts k v n = some (k1,v1)) {y : V} (hy : OfK ts k1 y) :
  (aC ts k (cQ ts k v n y) n = some (k1,y) ∧ cQ ts k v n v1 = v) ∧ (∀ z,cQ ts k (cQ ts k v n y) n z = cQ ts k v n z) ∧ ∀ m,0 ≤ m → m ≠ n → aC ts k (cQ ts k v n y) m = aC ts k v m:=by
 obtain ⟨c,r,rfl⟩:=dX hk
 have hs0:=hs
 unfold aC at hs
 dsimp only at hs
 split at hs
 ·rename_i hc
  split at hs
  ·rename_i hlt
   simp only [Option.some.injEq,Prod.mk.injEq] at hs
   obtain ⟨rfl,rfl⟩:=hs
   rcases di h oM with ⟨g1,_⟩ | ⟨g1,_⟩ | ⟨g1,_⟩ | ⟨g1,ks,g2,g3,rfl⟩ | ⟨g1,rfl | ⟨u,g3,rfl⟩⟩
   ·omega
   ·omega
   ·omega
   ·rw [V.kids] at hlt ⊢
    have hi : n.toNat < ks.length:=oM
    have e : ∀ z,cQ ts (c :: r) (.nd 91 [] 0 ks) n z = .nd 91 [] 0 (ks.set n.toNat z):=fun z=>by
     unfold cQ;rw [V.what,if_neg dC,if_pos rfl];rfl
    refine ⟨⟨?_,?_⟩,fun z=>?_,fun m hm hne=>?_⟩
    ·rw [e]
     unfold aC
     dsimp only
     rw [if_pos hc,V.kids,if_pos (by rw [List.length_set];exact hlt),aI (by rw [List.length_set];exact hi),List.getElem_set_self]
    ·rw [e,aI hi,List.set_getElem_self]
    ·rw [e,e]
     unfold cQ;rw [V.what,if_neg dC,if_pos rfl,V.kids,List.set_set];rfl
    ·rw [e]
     unfold aC
     dsimp only
     rw [if_pos hc,if_pos hc,V.kids,V.kids,List.length_set]
     split
     ·rename_i hm2
      rw [aI (by rw [List.length_set];omega),aI oM,List.getElem_set_ne oM]
     ·rfl
   ·simp [V.kids] at hlt;omega
   ·simp [V.kids] at hlt
    obtain rfl : n = 0:=oM
    have e : ∀ w z,cQ ts (c :: r) (.nd 63 [] 0 [w]) 0 z = .nd 63 [] 0 [z]:=fun w z=>by
     unfold cQ;rw [V.what,if_neg dC,if_neg dC];rfl
    refine ⟨⟨?_,?_⟩,fun z=>?_,fun m hm hne=>?_⟩
    ·rw [e]
     unfold aC
     dsimp only
     rw [if_pos hc,V.kids,if_pos (by simp)];rfl
    ·rw [e];rfl
    ·rw [e,e,e]
    ·rw [e]
     unfold aC
     dsimp only
     rw [if_pos hc,if_pos hc,V.kids,V.kids,if_neg (by simp;omega),if_neg (by simp;omega)]
  ·cases hs
 ·rename_i hc
  split at hs
  ·cases hs
  ·rename_i t hr
   have ht:=bj hr
   split at hs
   ·cases hs
   ·rename_i f hf
    have hfm:=List.mem_of_find?_eq_some hf
    have hft : f.tag = n:=by have:=List.find?_some hf;simpa using this
    split at hs
    ·cases hs
    ·rename_i h69
     split at hs
     ·rename_i h82
      simp only [Option.some.injEq,Prod.mk.injEq] at hs
      obtain ⟨rfl,rfl⟩:=hs
      rcases bH h hr with ⟨_,fs,rfl,g3,g4,g5,g6⟩ | ⟨g1,_⟩ | ⟨g1,_⟩
      ·have e : ∀ vs z,cQ ts (c :: r) (.nd 82 [] 0 vs) n z = .nd 82 [] 0 (dI ts f z vs):=fun vs z=>by
        unfold cQ;rw [V.what,if_pos rfl,hr]
        dsimp only
        rw [hf];rfl
       have hst:=fp hw ht oM hfm
       have hsrt:=pl g6
       refine ⟨⟨?_,?_⟩,fun z=>?_,fun m hm hne=>?_⟩
       ·rw [e]
        unfold aC
        dsimp only
        rw [if_neg hc,hr]
        dsimp only
        rw [hf]
        dsimp only
        rw [if_neg h69,if_pos h82]
        unfold cX
        rw [V.kids,qT hsrt]
        split
        ·rename_i hso
         show some (f.kind,d8 ts f) = _
         rw [iN hw hst.1 hy (by rw [hst.2.2,hso])]
        ·rfl
       ·rw [e]
        unfold cX
        rw [V.kids,rb (hw.ty t ht) hfm hst.2.2 (fun p hp=>⟨g3 p hp,g5 p hp⟩) hsrt]
       ·rw [e,e,e,sC hsrt]
       ·rw [e]
        unfold aC
        dsimp only
        rw [if_neg hc,if_neg hc,hr]
        dsimp only
        cases hg : co t.fields m with
        | none=>rfl
        | some g =>
         have hgt : g.tag = m:=by have:=List.find?_some hg;simpa using this
         dsimp only
         rw [if_neg h69,if_neg h69,if_pos h82,if_pos h82]
         unfold cX
         rw [V.kids,V.kids,sh oM]
      ·omega
      ·omega
     ·rename_i h82
      split at hs
      ·rename_i htg
       simp only [Option.some.injEq,Prod.mk.injEq] at hs
       obtain ⟨rfl,rfl⟩:=hs
       rcases bH h hr with ⟨g1,_⟩ | ⟨g1,_⟩ | ⟨_,_,d,u,rfl,g4,g5⟩
       ·omega
       ·omega
       ·have e : ∀ w z,cQ ts (c :: r) (.nd 85 [] d.tag [w]) n z = .nd 85 [] d.tag [z]:=fun w z=>by
         unfold cQ;rw [V.what,if_neg dC,if_neg dC];rfl
        have htg2 : d.tag = n:=htg
        refine ⟨⟨?_,?_⟩,fun z=>?_,fun m hm hne=>?_⟩
        ·rw [e]
         unfold aC
         dsimp only
         rw [if_neg hc,hr]
         dsimp only
         rw [hf]
         dsimp only
         rw [if_neg h69,if_neg h82,V.tag,if_pos htg2];rfl
        ·rw [e];rfl
        ·rw [e,e,e]
        ·rw [e]
         unfold aC
         dsimp only
         rw [if_neg hc,if_neg hc,hr]
         dsimp only
         cases hg : co t.fields m with
         | none=>rfl
         | some g =>
          dsimp only
          rw [if_neg h69,if_neg h69,if_neg h82,if_neg h82,V.tag,V.tag,if_neg oM,if_neg oM]
      ·cases hs
def iq {α : Type} (tg : α → Int) (told : Bool) (node : α) (tag : Int) : List α → Bool → List α
 | [],d=>if (told && !d) = true then [node] else []
 | y :: r,d=>(if tag ≤ tg y ∧ (told && !d) = true then [node] else []) ++ ((if tg y = tag then [] else [y]) ++ iq tg told node tag r (d || decide (tag ≤ tg y)))
def dg {α : Type} (tg : α → Int) (node : α) (tag : Int) : List α → Bool → List α
 | [],d=>if d = true then [] else [node]
 | y :: r,d=>(if tag < tg y ∧ d = false then [node] else []) ++ ((if tg y = tag then [] else [y]) ++ dg tg node tag r (d || decide (tag < tg y)))
theorem sG {α β : Type} {tg : α → Int} {tg' : β → Int} {h : α → β} (ht : ∀ a,tg' (h a) = tg a) {node : α} {tag : Int} : ∀ {l : List α} {d : Bool},(dg tg node tag l d).map h = dg tg' (h node) tag (l.map h) d
 | [],d=>by rw [dg,List.map_nil,dg];split <;> rfl
 | y :: r,d=>by
  rw [List.map_cons,dg,dg,List.map_append,List.map_append,sG ht,ht]
  congr 1
  ·split <;> rfl
  ·congr 1
   split <;> rfl
theorem rf {α : Type} {tg : α → Int} {told : Bool} {node : α} {tag : Int} : ∀ {l : List α},(∀ y ∈ l,tag < tg y) → iq tg told node tag l true = l
 | [],_=>by simp [iq]
 | y :: r,h=>by
  have h1:=h y (by simp)
  rw [iq,Bool.true_or,rf fun z hz=>h z (by simp [hz]),if_neg (by simp),if_neg oM];rfl
theorem kJ {α : Type} {tg : α → Int} {node : α} {tag : Int} : ∀ {l : List α},(∀ y ∈ l,tag < tg y) → dg tg node tag l true = l
 | [],_=>by simp [dg]
 | y :: r,h=>by
  have h1:=h y (by simp)
  rw [dg,Bool.true_or,kJ fun z hz=>h z (by simp [hz]),if_neg (by simp),if_neg oM];rfl
theorem uF {ts : List Ty} {f : Fld} {x : V} : ∀ {vs : List V},nz vs → iq V.tag (decide (x.out ≠ bR ts f)) (.nd 61 [] f.tag [x]) f.tag vs false = dI ts f x vs
 | [],_=>by
  rw [eX,iq];unfold nf
  by_cases e : x.out = bR ts f
  ·rw [if_pos e,if_neg (by simp [e])]
  ·rw [if_neg e,if_pos (by simp [e])]
 | y :: r,h=>by
  replace h:=List.pairwise_cons.1 h
  rw [dK,iq,Bool.false_or]
  by_cases hl : y.tag < f.tag
  ·rw [if_pos hl,if_neg (by intro h;omega),if_neg oM,show decide (f.tag ≤ y.tag) = false from decide_eq_false oM,uF h.2];rfl
  ·rw [if_neg hl,show decide (f.tag ≤ y.tag) = true from decide_eq_true oM,rf fun z hz=>by have:=h.1 z hz;omega]
   unfold nf
   have e2 : (if y.tag = f.tag then ([] : List V) else [y]) ++ r = if y.tag = f.tag then r else y :: r:=by split <;> rfl
   rw [e2]
   congr 1
   by_cases e : x.out = bR ts f
   ·rw [if_pos e,if_neg (by simp [e])]
   ·rw [if_neg e,if_pos ⟨oM,by simp [e]⟩]
theorem zq {α : Type} {tg : α → Int} {node : α} {tag : Int} : ∀ {l : List α},(∀ y ∈ l,tag < tg y) → dg tg node tag l false = node :: l
 | [],_=>by simp [dg]
 | y :: r,h=>by
  have h1:=h y (by simp)
  rw [dg,Bool.false_or,decide_eq_true h1,kJ fun z hz=>h z (by simp [hz]),if_pos ⟨h1,rfl⟩,if_neg oM];rfl
theorem uD {ts : List Ty} {f : Fld} {x : V} : ∀ {vs : List V},nz vs → dg V.tag (.nd 61 [] f.tag [x]) f.tag vs (decide (x.out = bR ts f)) = dI ts f x vs
 | [],_=>by
  rw [eX,dg];unfold nf
  by_cases e : x.out = bR ts f
  ·rw [if_pos e,if_pos (by simp [e])]
  ·rw [if_neg e,if_neg (by simp [e])]
 | y :: r,h=>by
  replace h:=List.pairwise_cons.1 h
  rw [dK]
  by_cases hl : y.tag < f.tag
  ·rw [if_pos hl,dg,if_neg (by intro h;omega),if_neg oM,show decide (f.tag < y.tag) = false from decide_eq_false oM,Bool.or_false,uD h.2];rfl
  ·rw [if_neg hl]
   have hgt : ∀ z ∈ r,f.tag < z.tag:=fun z hz=>by have:=h.1 z hz;omega
   by_cases e : x.out = bR ts f
   ·unfold nf;rw [decide_eq_true e,if_pos e,List.nil_append,dg,Bool.true_or,kJ hgt,if_neg (by simp),List.nil_append]
    split <;> rfl
   ·unfold nf;rw [decide_eq_false e,if_neg e,dg,Bool.false_or]
    by_cases he : y.tag = f.tag
    ·rw [if_neg (by intro h;omega),if_pos he,show decide (f.tag < y.tag) = false from decide_eq_false oM,zq hgt,if_pos he];rfl
    ·rw [if_pos ⟨oM,rfl⟩,if_neg he,show decide (f.tag < y.tag) = true from decide_eq_true oM,kJ hgt,if_neg he];rfl
variable {ts : List Ty}
theorem rx {fs : List Fld} {n : Int} {d : Fld} (h : co fs n = some d) : d.tag = n ∧ d ∈ fs:=⟨by have:=List.find?_some h;simpa using this,List.mem_of_find?_eq_some h⟩
theorem se : ∀ {ks : List V} {i : Nat} {y : V},i < ks.length → V.tots (ks.set i y) + (ab ks i).tot = V.tots ks + y.tot
 | [],i,y,h=>by simp at h
 | v :: ks,0,y,_=>by rw [List.set_cons_zero,V.tots,V.tots,show ab (v :: ks) 0 = v from rfl];omega
 | v :: ks,i + 1,y,h=>by
  have:=se (ks:=ks) (i:=i) (y:=y) (by simpa using h)
  rw [List.set_cons_succ,V.tots,V.tots,show ab (v :: ks) (i + 1) = ab ks i from rfl];omega
theorem sR {f : Fld} {y : V} : V.tots (nf ts f y) ≤ 20 + y.tot:=by
 unfold nf
 split
 ·simp [V.tots]
 ·simp [V.tots,bI]
theorem sA {f : Fld} {y : V} : ∀ {vs : List V},V.tots (dI ts f y vs) ≤ V.tots vs + 20 + y.tot
 | []=>by rw [eX];have:=sR (ts:=ts) (f:=f) (y:=y);simp only [V.tots];omega
 | v :: vs=>by
  have h1:=sR (ts:=ts) (f:=f) (y:=y)
  have h2:=sA (f:=f) (y:=y) (vs:=vs)
  rw [dK]
  split
  ·rw [V.tots,V.tots];omega
  ·rw [fE]
   split
   ·rw [V.tots];omega
   ·rw [V.tots];omega
theorem xN (v : V) : (ab v.kids 0).tot ≤ v.tot:=by
 obtain ⟨w,x,t,ks⟩:=v
 rw [bI,V.kids]
 cases ks with
 | nil =>
  have : (ab ([] : List V) 0).tot = 20:=by show V.tot (.nd 0 [] 0 []) = 20;rw [bI];simp [V.tots]
  omega
 | cons u ks=>rw [V.tots,show ab (u :: ks) 0 = u from rfl];omega
theorem ra {f : Fld} {y u : V} : ∀ {vs : List V},nz vs → cC f vs = some u → V.tots (dI ts f y vs) + u.tot ≤ V.tots vs + 20 + y.tot
 | [],_,h=>by cases h
 | v :: vs,hs,h=>by
  replace hs:=List.pairwise_cons.1 hs
  have h1:=sR (ts:=ts) (f:=f) (y:=y)
  rw [cC] at h
  rw [dK]
  by_cases he : v.tag = f.tag
  ·rw [if_pos he] at h
   simp only [Option.some.injEq] at h
   have h3:=xN v
   rw [h] at h3
   rw [if_neg oM,if_pos he,fE,V.tots];omega
  ·rw [if_neg he] at h
   by_cases hl : v.tag < f.tag
   ·have h2:=ra (y:=y) hs.2 h
    rw [if_pos hl,V.tots,V.tots];omega
   ·rw [lC fun z hz=>by have:=hs.1 z hz;omega] at h
    cases h
theorem xx (hw : SchW ts) {k : adB} {v : V} (h : OfK ts k v) (hk : aA ts k = true) {n : Int} (hn : 0 ≤ n) {k1 : adB} {v1 : V} (e : aC ts k v n = some (k1,v1)) (y : V) :
  (cQ ts k v n y).tot + v1.tot ≤ v.tot + 40 + y.tot ∨ (v1.tot ≤ 40000 ∧ (cQ ts k v n y).tot ≤ v.tot + 40 + y.tot):=by
 obtain ⟨c,r,rfl⟩:=dX hk
 unfold aC at e
 dsimp only at e
 split at e
 ·rename_i hc
  split at e
  ·rename_i hlt
   simp only [Option.some.injEq,Prod.mk.injEq] at e
   obtain ⟨rfl,rfl⟩:=e
   rcases di h oM with ⟨g1,_⟩ | ⟨g1,_⟩ | ⟨g1,_⟩ | ⟨g1,ks,g2,g3,rfl⟩ | ⟨g1,rfl | ⟨u,g3,rfl⟩⟩
   ·omega
   ·omega
   ·omega
   ·rw [V.kids] at hlt ⊢
    have hs:=se (ks:=ks) (i:=n.toNat) (y:=y) oM
    unfold cQ
    rw [V.what,if_neg dC,if_pos rfl,V.kids,bI,bI]
    left;omega
   ·simp [V.kids] at hlt;omega
   ·simp [V.kids] at hlt
    obtain rfl : n = 0:=oM
    unfold cQ
    rw [V.what,if_neg dC,if_neg dC,V.kids,bI,bI]
    left
    simp only [V.tots]
    show 20 + _ + (y.tot + 0) + u.tot ≤ _
    omega
  ·cases e
 ·split at e
  ·cases e
  ·rename_i t hr
   have ht:=bj hr
   split at e
   ·cases e
   ·rename_i f hf
    have hfm:=List.mem_of_find?_eq_some hf
    split at e
    ·cases e
    ·rename_i h69
     split at e
     ·rename_i h82
      simp only [Option.some.injEq,Prod.mk.injEq] at e
      obtain ⟨rfl,rfl⟩:=e
      rcases bH h hr with ⟨_,fs,rfl,g3,g4,g5,g6⟩ | ⟨g1,_⟩ | ⟨g1,_⟩
      ·have e1 : cQ ts (c :: r) (.nd 82 [] 0 (fs.map aq)) n y = .nd 82 [] 0 (dI ts f y (fs.map aq)):=by
        unfold cQ;rw [V.what,if_pos rfl,hr]
        dsimp only
        rw [hf];rfl
       rw [e1,bI,bI]
       unfold cX
       rw [V.kids]
       cases hto : cC f (fs.map aq) with
       | none =>
        have h1:=sA (ts:=ts) (f:=f) (y:=y) (vs:=fs.map aq)
        have h2:=pi hw ht h69 hfm
        right
        refine ⟨h2,?_⟩
        omega
       | some u =>
        have h1:=ra (ts:=ts) (y:=y) (pl g6) hto
        left
        show _ + u.tot ≤ _
        omega
      ·omega
      ·omega
     ·rename_i h82
      split at e
      ·simp only [Option.some.injEq,Prod.mk.injEq] at e
       obtain ⟨rfl,rfl⟩:=e
       rcases bH h hr with ⟨h1,_⟩ | ⟨h1,_⟩ | ⟨_,_,d,u,rfl,g4,g5⟩
       ·omega
       ·omega
       ·unfold cQ
        rw [V.what,if_neg dC,if_neg dC,V.kids,bI,bI]
        left
        simp only [V.tots]
        show 20 + _ + (y.tot + 0) + u.tot ≤ _
        omega
      ·cases e
theorem gR (hw : SchW ts) : ∀ {p : List Int} {k : adB} {v y : V} {k' : adB} {v' : V},OfK ts k v → aA ts k = true → (∀ n ∈ p,0 ≤ n) → ce ts k v p = some (k',v') → (bQ ts k v p y).tot ≤ v.tot + 40040 * p.length + y.tot
 | [],k,v,y,k',v',h,hk,_,e=>by rw [bQ];omega
 | n :: p,k,v,y,k',v',h,hk,hp,e=>by
  unfold ce at e
  cases hs : aC ts k v n with
  | none=>rw [hs] at e;cases e
  | some x =>
   rw [hs] at e
   obtain ⟨k1,v1⟩:=x
   have hn:=hp n (by simp)
   obtain ⟨h1,h2⟩:=cP hw h hk hn hs
   have ih:=gR hw (y:=y) h1 h2 (fun m hm=>hp m (by simp [hm])) e
   rw [eZ hs,List.length_cons]
   rcases xx hw h hk hn hs (bQ ts k1 v1 p y) with g | ⟨g1,g2⟩
   ·omega
   ·omega
variable {G : Gh}
abbrev vt : TypeId:=4
abbrev xt : TypeId:=109
theorem abR {v : V} {c : VC} (h : V.rep G v c) (ht : v.tot ≤ 1000000) : aZ adA 76 [Ag (bi c)] G (· = Bo (decide (v.out.length ≤ 400 ∧ v.deep ≤ 12))):=by
 have cx_pr:=eh (G:=G) v.tot (Nat.le_refl _) ht h
 have cx_dp:=xa (G:=G) v.tot (Nat.le_refl _) ht h
 have hdl:=oQ v
 obtain ⟨w,tx,tg,a,m,kc⟩:=c
 have e0 : bi ⟨w,tx,tg,a,m,kc⟩ = [U8 (w : Nat),S tx,I tg,.slice a m kc]:=rfl
 rw [e0] at cx_pr cx_dp ⊢
 by_cases h1 : v.out.length ≤ 400
 ·by_cases h2 : v.deep ≤ 12
  ·rw [decide_eq_true (p:=v.out.length ≤ 400 ∧ v.deep ≤ 12) ⟨h1,h2⟩]
   refine jE [(0,_)] Tryz.func76 Tryz.ntmps76 fun B hB=>?_
   repeat' (first | refine jR ?_ | (refine jo ?_;first | refine jO fun _=>?_ | refine bM F ?_ | refine aP F ?_ | refine ae F F F cx_pr F ?_ | refine ae F F F cx_dp F ?_) | refine aG F F (ax oM) ?_)
   all_goals refine jY (vs:=[_]) ?_
   all_goals (rw [aR,decide_eq_true oM])
  ·rw [decide_eq_false (p:=v.out.length ≤ 400 ∧ v.deep ≤ 12) (fun h=>h2 h.2)]
   refine jE [(0,_)] Tryz.func76 Tryz.ntmps76 fun B hB=>?_
   repeat' (first | refine jR ?_ | (refine jo ?_;first | refine jO fun _=>?_ | refine bM F ?_ | refine aP F ?_ | refine ae F F F cx_pr F ?_ | refine ae F F F cx_dp F ?_) | refine aG F F (ax oM) ?_)
   all_goals refine jY (vs:=[_]) ?_
   all_goals (rw [aR,decide_eq_false oM])
 ·rw [decide_eq_false (p:=v.out.length ≤ 400 ∧ v.deep ≤ 12) (fun h=>h1 h.1)]
  refine jE [(0,_)] Tryz.func76 Tryz.ntmps76 fun B hB=>?_
  repeat' (first | refine jR ?_ | (refine jo ?_;first | refine jO fun _=>?_ | refine bM F ?_ | refine aE F ?_ | refine ae F F F cx_pr F ?_) | refine aw F F (aF oM) ?_)
  all_goals refine jY (vs:=[_]) ?_
  all_goals rfl
def mR (bo bd bt bq bx : Nat) (told d : Bool) (pf : Value) (xc : List Value) (a : Option Addr) (k : Nat) (cs : List VC) : List Own :=
 [.acc (.slice a cs.length k) dc 4 cs.length (ah bi cs),.blk bd (.cells (List.toArray [Bo d]) vt (0,0)),.blk bt (.cells (List.toArray [Bo told]) vt (0,0)),.blk bo (.cells (List.toArray [U8 82,S [],I 0,.slice a cs.length k]) dc (0,0)),.blk bx (.cells xc.toArray dc (0,0)),.blk bq (.cells (List.toArray [pf]) xt (0,0))]
theorem zu {a : Own} {l r : List Own} : (a :: (l ++ r)).Perm (l ++ a :: r):=List.perm_middle.symm
theorem t6 {G2 : Gh} {y : Nat} {t : Int} {x : V} {dx : VC} {gs : List V} {cs : List VC} (hG2 : Gh.le G G2) (htg : 0 ≤ t ∧ t ≤ 999999) (hx : V.rep G x dx) (hreps : V.reps G gs cs) (hsg : bT G2 y 0 [U8 (dx.what : Nat),S dx.text,I dx.tag,.slice dx.a dx.n dx.c]) : V.reps G2 (gs ++ [.nd 61 [] t [x]]) (cs ++ [⟨61,[],t,some ⟨y,0,none⟩,1,1⟩]) :=
 ib (dV dC htg (fun _=>rfl) rfl (cs:=[dx]) ⟨rfl,.inr ⟨y,0,1,rfl,Nat.le_refl _,hsg⟩⟩ (by rw [V.reps];exact ⟨dx,[],F,aD hG2 hx,by rw [V.reps]⟩)) (cL hG2 hreps)
theorem yX {bo bd bt bq bx bf of j : Nat} {told d : Bool} {t : Ty} {x : V} {dx : VC} {gs : List V} {cs : List VC} {a : Option Addr} {k : Nat} (hreps : V.reps G gs cs) (hx : V.rep G x dx) (hsf : bT G bf of (ah gx t.fields)) (hj : j < t.fields.length) (hgl : gs.length ≤ 1000000) (htg : 0 ≤ (ab t.fields j).tag ∧ (ab t.fields j).tag ≤ 999999) :
  Fn adA 153 [Pt bt 0,Pt bd 0,Pt bo 0,Pt bq 0,Pt bx 0] G (mR bo bd bt bq bx told d (Pt bf (of + j * 6)) [U8 (dx.what : Nat),S dx.text,I dx.tag,.slice dx.a dx.n dx.c] a k cs)
   (fun _ G' L'=>∃ cs2 a2 k2,Gh.le G G' ∧ V.reps G' (gs ++ (if told && !d then [.nd 61 [] (ab t.fields j).tag [x]] else [])) cs2 ∧ L' = mR bo bd bt bq bx told true (Pt bf (of + j * 6)) [U8 (dx.what : Nat),S dx.text,I dx.tag,.slice dx.a dx.n dx.c] a2 k2 cs2):=by
 have hcl:=gn hreps
 unfold mR
 cases told with
 | false =>
  rw [if_neg (by simp),List.append_nil]
  refine jB [(0,_),(1,_),(2,_),(3,_),(4,_)] Tryz.func153 Tryz.ntmps153 fun B hok hB hW=>?_
  repeat' (first | refine jR ?_ | (refine jo ?_;first | refine aB F ?_ | refine aE F ?_ | refine jD F F F ?_) | refine aw F F F ?_ | refine ad F F ?_)
  exact ku (vs:=[]) F trivial F (List.Sublist.refl _) ⟨cs,a,k,Gh.le.refl _,hreps,F⟩
 | true =>
  cases d with
  | true =>
   rw [if_neg (by simp),List.append_nil]
   refine jB [(0,_),(1,_),(2,_),(3,_),(4,_)] Tryz.func153 Tryz.ntmps153 fun B hok hB hW=>?_
   repeat' (first | refine jR ?_ | (refine jo ?_;first | refine aB F ?_ | refine aP F ?_ | refine jD F F F ?_) | refine aG F F F ?_ | refine ad F F ?_)
   exact ku (vs:=[]) F trivial F (List.Sublist.refl _) ⟨cs,a,k,Gh.le.refl _,hreps,F⟩
  | false =>
   rw [if_pos (by simp)]
   refine jB [(0,_),(1,_),(2,_),(3,_),(4,_)] Tryz.func153 Tryz.ntmps153 fun B hok hB hW=>?_
   repeat' (first | refine jR ?_ | (refine jo ?_;first | refine aB F ?_ | refine aP F ?_) | refine aG F F F ?_ | refine ac F F ?_)
   (refine an (ao (id:=1) [.blk bx (.cells (List.toArray [U8 (dx.what : Nat),S dx.text,I dx.tag,.slice dx.a dx.n dx.c]) dc (0,0)),.blk bq (.cells (List.toArray [Pt bf (of + j * 6)]) xt (0,0))] (by intro y hy;simp only [List.mem_cons,List.not_mem_nil,or_false] at hy ⊢;rcases hy with hy | hy <;> simp [hy]) am ?_);refine jW 15 [0] (aa 16 1) ?_;(refine jG (aa 16 5) 2 F (aX F F F) ?_);refine jW 12 [3,4] (aa 16 29) ?_;((refine jG (aa 16 61) 5 F (b8 F F aS ?_ F F) ?_;focus omega));(refine jG (aa 16 125) 6 F (bP F F F F) ?_);refine b7 [1,7,10] kR dC ⟨?_,?_,?_,trivial⟩;(focus (refine aM F F ?_;(refine aB F ?_);refine jK (aa 16 127) ?_;(refine jG (aa 16 639) 9 F (af F) ?_);refine b7 [7,10] kR dC ⟨?_,?_,trivial⟩;(focus (refine aM F F ?_;(refine jF fun _=>?_);refine jK (aa 16 767) ?_;(refine jG (aa 16 1023) 8 F (ay F F) ?_);refine jA 10 F ?_;(refine jF fun _=>?_);refine jK (aa 16 2047) ?_;refine jA 11 F ?_;((refine bC F F F F F F F F F ?_ fun _ _=>?_;focus omega));refine jK (aa 16 4095) ?_;refine jW 3 [14] (aa 16 20479) ?_;((refine jG (aa 16 24575) 12 F (ak F F ?_) ?_;focus omega));refine b7 [13,15] kR dC ⟨?_,?_,trivial⟩;(focus (refine aM F F ?_;((refine d5 F F F F F F F F inferInstance ?_ ?_;(focus ((rw [cN];omega);done))));refine jK (aa 16 32767) ?_;refine jA 15 F ?_;(refine jD F F F ?_);refine jK (aa 16 65535) ?_;refine jQ ?_));rotate_left 1;(focus (refine aM F F ?_;(refine jD F F F ?_);refine jK (aa 16 57343) ?_;refine jA 13 F ?_;((refine d5 F F F F F F F F inferInstance ?_ ?_;(focus ((rw [cN];omega);done))));refine jK (aa 16 65535) ?_;refine jQ ?_));rotate_left 1));rotate_left 2;(focus (refine aM F F ?_;(refine jF fun _=>?_);refine jK (aa 16 1663) ?_;refine jA 7 F ?_;(refine jF fun _=>?_);refine jK (aa 16 1791) ?_;(refine jG (aa 16 2047) 8 F (ay F F) ?_);refine jA 11 F ?_;((refine bC F F F F F F F F F ?_ fun _ _=>?_;focus omega));refine jK (aa 16 4095) ?_;refine jW 3 [14] (aa 16 20479) ?_;((refine jG (aa 16 24575) 12 F (ak F F ?_) ?_;focus omega));refine b7 [13,15] kR dC ⟨?_,?_,trivial⟩;(focus (refine aM F F ?_;((refine d5 F F F F F F F F inferInstance ?_ ?_;(focus ((rw [cN];omega);done))));refine jK (aa 16 32767) ?_;refine jA 15 F ?_;(refine jD F F F ?_);refine jK (aa 16 65535) ?_;refine jQ ?_));rotate_left 1;(focus (refine aM F F ?_;(refine jD F F F ?_);refine jK (aa 16 57343) ?_;refine jA 13 F ?_;((refine d5 F F F F F F F F inferInstance ?_ ?_;(focus ((rw [cN];omega);done))));refine jK (aa 16 65535) ?_;refine jQ ?_));rotate_left 1));rotate_left 2));rotate_left 4;(focus (refine aM F F ?_;(refine jF fun _=>?_);refine jK (aa 16 253) ?_;(refine jG (aa 16 509) 8 F (ay F F) ?_);refine b7 [1,10] kR dC ⟨?_,?_,trivial⟩;(focus (refine aM F F ?_;(refine aB F ?_);refine jK (aa 16 511) ?_;(refine jG (aa 16 1023) 9 F (af F) ?_);refine jA 10 F ?_;(refine jF fun _=>?_);refine jK (aa 16 2047) ?_;refine jA 11 F ?_;((refine bC F F F F F F F F F ?_ fun _ _=>?_;focus omega));refine jK (aa 16 4095) ?_;refine jW 3 [14] (aa 16 20479) ?_;((refine jG (aa 16 24575) 12 F (ak F F ?_) ?_;focus omega));refine b7 [13,15] kR dC ⟨?_,?_,trivial⟩;(focus (refine aM F F ?_;((refine d5 F F F F F F F F inferInstance ?_ ?_;(focus ((rw [cN];omega);done))));refine jK (aa 16 32767) ?_;refine jA 15 F ?_;(refine jD F F F ?_);refine jK (aa 16 65535) ?_;refine jQ ?_));rotate_left 1;(focus (refine aM F F ?_;(refine jD F F F ?_);refine jK (aa 16 57343) ?_;refine jA 13 F ?_;((refine d5 F F F F F F F F inferInstance ?_ ?_;(focus ((rw [cN];omega);done))));refine jK (aa 16 65535) ?_;refine jQ ?_));rotate_left 1));rotate_left 2;(focus (refine aM F F ?_;(refine jF fun _=>?_);refine jK (aa 16 1533) ?_;refine jA 1 F ?_;(refine aB F ?_);refine jK (aa 16 1535) ?_;(refine jG (aa 16 2047) 9 F (af F) ?_);refine jA 11 F ?_;((refine bC F F F F F F F F F ?_ fun _ _=>?_;focus omega));refine jK (aa 16 4095) ?_;refine jW 3 [14] (aa 16 20479) ?_;((refine jG (aa 16 24575) 12 F (ak F F ?_) ?_;focus omega));refine b7 [13,15] kR dC ⟨?_,?_,trivial⟩;(focus (refine aM F F ?_;((refine d5 F F F F F F F F inferInstance ?_ ?_;(focus ((rw [cN];omega);done))));refine jK (aa 16 32767) ?_;refine jA 15 F ?_;(refine jD F F F ?_);refine jK (aa 16 65535) ?_;refine jQ ?_));rotate_left 1;(focus (refine aM F F ?_;(refine jD F F F ?_);refine jK (aa 16 57343) ?_;refine jA 13 F ?_;((refine d5 F F F F F F F F inferInstance ?_ ?_;(focus ((rw [cN];omega);done))));refine jK (aa 16 65535) ?_;refine jQ ?_));rotate_left 1));rotate_left 2));rotate_left 4;(focus (refine aM F F ?_;(refine jF fun _=>?_);refine jK (aa 16 1149) ?_;refine b7 [1,7] kR dC ⟨?_,?_,trivial⟩;(focus (refine aM F F ?_;(refine aB F ?_);refine jK (aa 16 1151) ?_;(refine jG (aa 16 1663) 9 F (af F) ?_);refine jA 7 F ?_;(refine jF fun _=>?_);refine jK (aa 16 1791) ?_;(refine jG (aa 16 2047) 8 F (ay F F) ?_);refine jA 11 F ?_;((refine bC F F F F F F F F F ?_ fun _ _=>?_;focus omega));refine jK (aa 16 4095) ?_;refine jW 3 [14] (aa 16 20479) ?_;((refine jG (aa 16 24575) 12 F (ak F F ?_) ?_;focus omega));refine b7 [13,15] kR dC ⟨?_,?_,trivial⟩;(focus (refine aM F F ?_;((refine d5 F F F F F F F F inferInstance ?_ ?_;(focus ((rw [cN];omega);done))));refine jK (aa 16 32767) ?_;refine jA 15 F ?_;(refine jD F F F ?_);refine jK (aa 16 65535) ?_;refine jQ ?_));rotate_left 1;(focus (refine aM F F ?_;(refine jD F F F ?_);refine jK (aa 16 57343) ?_;refine jA 13 F ?_;((refine d5 F F F F F F F F inferInstance ?_ ?_;(focus ((rw [cN];omega);done))));refine jK (aa 16 65535) ?_;refine jQ ?_));rotate_left 1));rotate_left 2;(focus (refine aM F F ?_;(refine jF fun _=>?_);refine jK (aa 16 1277) ?_;(refine jG (aa 16 1533) 8 F (ay F F) ?_);refine jA 1 F ?_;(refine aB F ?_);refine jK (aa 16 1535) ?_;(refine jG (aa 16 2047) 9 F (af F) ?_);refine jA 11 F ?_;((refine bC F F F F F F F F F ?_ fun _ _=>?_;focus omega));refine jK (aa 16 4095) ?_;refine jW 3 [14] (aa 16 20479) ?_;((refine jG (aa 16 24575) 12 F (ak F F ?_) ?_;focus omega));refine b7 [13,15] kR dC ⟨?_,?_,trivial⟩;(focus (refine aM F F ?_;((refine d5 F F F F F F F F inferInstance ?_ ?_;(focus ((rw [cN];omega);done))));refine jK (aa 16 32767) ?_;refine jA 15 F ?_;(refine jD F F F ?_);refine jK (aa 16 65535) ?_;refine jQ ?_));rotate_left 1;(focus (refine aM F F ?_;(refine jD F F F ?_);refine jK (aa 16 57343) ?_;refine jA 13 F ?_;((refine d5 F F F F F F F F inferInstance ?_ ?_;(focus ((rw [cN];omega);done))));refine jK (aa 16 65535) ?_;refine jQ ?_));rotate_left 1));rotate_left 2));rotate_left 4)
   all_goals repeat' (first | refine jR ?_ | (refine jo ?_;refine jD F F F ?_))
   all_goals
    rename_i x3 x2 x1 k1
    have hlen : ∀ y : Nat,(cs ++ [(⟨61,[],(ab t.fields j).tag,some ⟨y,0,none⟩,1,1⟩ : VC)]).length = cs.length + 1:=fun y=>by simp
    first | (refine Nx.sealC (b:=x3) fun G2 hG2 hsg=>?_;refine ku (vs:=[]) F trivial F ?_ ⟨_,some ⟨x1,0,none⟩,k1,hG2,t6 (y:=x3) hG2 htg hx hreps hsg,F⟩;rw [hlen,← (show ah bi cs ++ [U8 ((61 : Nat) : Int),S [],I (ab t.fields j).tag,.slice (some ⟨x3,0,none⟩) 1 1] = _ from (bW bi cs (⟨61,[],(ab t.fields j).tag,some ⟨x3,0,none⟩,1,1⟩ : VC)).symm)];repeat (first | exact List.Sublist.refl _ | apply List.Sublist.cons_cons | apply List.Sublist.cons)) | (refine Nx.sealC (b:=x2) fun G2 hG2 hsg=>?_;refine ku (vs:=[]) F trivial F ?_ ⟨_,some ⟨x1,0,none⟩,k1,hG2,t6 (y:=x2) hG2 htg hx hreps hsg,F⟩;rw [hlen,← (show ah bi cs ++ [U8 ((61 : Nat) : Int),S [],I (ab t.fields j).tag,.slice (some ⟨x2,0,none⟩) 1 1] = _ from (bW bi cs (⟨61,[],(ab t.fields j).tag,some ⟨x2,0,none⟩,1,1⟩ : VC)).symm)];repeat (first | exact List.Sublist.refl _ | apply List.Sublist.cons_cons | apply List.Sublist.cons))
theorem zr {α : Type} [Inhabited α] {tg : α → Int} {told : Bool} {node : α} {tag : Int} {l : List α} {i : Nat} (hi : i < l.length) {d : Bool} : iq tg told node tag (l.drop i) d = (if tag ≤ tg (ab l i) ∧ (told && !d) = true then [node] else []) ++ ((if tg (ab l i) = tag then [] else [ab l i]) ++ iq tg told node tag (l.drop (i + 1)) (d || decide (tag ≤ tg (ab l i)))):=by
 rw [List.drop_eq_getElem_cons hi,aI hi,iq]
theorem acD {b bf of j : Nat} {qs : List c6} {t : Ty} {fs : List (Fld × V)} {c dx : VC} {x : V} (hS : ScI G b qs) (hw : SchW (al qs)) (ht : t ∈ al qs) (hso : t.sort = 82) (hsf : bT G bf of (ah gx t.fields)) (hj : j < t.fields.length) (hrep : V.rep G (.nd 82 [] 0 (fs.map aq)) c) (hx : V.rep G x dx) (h9 : fs.length ≤ 90000) (hxt : x.tot ≤ 1000000) (hsr : nz (fs.map aq)) :
  bG adA 121 [Pt b 0,Ag (bi c),Pt bf (of + j * 6),Ag (bi dx)] G (fun r G'=>∃ c',r = Ag (bi c') ∧ V.rep G' (.nd 82 [] 0 (dI (al qs) (ab t.fields j) x (fs.map aq))) c'):=by
 have hTW:=hw.ty t ht
 have hfm : ab t.fields j ∈ t.fields:=bB hj
 have htg:=(hTW.fld _ hfm).tag
 have hdk : aA (al qs) (ab t.fields j).kind = true:=dY hw ht oM hfm
 have cx_of:=vV hS hw hsf hj hdk
 have cx_pr:=eh (G:=G) (c:=dx) x.tot (Nat.le_refl _) hxt hx
 obtain ⟨a,k,cs,rfl,_,_,_,hcl,hsl,hrs⟩:=cS hrep
 have e0 : bi ⟨82,[],0,a,(fs.map aq).length,k⟩ = [U8 (82 : Nat),S [],I 0,.slice a (fs.map aq).length k]:=rfl
 have e1 : bi dx = [U8 (dx.what : Nat),S dx.text,I dx.tag,.slice dx.a dx.n dx.c]:=rfl
 rw [e0]
 rw [e1] at cx_pr ⊢
 have hml : (fs.map aq).length = fs.length:=by simp
 have hnt : ∀ i,i < fs.length → ab (fs.map aq) i = aq (ab fs i):=fun i hi=>by rw [aI (by simpa using hi),aI hi];simp
 have hrn : ∀ i,i < fs.length → V.rep G (aq (ab fs i)) (ab cs i):=fun i hi=>by
  have:=fV hrs i oM
  rwa [hnt i hi] at this
 obtain ⟨told,htold⟩ : ∃ told,decide (x.out ≠ bR (al qs) (ab t.fields j)) = told:=⟨_,rfl⟩
 have hput : iq V.tag told (.nd 61 [] (ab t.fields j).tag [x]) (ab t.fields j).tag (fs.map aq) false = dI (al qs) (ab t.fields j) x (fs.map aq):=by rw [← htold];exact uF hsr
 refine jB [(0,_),(1,_),(2,_),(3,_)] Tryz.func121 Tryz.ntmps121 fun B hok hB hW=>?_
 repeat' (first | refine jR ?_ | (refine jo ?_;first | refine jO fun _=>?_ | refine jL fun _=>?_ | refine jV (ay F F) ?_ | refine jD F F F ?_ | refine jC F F F ?_ | refine aB F ?_ | refine jV (l3 F F) ?_ | refine jV (af F) ?_) | (refine an (ao (id:=2) _ (fun _ h=>h) am ?_);refine jT 7 [2] (aa 8 4) ?_;(refine jG (aa 8 5) 0 F (bP F F F F) ?_);(refine jG (aa 8 13) 3 F (aX F F F) ?_);refine b7 [1,6] kR dC ⟨?_,?_,trivial⟩;(focus (refine aM F F ?_;(refine ae F F F cx_pr F ?_);refine jK (aa 8 15) ?_;refine b7 [4,6] kR dC ⟨?_,?_,trivial⟩;(focus (refine aM F F ?_;(refine ae F F F cx_of F ?_);refine jK (aa 8 31) ?_;refine jW 2 [5] (aa 8 63) ?_;refine jA 6 F ?_;(refine jL fun _=>?_);refine jK (aa 8 127) ?_;refine jA 7 F ?_;(refine jD F F F ?_);refine jK (aa 8 255) ?_;refine jQ ?_));rotate_left 1;(focus (refine aM F F ?_;(refine jL fun _=>?_);refine jK (aa 8 79) ?_;refine jA 4 F ?_;(refine ae F F F cx_of F ?_);refine jK (aa 8 95) ?_;refine jW 1 [5] (aa 8 127) ?_;refine jA 7 F ?_;(refine jD F F F ?_);refine jK (aa 8 255) ?_;refine jQ ?_));rotate_left 1));rotate_left 2;(focus (refine aM F F ?_;(refine jL fun _=>?_);refine jK (aa 8 77) ?_;refine jA 1 F ?_;(refine ae F F F cx_pr F ?_);refine jK (aa 8 79) ?_;refine jA 4 F ?_;(refine ae F F F cx_of F ?_);refine jK (aa 8 95) ?_;refine jW 1 [5] (aa 8 127) ?_;refine jA 7 F ?_;(refine jD F F F ?_);refine jK (aa 8 255) ?_;refine jQ ?_));rotate_left 1))
 all_goals
  rw [← hput]
  rename_i y6 y5 y4 y3 y2 y1 y0
  rw [htold]
  refine Nx.addNil dc 4 (Nx.perm (.cons _ (.cons _ (.cons _ (.cons _ ((List.Perm.swap _ _ _).trans (.cons _ (List.Perm.swap _ _ _))))))) ?_)
  refine aV (ι:=List V × List VC × Option Addr × Nat × Bool × Nat × Gh) (fun q=>(V.reps q.2.2.2.2.2.2 q.1 q.2.1 ∧ Gh.le G q.2.2.2.2.2.2) ∧ (q.2.2.2.2.2.1 ≤ fs.length ∧ q.1.length ≤ 2 * q.2.2.2.2.2.1 + 1) ∧ iq V.tag told (.nd 61 [] (ab t.fields j).tag [x]) (ab t.fields j).tag (fs.map aq) false = q.1 ++ iq V.tag told (.nd 61 [] (ab t.fields j).tag [x]) (ab t.fields j).tag ((fs.map aq).drop q.2.2.2.2.2.1) q.2.2.2.2.1) (fun q=>[(9,Pt y2 0),(12,.func (.func 153) #[] #[Pt y1 0,Pt y0 0,Pt y2 0,Pt y5 0,Pt y4 0]),(6,Pt y5 0),(24,.slice a (fs.map aq).length k),(25,I (fs.map aq).length),(26,I q.2.2.2.2.2.1),(8,Pt y3 0)]) (fun q=>q.2.2.2.2.2.2) (fun q=>[.acc (.slice q.2.2.1 q.2.1.length q.2.2.2.1) dc 4 q.2.1.length (ah bi q.2.1),.blk y0 (.cells (List.toArray [Bo q.2.2.2.2.1]) vt (0,0)),.blk y1 (.cells (List.toArray [Bo told]) vt (0,0)),.blk y2 (.cells (List.toArray [U8 82,S [],I 0,.slice q.2.2.1 q.2.1.length q.2.2.2.1]) dc (0,0)),.blk y4 (.cells (List.toArray [U8 (dx.what : Nat),S dx.text,I dx.tag,.slice dx.a dx.n dx.c]) dc (0,0)),.blk y5 (.cells (List.toArray [Pt bf (of + j * 6)]) xt (0,0)),.blk y3 (.cells (List.toArray [U8 0,S [],I 0,aK]) dc (0,0))]) (fun q=>fs.length - q.2.2.2.2.2.1) ([],[],none,0,false,0,G) ?_ tU F sB (fun q Hq=>?_)
  ·exact ⟨⟨by rw [V.reps],Gh.le.refl _⟩,⟨Nat.zero_le _,Nat.zero_le _⟩,F⟩
  obtain ⟨gs,cs1,a1,k1,d,i,Gq⟩:=q
  dsimp only at Hq ⊢
  obtain ⟨⟨hreps,hgq⟩,⟨hi0,hgl⟩,hinv⟩:=Hq
  have hcl1:=gn hreps
  have hsf2:=hsf.mono hgq
  by_cases hi : i < fs.length
  ·have hpa:=zr (tg:=V.tag) (told:=told) (node:=.nd 61 [] (ab t.fields j).tag [x]) (tag:=(ab t.fields j).tag) (l:=fs.map aq) (i:=i) oM (d:=d)
   rw [hnt i hi,show (aq (ab fs i)).tag = (ab fs i).1.tag from rfl] at hpa
   rw [hpa] at hinv
   clear hpa
   obtain ⟨xb,xo,xc,e,hsx⟩:=(hsl.mono hgq).expl oM
   simp only [Value.slice.injEq] at e
   obtain ⟨rfl,-,rfl⟩:=e
   have hri:=aD hgq (hrn i hi)
   obtain ⟨ai,ki,csi,hci,_,_,_,hcli,hsli,hrsi⟩:=cS hri
   have hci : ab cs i = ⟨61,[],(ab fs i).1.tag,ai,1,ki⟩:=hci
   by_cases hge : (ab t.fields j).tag ≤ (ab fs i).1.tag
   ·rw [decide_eq_true hge] at hinv
    simp only [hge,true_and,Bool.or_true] at hinv
    repeat' (first | refine jR ?_ | (refine jo ?_;first | refine jL fun _=>?_ | refine jC F F F ?_ | (refine jV (gQ F F aS ?_ aS) ?_;focus omega) | refine jV (ak F F oM) ?_) | refine ac F (ax oM) ?_)
    dsimp only [VC.sl]
    rename_i yz
    (refine an (ao (id:=8) _ (fun _ h=>h) am ?_);refine jT 6 [0] (aa 7 1) ?_;(refine jG (aa 7 3) 1 F (aX F F F) ?_);(refine jG (aa 7 7) 2 F (aX F F F) ?_);refine jT 2 [3,4] (aa 7 31) ?_;((refine jG (aa 7 63) 5 F (b8 F F aS ?_ F F) ?_;focus omega));refine jT 0 [6] (aa 7 127) ?_;refine jQ ?_)
    repeat' (first | refine jR ?_ | refine ac F (ax ‹_›) ?_)
    refine jo ?_
    refine iC (vs:=[Pt y1 0,Pt y0 0,Pt y2 0,Pt y5 0,Pt y4 0]) (Lp:=mR y2 y0 y1 y5 y4 told d (Pt bf (of + j * 6)) [U8 (dx.what : Nat),S dx.text,I dx.tag,.slice dx.a dx.n dx.c] a1 k1 cs1) (R:=[_,_]) F F F (yX hreps (aD hgq hx) hsf2 hj oM ⟨oM,oM⟩) (zu (l:=mR y2 y0 y1 y5 y4 told d (Pt bf (of + j * 6)) [U8 (dx.what : Nat),S dx.text,I dx.tag,.slice dx.a dx.n dx.c] a1 k1 cs1) (r:=[_])) F ?_
    rintro r3 G3 L3 ⟨cs2,a2,k2,hle,hr2,rfl⟩
    simp only [mR,List.cons_append,List.nil_append]
    have hcl2:=gn hr2
    have hl2 : cs2.length ≤ cs1.length + 1:=by rw [hcl2,hcl1,List.length_append];split <;> simp
    have hsf3:=hsf2.mono hle
    by_cases heq : (ab fs i).1.tag = (ab t.fields j).tag
    ·rw [if_pos heq,List.nil_append,← List.append_assoc] at hinv
     repeat' (refine jR ?_)
     (refine an (ao (id:=10) _ (fun _ h=>h) am ?_);refine jT 6 [0] (aa 7 1) ?_;(refine jG (aa 7 3) 1 F (aX F F F) ?_);(refine jG (aa 7 7) 2 F (aX F F F) ?_);refine jT 2 [3,4] (aa 7 31) ?_;((refine jG (aa 7 63) 5 F (b8 F F aS ?_ F F) ?_;focus omega));refine jT 0 [6] (aa 7 127) ?_;refine jQ ?_)
     repeat' (first | refine jM ?_ | refine ad F (aF oM) ?_)
     exact bm (_,cs2,a2,k2,true,i + 1,G3) ⟨⟨hr2,hgq.trans hle⟩,⟨by dsimp only;omega,by dsimp only;split <;> simp <;> omega⟩,hinv⟩ (by dsimp only;omega) tU rfl sB
    ·rw [if_neg heq,← List.append_assoc,← List.append_assoc] at hinv
     repeat' (refine jR ?_)
     (refine an (ao (id:=10) _ (fun _ h=>h) am ?_);refine jT 6 [0] (aa 7 1) ?_;(refine jG (aa 7 3) 1 F (aX F F F) ?_);(refine jG (aa 7 7) 2 F (aX F F F) ?_);refine jT 2 [3,4] (aa 7 31) ?_;((refine jG (aa 7 63) 5 F (b8 F F aS ?_ F F) ?_;focus omega));refine jT 0 [6] (aa 7 127) ?_;refine jQ ?_)
     repeat' (first | refine jR ?_ | refine ac F (ax ‹_›) ?_)
     (refine an (ao (id:=11) [.blk yz (.cells (List.toArray [U8 (61 : Nat),S [],I (ab fs i).1.tag,.slice ai 1 ki]) dc (0,0))] (by intro y hy;simp only [List.mem_cons,List.not_mem_nil,or_false] at hy ⊢;simp [hy]) am ?_);refine jW 9 [0] (aa 10 1) ?_;(refine jG (aa 10 5) 2 F (bP F F F F) ?_);refine b7 [1,4] kR dC ⟨?_,?_,trivial⟩;(focus (refine aM F F ?_;(refine aB F ?_);refine jK (aa 10 7) ?_;(refine jG (aa 10 15) 3 F (af F) ?_);refine jA 4 F ?_;(refine jF fun _=>?_);refine jK (aa 10 31) ?_;refine jA 5 F ?_;((refine bC F F F F F F F F F ?_ fun _ _=>?_;focus omega));refine jK (aa 10 63) ?_;refine jW 3 [8] (aa 10 319) ?_;((refine jG (aa 10 383) 6 F (ak F F ?_) ?_;focus omega));refine b7 [7,9] kR dC ⟨?_,?_,trivial⟩;(focus (refine aM F F ?_;((refine d5 F F F F F F F F inferInstance ?_ ?_;(focus ((rw [cN];omega);done))));refine jK (aa 10 511) ?_;refine jA 9 F ?_;(refine jD F F F ?_);refine jK (aa 10 1023) ?_;refine jQ ?_));rotate_left 1;(focus (refine aM F F ?_;(refine jD F F F ?_);refine jK (aa 10 895) ?_;refine jA 7 F ?_;((refine d5 F F F F F F F F inferInstance ?_ ?_;(focus ((rw [cN];omega);done))));refine jK (aa 10 1023) ?_;refine jQ ?_));rotate_left 1));rotate_left 2;(focus (refine aM F F ?_;(refine jF fun _=>?_);refine jK (aa 10 21) ?_;refine jA 1 F ?_;(refine aB F ?_);refine jK (aa 10 23) ?_;(refine jG (aa 10 31) 3 F (af F) ?_);refine jA 5 F ?_;((refine bC F F F F F F F F F ?_ fun _ _=>?_;focus omega));refine jK (aa 10 63) ?_;refine jW 3 [8] (aa 10 319) ?_;((refine jG (aa 10 383) 6 F (ak F F ?_) ?_;focus omega));refine b7 [7,9] kR dC ⟨?_,?_,trivial⟩;(focus (refine aM F F ?_;((refine d5 F F F F F F F F inferInstance ?_ ?_;(focus ((rw [cN];omega);done))));refine jK (aa 10 511) ?_;refine jA 9 F ?_;(refine jD F F F ?_);refine jK (aa 10 1023) ?_;refine jQ ?_));rotate_left 1;(focus (refine aM F F ?_;(refine jD F F F ?_);refine jK (aa 10 895) ?_;refine jA 7 F ?_;((refine d5 F F F F F F F F inferInstance ?_ ?_;(focus ((rw [cN];omega);done))));refine jK (aa 10 1023) ?_;refine jQ ?_));rotate_left 1));rotate_left 2)
     all_goals repeat' (refine jM ?_)
     all_goals
      rename_i _ z1 zc
      rw [show ah bi cs2 ++ [U8 (61 : Nat),S [],I (ab fs i).1.tag,.slice ai 1 ki] = ah bi (cs2 ++ [⟨61,[],(ab fs i).1.tag,ai,1,ki⟩]) from (bW bi cs2 (⟨61,[],(ab fs i).1.tag,ai,1,ki⟩ : VC)).symm,← show (cs2 ++ [(⟨61,[],(ab fs i).1.tag,ai,1,ki⟩ : VC)]).length = cs2.length + 1 by simp]
      exact bm (_,cs2 ++ [⟨61,[],(ab fs i).1.tag,ai,1,ki⟩],some ⟨z1,0,none⟩,zc,true,i + 1,G3) ⟨⟨ib (hci ▸ aD hle hri) hr2,hgq.trans hle⟩,⟨by dsimp only;omega,by dsimp only;simp only [List.length_append,List.length_cons,List.length_nil];split <;> simp <;> omega⟩,hinv⟩ (by dsimp only;omega) tU rfl sB
   ·have heq : ¬ (ab fs i).1.tag = (ab t.fields j).tag:=oM
    rw [decide_eq_false hge,if_neg (fun h=>hge h.1),if_neg heq,Bool.or_false,List.nil_append,← List.append_assoc] at hinv
    repeat' (first | refine jR ?_ | (refine jo ?_;first | refine jL fun _=>?_ | refine jC F F F ?_ | (refine jV (gQ F F aS ?_ aS) ?_;focus omega) | refine jV (ak F F oM) ?_) | refine ac F (ax oM) ?_)
    dsimp only [VC.sl]
    rename_i yz
    (refine an (ao (id:=8) _ (fun _ h=>h) am ?_);refine jT 6 [0] (aa 7 1) ?_;(refine jG (aa 7 3) 1 F (aX F F F) ?_);(refine jG (aa 7 7) 2 F (aX F F F) ?_);refine jT 2 [3,4] (aa 7 31) ?_;((refine jG (aa 7 63) 5 F (b8 F F aS ?_ F F) ?_;focus omega));refine jT 0 [6] (aa 7 127) ?_;refine jQ ?_)
    repeat' (first | refine jR ?_ | refine ad F (aF ‹_›) ?_)
    (refine an (ao (id:=10) _ (fun _ h=>h) am ?_);refine jT 6 [0] (aa 7 1) ?_;(refine jG (aa 7 3) 1 F (aX F F F) ?_);(refine jG (aa 7 7) 2 F (aX F F F) ?_);refine jT 2 [3,4] (aa 7 31) ?_;((refine jG (aa 7 63) 5 F (b8 F F aS ?_ F F) ?_;focus omega));refine jT 0 [6] (aa 7 127) ?_;refine jQ ?_)
    repeat' (first | refine jR ?_ | refine ac F (ax ‹_›) ?_)
    (refine an (ao (id:=11) [.blk yz (.cells (List.toArray [U8 (61 : Nat),S [],I (ab fs i).1.tag,.slice ai 1 ki]) dc (0,0))] (by intro y hy;simp only [List.mem_cons,List.not_mem_nil,or_false] at hy ⊢;simp [hy]) am ?_);refine jW 9 [0] (aa 10 1) ?_;(refine jG (aa 10 5) 2 F (bP F F F F) ?_);refine b7 [1,4] kR dC ⟨?_,?_,trivial⟩;(focus (refine aM F F ?_;(refine aB F ?_);refine jK (aa 10 7) ?_;(refine jG (aa 10 15) 3 F (af F) ?_);refine jA 4 F ?_;(refine jF fun _=>?_);refine jK (aa 10 31) ?_;refine jA 5 F ?_;((refine bC F F F F F F F F F ?_ fun _ _=>?_;focus omega));refine jK (aa 10 63) ?_;refine jW 3 [8] (aa 10 319) ?_;((refine jG (aa 10 383) 6 F (ak F F ?_) ?_;focus omega));refine b7 [7,9] kR dC ⟨?_,?_,trivial⟩;(focus (refine aM F F ?_;((refine d5 F F F F F F F F inferInstance ?_ ?_;(focus ((rw [cN];omega);done))));refine jK (aa 10 511) ?_;refine jA 9 F ?_;(refine jD F F F ?_);refine jK (aa 10 1023) ?_;refine jQ ?_));rotate_left 1;(focus (refine aM F F ?_;(refine jD F F F ?_);refine jK (aa 10 895) ?_;refine jA 7 F ?_;((refine d5 F F F F F F F F inferInstance ?_ ?_;(focus ((rw [cN];omega);done))));refine jK (aa 10 1023) ?_;refine jQ ?_));rotate_left 1));rotate_left 2;(focus (refine aM F F ?_;(refine jF fun _=>?_);refine jK (aa 10 21) ?_;refine jA 1 F ?_;(refine aB F ?_);refine jK (aa 10 23) ?_;(refine jG (aa 10 31) 3 F (af F) ?_);refine jA 5 F ?_;((refine bC F F F F F F F F F ?_ fun _ _=>?_;focus omega));refine jK (aa 10 63) ?_;refine jW 3 [8] (aa 10 319) ?_;((refine jG (aa 10 383) 6 F (ak F F ?_) ?_;focus omega));refine b7 [7,9] kR dC ⟨?_,?_,trivial⟩;(focus (refine aM F F ?_;((refine d5 F F F F F F F F inferInstance ?_ ?_;(focus ((rw [cN];omega);done))));refine jK (aa 10 511) ?_;refine jA 9 F ?_;(refine jD F F F ?_);refine jK (aa 10 1023) ?_;refine jQ ?_));rotate_left 1;(focus (refine aM F F ?_;(refine jD F F F ?_);refine jK (aa 10 895) ?_;refine jA 7 F ?_;((refine d5 F F F F F F F F inferInstance ?_ ?_;(focus ((rw [cN];omega);done))));refine jK (aa 10 1023) ?_;refine jQ ?_));rotate_left 1));rotate_left 2)
    all_goals repeat' (refine jM ?_)
    all_goals
     rename_i _ z1 zc
     rw [show ah bi cs1 ++ [U8 (61 : Nat),S [],I (ab fs i).1.tag,.slice ai 1 ki] = ah bi (cs1 ++ [⟨61,[],(ab fs i).1.tag,ai,1,ki⟩]) from (bW bi cs1 (⟨61,[],(ab fs i).1.tag,ai,1,ki⟩ : VC)).symm,← show (cs1 ++ [(⟨61,[],(ab fs i).1.tag,ai,1,ki⟩ : VC)]).length = cs1.length + 1 by simp]
     exact bm (_,cs1 ++ [⟨61,[],(ab fs i).1.tag,ai,1,ki⟩],some ⟨z1,0,none⟩,zc,d,i + 1,Gq) ⟨⟨ib (hci ▸ hri) hreps,hgq⟩,⟨by dsimp only;omega,by dsimp only;simp only [List.length_append,List.length_cons,List.length_nil];omega⟩,hinv⟩ (by dsimp only;omega) tU rfl sB
  ·rw [List.drop_eq_nil_of_le oM,iq] at hinv
   repeat' (first | refine jR ?_ | refine ad F (aF oM) ?_)
   refine jo ?_
   refine iC (vs:=[Pt y1 0,Pt y0 0,Pt y2 0,Pt y5 0,Pt y4 0]) (Lp:=mR y2 y0 y1 y5 y4 told d (Pt bf (of + j * 6)) [U8 (dx.what : Nat),S dx.text,I dx.tag,.slice dx.a dx.n dx.c] a1 k1 cs1) (R:=[_]) F F F (yX hreps (aD hgq hx) hsf2 hj oM ⟨oM,oM⟩) (List.Perm.refl _) F ?_
   rintro r3 G3 L3 ⟨cs2,a2,k2,hle,hr2,rfl⟩
   simp only [mR,List.cons_append,List.nil_append]
   have hcl2:=gn hr2
   repeat' (first | refine jR ?_ | (refine jo ?_;first | refine jC F F F ?_ | refine bM F ?_))
   refine Nx.sealS (v:=.slice a2 cs2.length k2) fun G5 hG5 hsl5=>?_
   refine jZ (vs:=[_]) F ⟨aJ F F F F,trivial⟩ F ⟨((hgq.trans hle).trans hG5),F,?_⟩
   exact ⟨⟨82,[],0,a2,cs2.length,k2⟩,F,by rw [hinv];exact dV dC dC (fun h=>absurd h dC) hcl2 hsl5 (cL hG5 hr2)⟩
theorem wP {b o c : Nat} {n : Int} {p : List Int} (h : aT G (.slice (some ⟨b,o,none⟩) (n :: p).length c) 1 (n :: p).length (ah cI (n :: p))) : aT G (.slice (some ⟨b,lb o c (Int.toNat 1) 1,none⟩) ((n :: p).length - Int.toNat 1) (c - Int.toNat 1)) 1 p.length (ah cI p):=by
 have h1:=h.cutAt (m:=Int.toNat 1) (by show 1 ≤ p.length + 1;omega)
 exact h1
section
variable {qs : List c6} {k k1 : adB} {v1 z : V} {n : Int} {p : List Int} {b pb po pc : Nat} {c dy : VC}
theorem aao {fs : List (Fld × V)} {t : Ty} {f : Fld} (hS : ScI G b qs) (hw : SchW (al qs)) (hki : aA (al qs) k = true) (hrf : a8 (al qs) k = some t) (hso : t.sort = 82) (hg : co t.fields n = some f) (hk1 : k1 = f.kind) (hsr : nz (fs.map aq)) (hfs : fs.length ≤ 90000) (hn : 0 ≤ n ∧ n ≤ 999999) (hp : aT G (.slice (some ⟨pb,po,none⟩) (n :: p).length pc) 1 (n :: p).length (ah cI (n :: p)))
  (hr : V.rep G (.nd 82 [] 0 (fs.map aq)) c) (hpl : p.length ≤ 100) (hzt : z.tot ≤ 1000000)
  (cx_sty : bG adA 120 [Pt b 0,Ag (cR k),Ag (bi c),I n] G (fun r G'=>∃ c',r = Tu [Ag [S (sg k1),S (bs k1),S (nm k1)],Ag (bi c'),Bo true] ∧ V.rep G' v1 c'))
  (ihz : ∀ {G2 : Gh} {c1 : VC},Gh.le G G2 → V.rep G2 v1 c1 → bG adA 75 [Pt b 0,Ag (cR k1),Ag (bi c1),.slice (some ⟨pb,lb po pc (Int.toNat 1) 1,none⟩) ((n :: p).length - Int.toNat 1) (pc - Int.toNat 1),Ag (bi dy)] G2 (fun r G'=>∃ c',r = Ag (bi c') ∧ V.rep G' z c')) :
  bG adA 75 [Pt b 0,Ag (cR k),Ag (bi c),.slice (some ⟨pb,po,none⟩) (n :: p).length pc,Ag (bi dy)] G (fun r G'=>∃ c',r = Ag (bi c') ∧ V.rep G' (.nd 82 [] 0 (dI (al qs) f z (fs.map aq))) c'):=by
 obtain ⟨G0,rfl⟩ : ∃ G0,G0 = G:=⟨G,rfl⟩
 have hg0 : Gh.le G0 G0:=Gh.le.refl _
 obtain ⟨a,kc,cs,rfl,_,_,_,hcl,hsl,hrs⟩:=cS hr
 have e0 : bi ⟨82,[],0,a,(fs.map aq).length,kc⟩ = [U8 (82 : Nat),S [],I 0,.slice a (fs.map aq).length kc]:=rfl
 have e1 : bi dy = [U8 (dy.what : Nat),S dy.text,I dy.tag,.slice dy.a dy.n dy.c]:=rfl
 have hpl0 : (n :: p).length = p.length + 1:=rfl
 have hti : ab (n :: p) (Int.toNat 0) = n:=rfl
 have hsx : bT G0 pb po (ah cI (n :: p)):=by
  obtain ⟨b',o',c',e',hs'⟩:=hp.expl (by simp)
  simp only [Value.slice.injEq,Option.some.injEq,Addr.mk.injEq] at e'
  obtain ⟨⟨rfl,rfl,_⟩,_,rfl⟩:=e'
  exact hs'
 obtain ⟨hkd,p0,hfq,hqm⟩:=lU hki hrf
 have htm:=bj hrf
 have hTW:=hw.ty t htm
 have hfl:=hTW.len
 obtain ⟨j,hj,hjf,hjn,hjx⟩:=gw hg
 subst hjx
 rw [hkd,e0] at cx_sty ⊢
 rw [e1]
 refine jB [(0,_),(1,_),(2,_),(3,_),(4,_)] Tryz.func75 Tryz.ntmps75 fun B hok hB hW=>?_
 repeat' (first | refine jR ?_ | (refine jo ?_;first | refine jO fun _=>?_ | refine jL fun _=>?_ | refine jV (af F) ?_ | (refine jV (fO F F aS ?_ aS F F) ?_;focus omega) | refine bM F ?_ | refine jC F F F ?_ | refine jV (aQ F F oM) ?_ | (refine ar F F F cx_sty F ?_;rintro _ G hle ⟨cv,rfl,hrv⟩;(have hg0:=hg0.trans hle);(have hS:=hS.mono hle);(have hr:=aD hle hr);(try have hrv:=aD hle hrv);(try have hrz:=aD hle hrz))) | refine ad F F ?_)
 rename_i y6 y7 y9 y10 y12 y13
 dsimp only [VC.sl]
 have cx_ch:=ihz hg0 hrv
 unfold cR at cx_ch
 rw [show bi cv = [U8 (cv.what : Nat),S cv.text,I cv.tag,.slice cv.a cv.n cv.c] from rfl,e1] at cx_ch
 (refine an (ao (id:=5) _ (fun _ h=>h) am ?_);refine jT 7 [0,3] (aa 9 9) ?_;(refine jG (aa 9 11) 1 F (bP F F F F) ?_);(refine jG (aa 9 15) 2 F (bP F F F F) ?_);(refine jG (aa 9 31) 4 F (pQ F F oM) ?_);(refine jG (aa 9 63) 5 F (bP F F F F) ?_);refine b7 [6,7] kR dC ⟨?_,?_,trivial⟩;(focus (refine aM F F ?_;(refine ar F F F cx_ch F ?_;rintro _ G hle ⟨cz,rfl,hrz⟩;(have hg0:=hg0.trans hle);(have hS:=hS.mono hle);(have hr:=aD hle hr);(try have hrv:=aD hle hrv);(try have hrz:=aD hle hrz));refine jK (aa 9 127) ?_;refine jA 7 F ?_;(refine jL fun _=>?_);refine jK (aa 9 255) ?_;refine jA 8 F ?_;(refine jC F F F ?_);refine jK (aa 9 511) ?_;refine jQ ?_));rotate_left 1;(focus (refine aM F F ?_;(refine jL fun _=>?_);refine jK (aa 9 191) ?_;refine jA 6 F ?_;(refine ar F F F cx_ch F ?_;rintro _ G hle ⟨cz,rfl,hrz⟩;(have hg0:=hg0.trans hle);(have hS:=hS.mono hle);(have hr:=aD hle hr);(try have hrv:=aD hle hrv);(try have hrz:=aD hle hrz));refine jK (aa 9 255) ?_;refine jA 8 F ?_;(refine jC F F F ?_);refine jK (aa 9 511) ?_;refine jQ ?_));rotate_left 1)
 all_goals
  dsimp only [VC.sl]
  obtain ⟨fv,ln,hsg,hfv⟩:=hS.ty _ hqm
  dsimp only at hsg hfv
  have hkv:=fX qs (nm k)
  rw [hfq] at hkv
  dsimp only [Option.map_some] at hkv
  obtain ⟨u,m,g1,g2,g3⟩:=hS.at'
  obtain ⟨bf,of,cf,rfl,hsf⟩:=hfv.expl oM
  have cx_fld:=gE hsg hsf oM hj hjf hjn
  have cx_put:=acD hS hw htm hso hsf hj hr hrz hfs oM hsr
  rw [e0,show bi cz = [U8 (cz.what : Nat),S cz.text,I cz.tag,.slice cz.a cz.n cz.c] from rfl] at cx_put
  repeat' (first | refine jR ?_ | (refine jo ?_;refine aB F ?_) | refine ac F F ?_)
  (refine an (ec (id:=7) (tt:=10) F am ?_);refine jW 8 [0,2,3,4,6,9] (aa 14 605) ?_;(refine jG (aa 14 607) 1 F (bP F F F F) ?_);(refine jG (aa 14 639) 5 F (aj F F aS F F) ?_);(refine jG (aa 14 767) 7 F (aX F F F) ?_);((refine jG (aa 14 1023) 8 F (db F F (fW aS) aS F) ?_));(refine jG (aa 14 3071) 11 F (bP F F F F) ?_);refine jA 10 F ?_;(refine ae F F F cx_fld F ?_);refine jK (aa 14 4095) ?_;refine jA 12 F ?_;(refine ar F F F cx_put F ?_;rintro _ G hle ⟨cz,rfl,hrz⟩;(have hg0:=hg0.trans hle);(have hS:=hS.mono hle);(have hr:=aD hle hr);(try have hrv:=aD hle hrv);(try have hrz:=aD hle hrz));refine jK (aa 14 8191) ?_;refine jA 13 F ?_;(refine jC F F F ?_);refine jK (aa 14 16383) ?_;refine jQ ?_)
  all_goals repeat' (refine jR ?_)
  all_goals refine jZ (vs:=[_]) F ⟨aJ F F F F,trivial⟩ F ⟨hg0,F,?_⟩
  all_goals exact ⟨cz,F,hrz⟩
theorem oD {i : Nat} : ∀ {ks : List V} {cs : List VC} {j : Nat},V.reps G ks cs → ∀ {z : V} {cz : VC},V.rep G z cz → V.reps G (ks.set j z) (cs.set j cz)
 | [],cs,j,h,z,cz,hz=>by rw [V.reps] at h;subst h;exact (by rw [List.set_nil,List.set_nil,V.reps])
 | v :: r,cs,0,h,z,cz,hz=>by
  rw [V.reps] at h
  obtain ⟨c,cs',rfl,h1,h2⟩:=h
  rw [List.set_cons_zero,List.set_cons_zero,V.reps]
  exact ⟨cz,cs',F,hz,h2⟩
 | v :: r,cs,j + 1,h,z,cz,hz=>by
  rw [V.reps] at h
  obtain ⟨c,cs',rfl,h1,h2⟩:=h
  rw [List.set_cons_succ,List.set_cons_succ,V.reps]
  exact ⟨c,_,F,h1,oD (i:=i) h2 hz⟩
theorem t5 : ∀ cs : List VC,er (ah bi cs) = true
 | []=>rfl
 | c :: cs=>by rw [jg,un,t5 cs];rfl
theorem qQ {w0 i : Nat} {tg : Int} {ks : List V} (hw0 : (w0 = 91 ∧ i = n.toNat) ∨ ((w0 = 63 ∨ w0 = 85) ∧ i = 0)) (hi : i < ks.length) (hkl : ks.length ≤ 1000000) (hn : 0 ≤ n ∧ n ≤ 999999) (hp : aT G (.slice (some ⟨pb,po,none⟩) (n :: p).length pc) 1 (n :: p).length (ah cI (n :: p)))
  (hr : V.rep G (.nd w0 [] tg ks) c) (hpl : p.length ≤ 100)
  (cx_sty : bG adA 120 [Pt b 0,Ag (cR k),Ag (bi c),I n] G (fun r G'=>∃ c',r = Tu [Ag [S (sg k1),S (bs k1),S (nm k1)],Ag (bi c'),Bo true] ∧ V.rep G' v1 c'))
  (ihz : ∀ {G2 : Gh} {c1 : VC},Gh.le G G2 → V.rep G2 v1 c1 → bG adA 75 [Pt b 0,Ag (cR k1),Ag (bi c1),.slice (some ⟨pb,lb po pc (Int.toNat 1) 1,none⟩) ((n :: p).length - Int.toNat 1) (pc - Int.toNat 1),Ag (bi dy)] G2 (fun r G'=>∃ c',r = Ag (bi c') ∧ V.rep G' z c')) :
  bG adA 75 [Pt b 0,Ag (cR k),Ag (bi c),.slice (some ⟨pb,po,none⟩) (n :: p).length pc,Ag (bi dy)] G (fun r G'=>∃ c',r = Ag (bi c') ∧ V.rep G' (.nd w0 [] tg (ks.set i z)) c'):=by
 obtain ⟨G0,rfl⟩ : ∃ G0,G0 = G:=⟨G,rfl⟩
 have hg0 : Gh.le G0 G0:=Gh.le.refl _
 obtain ⟨a,kc,cs,rfl,hw255,htg,h61,hcl,hsl,hrs⟩:=cS hr
 have e0 : bi ⟨w0,[],tg,a,ks.length,kc⟩ = [U8 (w0 : Nat),S [],I tg,.slice a ks.length kc]:=rfl
 have e1 : bi dy = [U8 (dy.what : Nat),S dy.text,I dy.tag,.slice dy.a dy.n dy.c]:=rfl
 have hpl0 : (n :: p).length = p.length + 1:=rfl
 have hti : ab (n :: p) (Int.toNat 0) = n:=rfl
 have hsx : bT G0 pb po (ah cI (n :: p)):=by
  obtain ⟨b',o',c',e',hs'⟩:=hp.expl (by simp)
  simp only [Value.slice.injEq,Option.some.injEq,Addr.mk.injEq] at e'
  obtain ⟨⟨rfl,rfl,_⟩,_,rfl⟩:=e'
  exact hs'
 rw [hcl] at hsl
 have hal:=t5 cs
 have e2 : cR k = [S (sg k),S (bs k),S (nm k)]:=rfl
 rw [e0,e2] at cx_sty ⊢
 rw [e1]
 rcases hw0 with ⟨rfl,hie⟩ | ⟨rfl | rfl,hie⟩
 all_goals
  refine jB [(0,_),(1,_),(2,_),(3,_),(4,_)] Tryz.func75 Tryz.ntmps75 fun B hok hB hW=>?_
  repeat' (first | refine jR ?_ | (refine jo ?_;first | refine jO fun _=>?_ | refine jL fun _=>?_ | refine jV (af F) ?_ | (refine jV (fO F F aS ?_ aS F F) ?_;focus omega) | refine bM F ?_ | refine jC F F F ?_ | refine jV (aQ F F oM) ?_ | (refine ar F F F cx_sty F ?_;rintro _ G hle ⟨cv,rfl,hrv⟩;(have hg0:=hg0.trans hle);(have hsl:=hsl.mono hle);(try have hrv:=aD hle hrv);(try have hrz:=aD hle hrz))) | refine ad F F ?_)
  rename_i y6 y7 y9 y10 y12 y13
  dsimp only [VC.sl]
  have cx_ch:=ihz hg0 hrv
  unfold cR at cx_ch
  rw [show bi cv = [U8 (cv.what : Nat),S cv.text,I cv.tag,.slice cv.a cv.n cv.c] from rfl,e1] at cx_ch
  (refine an (ao (id:=5) _ (fun _ h=>h) am ?_);refine jT 7 [0,3] (aa 9 9) ?_;(refine jG (aa 9 11) 1 F (bP F F F F) ?_);(refine jG (aa 9 15) 2 F (bP F F F F) ?_);(refine jG (aa 9 31) 4 F (pQ F F oM) ?_);(refine jG (aa 9 63) 5 F (bP F F F F) ?_);refine b7 [6,7] kR dC ⟨?_,?_,trivial⟩;(focus (refine aM F F ?_;(refine ar F F F cx_ch F ?_;rintro _ G hle ⟨cz,rfl,hrz⟩;(have hg0:=hg0.trans hle);(have hsl:=hsl.mono hle);(try have hrv:=aD hle hrv);(try have hrz:=aD hle hrz));refine jK (aa 9 127) ?_;refine jA 7 F ?_;(refine jL fun _=>?_);refine jK (aa 9 255) ?_;refine jA 8 F ?_;(refine jC F F F ?_);refine jK (aa 9 511) ?_;refine jQ ?_));rotate_left 1;(focus (refine aM F F ?_;(refine jL fun _=>?_);refine jK (aa 9 191) ?_;refine jA 6 F ?_;(refine ar F F F cx_ch F ?_;rintro _ G hle ⟨cz,rfl,hrz⟩;(have hg0:=hg0.trans hle);(have hsl:=hsl.mono hle);(try have hrv:=aD hle hrv);(try have hrz:=aD hle hrz));refine jK (aa 9 255) ?_;refine jA 8 F ?_;(refine jC F F F ?_);refine jK (aa 9 511) ?_;refine jQ ?_));rotate_left 1)
  all_goals
   dsimp only [VC.sl]
   repeat' (first | refine jR ?_ | (refine jo ?_;refine aB F ?_) | refine ad F F ?_)
   (refine an (ao (id:=8) _ (fun _ h=>h) am ?_);refine jT 7 [0,2,4] (aa 10 21) ?_;(refine jG (aa 10 23) 1 F (aX F F F) ?_);(refine jG (aa 10 31) 3 F (aX F F F) ?_);(refine jG (aa 10 63) 5 F (aX F F F) ?_);refine b7 [6,8] kR dC ⟨?_,?_,trivial⟩;(focus (refine aM F F ?_;((refine xf F F aS F aS F F F F ?_ ?_ fun _ _=>?_;(focus omega);focus omega));refine jK (aa 10 127) ?_;(refine jG (aa 10 255) 7 F (ay F F) ?_);refine jA 8 F ?_;(refine jL fun _=>?_);refine jK (aa 10 511) ?_;refine jA 9 F ?_;(refine jC F F F ?_);refine jK (aa 10 1023) ?_;refine jQ ?_));rotate_left 1;(focus (refine aM F F ?_;(refine jL fun _=>?_);refine jK (aa 10 319) ?_;refine jA 6 F ?_;((refine xf F F aS F aS F F F F ?_ ?_ fun _ _=>?_;(focus omega);focus omega));refine jK (aa 10 383) ?_;(refine jG (aa 10 511) 7 F (ay F F) ?_);refine jA 9 F ?_;(refine jC F F F ?_);refine jK (aa 10 1023) ?_;refine jQ ?_));rotate_left 1)
   all_goals repeat' (first | refine jR ?_ | (refine jo ?_;first | refine aB F ?_ | refine bM F ?_ | refine jV (aQ F F oM) ?_) | refine ac F F ?_ | refine ad F F ?_)
   all_goals refine jo ?_
   all_goals refine abG (f:=bi) (c:=cz) (cs:=cs) (i:=i) F F F F F oM oM ?_
   all_goals repeat' (first | refine jR ?_ | (refine jo ?_;first | refine bM F ?_ | refine jC F F F ?_))
   all_goals
    rename_i u1 u2 u3 u4
    first | (refine Nx.sealS (v:=.slice (some ⟨u2,0,none⟩) ks.length u3) fun G5 hG5 hsl5=>?_;refine jZ (vs:=[_]) F ⟨aJ F F F F,trivial⟩ F ⟨(hg0.trans hG5),F,?_⟩;exact ⟨⟨_,[],tg,some ⟨u2,0,none⟩,ks.length,u3⟩,F,dV hw255 htg (fun h=>by rw [List.length_set];exact h61 h) (by rw [List.length_set]) (by rw [List.length_set,hcl];exact hsl5) (cL hG5 (oD (i:=0) (cL hg0 hrs) hrz))⟩) | (refine Nx.sealS (v:=.slice (some ⟨u3,0,none⟩) ks.length u4) fun G5 hG5 hsl5=>?_;refine jZ (vs:=[_]) F ⟨aJ F F F F,trivial⟩ F ⟨(hg0.trans hG5),F,?_⟩;exact ⟨⟨_,[],tg,some ⟨u3,0,none⟩,ks.length,u4⟩,F,dV hw255 htg (fun h=>by rw [List.length_set];exact h61 h) (by rw [List.length_set]) (by rw [List.length_set,hcl];exact hsl5) (cL hG5 (oD (i:=0) (cL hg0 hrs) hrz))⟩)
theorem rQ (hw : SchW (al qs)) : ∀ (p : List Int) {G : Gh} {pv : Value} {k : adB} {v y : V} {c dy : VC} {k' : adB} {v' : V},ScI G b qs → aT G pv 1 p.length (ah cI p) → (∀ n ∈ p,0 ≤ n ∧ n ≤ 999999) → p.length ≤ 8 → V.rep G v c → OfK (al qs) k v → aA (al qs) k = true → v.tot ≤ 400000 → ce (al qs) k v p = some (k',v') → V.rep G y dy → OfK (al qs) k' y → y.tot ≤ 40000 →
  bG adA 75 [Pt b 0,Ag (cR k),Ag (bi c),pv,Ag (bi dy)] G (fun r G'=>∃ c',r = Ag (bi c') ∧ V.rep G' (bQ (al qs) k v p y) c')
 | [],G,pv,k,v,y,c,dy,k',v',hS,hp,hpn,hpl,hr,ho,hki,htt,hf,hy,hoy,hyt=>by
  simp only [ce,Option.some.injEq,Prod.mk.injEq] at hf
  obtain ⟨rfl,rfl⟩:=hf
  obtain ⟨pa,pc,rfl⟩:=hp.sl
  have hl0 : ([] : List Int).length = 0:=rfl
  have e1 : bi dy = [U8 (dy.what : Nat),S dy.text,I dy.tag,.slice dy.a dy.n dy.c]:=rfl
  have e3 : bi c = [U8 (c.what : Nat),S c.text,I c.tag,.slice c.a c.n c.c]:=rfl
  have e2 : cR k = [S (sg k),S (bs k),S (nm k)]:=rfl
  rw [bQ,e1,e2,e3]
  refine jB [(0,_),(1,_),(2,_),(3,_),(4,_)] Tryz.func75 Tryz.ntmps75 fun B hok hB hW=>?_
  repeat' (first | refine jR ?_ | (refine jo ?_;first | refine jO fun _=>?_ | refine jL fun _=>?_ | refine jV (af F) ?_ | refine bM F ?_ | refine jC F F F ?_) | refine ac F F ?_)
  all_goals refine jZ (vs:=[_]) F ⟨aJ F F F F,trivial⟩ F ⟨Gh.le.refl _,F,?_⟩
  all_goals exact ⟨dy,F,hy⟩
 | n :: p,G,pv,k,v,y,c,dy,k',v',hS,hp,hpn,hpl,hr,ho,hki,htt,hf,hy,hoy,hyt=>by
  obtain ⟨pb,po,pc,rfl,_⟩:=hp.expl (by simp)
  have hn:=hpn n (by simp)
  have hpn2 : ∀ m ∈ p,0 ≤ m ∧ m ≤ 999999:=fun m hm=>hpn m (by simp [hm])
  have hpl2 : p.length ≤ 8:=by simp at hpl;omega
  unfold ce at hf
  cases hs : aC (al qs) k v n with
  | none=>rw [hs] at hf;cases hf
  | some x =>
   rw [hs] at hf
   obtain ⟨k1,v1⟩:=x
   dsimp only at hf
   obtain ⟨g1,g2⟩:=cP hw ho hki hn.1 hs
   have g3:=kG hw ho hki hn.1 hs (N:=400000) htt oM
   have g4:=gR hw (y:=y) g1 g2 (fun m hm=>(hpn2 m hm).1) hf
   have cx_sty:=eQ.yes (uY hS hw hki ho hr hn oM) hs
   have hcut:=wP hp
   have ihz : ∀ {G2 : Gh} {c1 : VC},Gh.le G G2 → V.rep G2 v1 c1 → bG adA 75 [Pt b 0,Ag (cR k1),Ag (bi c1),.slice (some ⟨pb,lb po pc (Int.toNat 1) 1,none⟩) ((n :: p).length - Int.toNat 1) (pc - Int.toNat 1),Ag (bi dy)] G2 (fun r G'=>∃ c',r = Ag (bi c') ∧ V.rep G' (bQ (al qs) k1 v1 p y) c'):=fun hle hr1 =>
    rQ hw p (hS.mono hle) (hcut.mono hle) hpn2 hpl2 hr1 g1 g2 g3 hf (aD hle hy) hoy hyt
   rw [eZ hs]
   cases hrf : a8 (al qs) k with
   | none =>
    obtain ⟨ch,kr,rfl⟩:=dX hki
    by_cases hc : ch.toNat = 91 ∨ ch.toNat = 63
    ·have hst:=dU (ts:=al qs) (c:=ch) (r:=kr) (v:=v) (n:=n) hc
     rw [hs] at hst
     by_cases hlt : n < ((v.kids.length : Nat) : Int)
     ·have htl:=dk v.kids
      rcases di ho oM with ⟨a1,_⟩ | ⟨a1,_⟩ | ⟨a1,_⟩ | ⟨a1,ks,a2,a3,rfl⟩ | ⟨a1,rfl | ⟨w,a3,rfl⟩⟩
      ·omega
      ·omega
      ·omega
      ·rw [V.kids] at hlt
       have e1 : ∀ z,cQ (al qs) (ch :: kr) (.nd 91 [] 0 ks) n z = .nd 91 [] 0 (ks.set n.toNat z):=fun z=>by
        unfold cQ;rw [V.what,if_neg dC,if_pos rfl];rfl
       rw [e1]
       exact qQ (.inl ⟨F,F⟩) oM oM hn hp hr oM cx_sty ihz
      ·simp [V.kids] at hlt;omega
      ·simp [V.kids] at hlt
       obtain rfl : n = 0:=oM
       have e1 : ∀ z,cQ (al qs) (ch :: kr) (.nd 63 [] 0 [w]) 0 z = .nd 63 [] 0 ([w].set 0 z):=fun z=>by
        unfold cQ;rw [V.what,if_neg dC,if_neg dC];rfl
       rw [e1]
       exact qQ (.inr ⟨.inl F,F⟩) (by simp) (by simp) hn hp hr oM cx_sty ihz
     ·rw [if_neg hlt] at hst;cases hst
    ·have hno : aC (al qs) (ch :: kr) v n = none:=by
      rcases d7 hki hc hrf with e | e | e
      all_goals (rw [e];exact i6 dC dC dC)
     rw [hno] at hs;cases hs
   | some t =>
    have hst:=em (v:=v) (n:=n) hrf
    rw [hs] at hst
    cases hg : co t.fields n with
    | none=>rw [hg] at hst;cases hst
    | some f =>
     rw [hg] at hst
     dsimp only at hst
     by_cases h69 : t.sort = 69
     ·rw [if_pos h69] at hst;cases hst
     ·rw [if_neg h69] at hst
      by_cases h82 : t.sort = 82
      ·rw [if_pos h82] at hst
       simp only [Option.some.injEq,Prod.mk.injEq] at hst
       obtain ⟨rfl,rfl⟩:=hst
       rcases bH ho hrf with ⟨_,fs,rfl,a3,a4,a5,a6⟩ | ⟨a1,_⟩ | ⟨a1,_⟩
       ·have hfs9 : fs.length ≤ 90000:=by
         have h7:=dk (fs.map aq)
         rw [bI] at htt
         have e1 : (fs.map aq).length = fs.length:=by simp
         omega
        have e1 : ∀ z,cQ (al qs) k (.nd 82 [] 0 (fs.map aq)) n z = .nd 82 [] 0 (dI (al qs) f z (fs.map aq)):=fun z=>by
         unfold cQ;rw [V.what,if_pos rfl,hrf]
         dsimp only
         rw [hg];rfl
        rw [e1]
        exact aao hS hw hki hrf h82 hg F (pl a6) hfs9 hn hp hr oM oM cx_sty ihz
       ·omega
       ·omega
      ·rw [if_neg h82] at hst
       by_cases htg : v.tag = n
       ·rw [if_pos htg] at hst
        rcases bH ho hrf with ⟨a1,_⟩ | ⟨a1,_⟩ | ⟨_,_,d,w,rfl,g4,g5⟩
        ·omega
        ·omega
        ·have e1 : ∀ z,cQ (al qs) k (.nd 85 [] d.tag [w]) n z = .nd 85 [] d.tag ([w].set 0 z):=fun z=>by
          unfold cQ;rw [V.what,if_neg dC,if_neg dC];rfl
         rw [e1]
         exact qQ (.inr ⟨.inr F,F⟩) (by simp) (by simp) hn hp hr oM cx_sty ihz
       ·rw [if_neg htg] at hst;cases hst
end
theorem uE {α : Type} [Inhabited α] {tg : α → Int} {node : α} {tag : Int} {l : List α} {i : Nat} (hi : i < l.length) {d : Bool} : dg tg node tag (l.drop i) d = (if tag < tg (ab l i) ∧ d = false then [node] else []) ++ ((if tg (ab l i) = tag then [] else [ab l i]) ++ dg tg node tag (l.drop (i + 1)) (d || decide (tag < tg (ab l i)))):=by
 rw [List.drop_eq_getElem_cons hi,aI hi,dg]
theorem sF {α : Type} {tg : α → Int} {node : α} {tag : Int} {y : α} : ∀ {l : List α} {d : Bool},y ∈ dg tg node tag l d → y = node ∨ y ∈ l
 | [],d,h=>by
  unfold dg at h
  split at h
  ·simp at h
  ·exact .inl (by simpa using h)
 | z :: r,d,h=>by
  rw [dg] at h
  simp only [List.mem_append] at h
  rcases h with h | h | h
  ·split at h
   ·exact .inl (by simpa using h)
   ·simp at h
  ·split at h
   ·simp at h
   ·exact .inr (by simp at h;simp [h])
  ·exact (sF h).imp id fun h=>by simp [h]
theorem rc {α : Type} {tg : α → Int} {node : α} {tag : Int} {y : α} : ∀ {l : List α},y ∈ dg tg node tag l true → y ∈ l
 | [],h=>by simp [dg] at h
 | z :: r,h=>by
  rw [dg,if_neg (by simp),Bool.true_or,List.nil_append] at h
  rcases List.mem_append.1 h with h | h
  ·split at h
   ·simp at h
   ·simp at h;simp [h]
  ·simp [rc h]
def dF (p : (Fld × V) × Nat) : Int:=p.1.1.tag
def rt (p : (Fld × V) × Nat) : V:=aq p.1
theorem uO {ps : List ((Fld × V) × Nat)} : ps.map rt = (ps.map (·.1)).map aq:=by rw [List.map_map];rfl
theorem xE {ts : List Ty} {k : adB} {t : Ty} {b : Nat} {vs : List V} (hr : RepR G ts (.nd 82 [] 0 vs) k b) (hrf : a8 ts k = some t) : t.sort = 82 ∧ ∃ (ps : List ((Fld × V) × Nat)) (a a2 : Option Addr) (c c2 : Nat),vs = ps.map rt ∧ bT G b 0 [S k,S [82],.slice a ps.length c,.slice a2 ps.length c2] ∧ aT G (.slice a ps.length c) 1 ps.length (ah cI (ps.map dF)) ∧ aT G (.slice a2 ps.length c2) 1 ps.length (ah dD (ps.map (·.2))) ∧ ∀ p ∈ ps,p.1.1 ∈ t.fields ∧ RepR G ts p.1.2 p.1.1.kind p.2:=by
 cases hr with
 | leaf w x k tx b h1 h2=>rcases h2 with ⟨h,_⟩ | ⟨h,_⟩ | ⟨h,_⟩ <;> omega
 | recd k b t' fs bs a a2 c c2 h0 h1 h2 h3 h4 h5 hk =>
  obtain rfl : t' = t:=by rw [hrf] at h0;exact (Option.some.inj h0.1).symm
  have e1 : (fs.zip bs).map (·.1) = fs:=List.map_fst_zip oM
  have e2 : (fs.zip bs).map (·.2) = bs:=List.map_snd_zip oM
  have el : (fs.zip bs).length = fs.length:=by simp [h4]
  have e3 : (fs.zip bs).map dF = fs.map fun p=>p.1.tag:=by
   rw [show dF = (fun p : Fld × V=>p.1.tag) ∘ Prod.fst from rfl,← List.map_map,e1]
  refine ⟨h0.2,fs.zip bs,a,a2,c,c2,by rw [uO,e1],by rw [el];exact h1,by rw [el,e3];exact h2,by rw [el,e2];exact h3,fun p hp=>?_⟩
  obtain ⟨i,hi,e⟩:=List.getElem_of_mem hp
  rw [List.getElem_zip] at e
  subst e
  have hi' : i < fs.length:=by rw [el] at hi;exact hi
  have g1:=hk i hi'
  have g2:=h5 i hi'
  rw [aI hi',aI oM] at g1
  rw [aI hi'] at g2
  exact ⟨g2,g1⟩
theorem qq {ts : List Ty} {k : adB} {t : Ty} {b : Nat} {ps : List ((Fld × V) × Nat)} {a a2 : Option Addr} {c c2 : Nat} (hrf : a8 ts k = some t) (hso : t.sort = 82) (h1 : bT G b 0 [S k,S [82],.slice a ps.length c,.slice a2 ps.length c2]) (h2 : aT G (.slice a ps.length c) 1 ps.length (ah cI (ps.map dF))) (h3 : aT G (.slice a2 ps.length c2) 1 ps.length (ah dD (ps.map (·.2)))) (hm : ∀ p ∈ ps,p.1.1 ∈ t.fields ∧ RepR G ts p.1.2 p.1.1.kind p.2) : RepR G ts (.nd 82 [] 0 (ps.map rt)) k b:=by
 have el : (ps.map (·.1)).length = ps.length:=by simp
 have hn1 : ∀ i,i < ps.length → ab (ps.map (·.1)) i = (ab ps i).1:=fun i hi=>by rw [aI (by simpa using hi),aI hi];simp
 have hn2 : ∀ i,i < ps.length → ab (ps.map (·.2)) i = (ab ps i).2:=fun i hi=>by rw [aI (by simpa using hi),aI hi];simp
 have e3 : (ps.map (·.1)).map (fun p : Fld × V=>p.1.tag) = ps.map dF:=by rw [List.map_map];rfl
 rw [uO]
 refine RepR.recd k b t (ps.map (·.1)) (ps.map (·.2)) a a2 c c2 ⟨hrf,hso⟩ (by rw [el];exact h1) (by rw [el,e3];exact h2) (by rw [el];exact h3) (by simp) (fun i hi=>?_) (fun i hi=>?_)
 ·rw [el] at hi
  rw [hn1 i hi];exact (hm _ (bB hi)).1
 ·rw [el] at hi
  rw [hn1 i hi,hn2 i hi];exact (hm _ (bB hi)).2
abbrev rZ : TypeId:=3
abbrev rX : TypeId:=47
section
variable {ts : List Ty} {k : adB} {t : Ty} {b : Nat} {ps : List ((Fld × V) × Nat)} {a a2 : Option Addr} {c c2 : Nat}
theorem zZ {node : (Fld × V) × Nat} {tag : Int} (hrf : a8 ts k = some t) (hso : t.sort = 82) (h1 : bT G b 0 [S k,S [82],.slice a ps.length c,.slice a2 ps.length c2]) (h2 : aT G (.slice a ps.length c) 1 ps.length (ah cI (ps.map dF))) (h3 : aT G (.slice a2 ps.length c2) 1 ps.length (ah dD (ps.map (·.2)))) (hm : ∀ p ∈ ps,p.1.1 ∈ t.fields ∧ RepR G ts p.1.2 p.1.1.kind p.2) (h9 : ps.length ≤ 100000) :
  bG adA 143 [Pt b 0,I tag,.pointer none] G (fun r G'=>∃ b',r = Pt b' 0 ∧ RepR G' ts (.nd 82 [] 0 ((dg dF node tag ps true).map rt)) k b'):=by
 have htl : (ps.map dF).length = ps.length:=by simp
 have hbl : (ps.map (·.2)).length = ps.length:=by simp
 refine jB [(0,_),(1,_),(2,_)] Tryz.func143 Tryz.ntmps143 fun B hok hB hW=>?_
 repeat' (first | refine jR ?_ | (refine jo ?_;refine jV (dh F F) ?_) | (refine an (ao (id:=1) _ (fun _ h=>h) am ?_);refine jT 5 [0,1,2,4,5,6] (aa 11 119) ?_;(refine jG (aa 11 127) 3 F (aj F F aS F F) ?_);(refine jG (aa 11 255) 7 F (aj F F aS F F) ?_);(refine jG (aa 11 511) 8 F (ay F F) ?_);refine jA 9 F ?_;(refine jO fun _=>?_);refine jS (aa 11 1023) ?_;refine jT 0 [10] (aa 11 2047) ?_;refine jQ ?_))
 rename_i x
 refine Nx.addNil rZ 1 (Nx.addNil rX 1 ?_)
 refine aV (ι:=List ((Fld × V) × Nat) × Option Addr × Nat × Option Addr × Nat × Nat) (fun q=>(q.2.2.2.2.2 ≤ ps.length ∧ q.1.length ≤ q.2.2.2.2.2) ∧ dg dF node tag ps true = q.1 ++ dg dF node tag (ps.drop q.2.2.2.2.2) true) (fun q=>[(0,Pt b 0),(1,I tag),(7,Pt x 0),(8,Bo true),(9,I q.2.2.2.2.2)]) (fun _=>G) (fun q=>[.acc (.slice q.2.2.2.1 q.1.length q.2.2.2.2.1) rX 1 q.1.length (ah dD (q.1.map (·.2))),.acc (.slice q.2.1 q.1.length q.2.2.1) rZ 1 q.1.length (ah cI (q.1.map dF)),.blk x (.cells (List.toArray [S k,S [82],.slice q.2.1 q.1.length q.2.2.1,.slice q.2.2.2.1 q.1.length q.2.2.2.2.1]) nQ (0,0))]) (fun q=>ps.length - q.2.2.2.2.2) ([],none,0,none,0,0) ?_ tU F a7 (fun q Hq=>?_)
 ·exact ⟨⟨Nat.zero_le _,Nat.zero_le _⟩,F⟩
 obtain ⟨gs,a3,c3,a4,c4,i⟩:=q
 dsimp only at Hq ⊢
 obtain ⟨⟨hi0,hgl⟩,hinv⟩:=Hq
 by_cases hi : i < ps.length
 ·obtain ⟨xb,xo,xc,e,hs1⟩:=h2.expl oM
  simp only [Value.slice.injEq] at e
  obtain ⟨rfl,-,rfl⟩:=e
  obtain ⟨zb,zo,zc,e,hs2⟩:=h3.expl oM
  simp only [Value.slice.injEq] at e
  obtain ⟨rfl,-,rfl⟩:=e
  have hti : ab (ps.map dF) i = dF (ab ps i):=by rw [aI oM,aI hi];simp
  have hxi : ab (ps.map (·.2)) i = (ab ps i).2:=by rw [aI oM,aI hi];simp
  rw [uE hi,if_neg (by simp),List.nil_append,Bool.true_or] at hinv
  by_cases hne : dF (ab ps i) = tag
  ·rw [if_pos hne,List.nil_append] at hinv
   repeat' (first | refine jM ?_ | (refine jo ?_;first | refine jV (aj F F aS F F) ?_ | (refine jV (cm F F aS ?_ aS F) ?_;focus omega) | refine jV (af F) ?_ | refine jV (ak F F oM) ?_ | refine aE F ?_) | refine aw F F F ?_ | refine ac F (ax oM) ?_ | (refine ad F (by first | rfl | (refine decide_eq_false ?_;(omega))) ?_))
   exact bm (gs,a3,c3,a4,c4,i + 1) ⟨⟨by dsimp only;omega,by dsimp only;omega⟩,hinv⟩ (by dsimp only;omega) tU rfl a7
  ·rw [if_neg hne,← List.append_assoc] at hinv
   have hl1 : (gs ++ [ab ps i]).length = gs.length + 1:=by simp
   have hr1 : ah cI (gs.map dF) ++ [I (dF (ab ps i))] = ah cI ((gs ++ [ab ps i]).map dF):=by rw [List.map_append];exact (bW cI _ (dF (ab ps i))).symm
   have hr2 : ah dD (gs.map (·.2)) ++ [Pt (ab ps i).2 0] = ah dD ((gs ++ [ab ps i]).map (·.2)):=by rw [List.map_append];exact (bW dD _ (ab ps i).2).symm
   repeat' (first | refine jR ?_ | (refine jo ?_;first | refine jV (aj F F aS F F) ?_ | (refine jV (cm F F aS ?_ aS F) ?_;focus omega) | refine jV (af F) ?_ | refine jV (ak F F oM) ?_ | refine aE F ?_) | refine aw F F F ?_ | (refine ac F (by refine decide_eq_true ?_;first | assumption | omega) ?_) | refine ad F F ?_)
   (refine an (ao (id:=11) [] (fun _ h=>absurd h (by simp)) am ?_);refine jW 9 [0,1,2,3,5,6,7,9] (aa 17 751) ?_;(refine jG (aa 17 1007) 8 F (aj F F aS F F) ?_);((refine jG (aa 17 2031) 10 F (ak F F ?_) ?_;focus omega));((refine jG (aa 17 4079) 11 F (cm F F aS ?_ aS F) ?_;focus omega));refine b7 [4,12] kR dC ⟨?_,?_,trivial⟩;(focus (refine aM F F ?_;(refine aB F ?_);refine jK (aa 17 4095) ?_;refine jA 12 F ?_;(refine jF fun _=>?_);refine jK (aa 17 8191) ?_;refine jA 13 F ?_;((refine bC F F F F F F F F F ?_ fun _ _=>?_;focus omega));refine jK (aa 17 16383) ?_;refine jW 1 [14,15] (aa 17 65535) ?_;refine jA 16 F ?_;(refine jD F F F ?_);refine jK (aa 17 131071) ?_;refine jQ ?_));rotate_left 1;(focus (refine aM F F ?_;(refine jF fun _=>?_);refine jK (aa 17 8175) ?_;refine jA 4 F ?_;(refine aB F ?_);refine jK (aa 17 8191) ?_;refine jA 13 F ?_;((refine bC F F F F F F F F F ?_ fun _ _=>?_;focus omega));refine jK (aa 17 16383) ?_;refine jW 1 [14,15] (aa 17 65535) ?_;refine jA 16 F ?_;(refine jD F F F ?_);refine jK (aa 17 131071) ?_;refine jQ ?_));rotate_left 1)
   all_goals repeat' (refine jR ?_)
   all_goals (refine an (ao (id:=12) [] (fun _ h=>absurd h (by simp)) am ?_);refine jW 9 [0,1,2,3,5,6,7,9] (aa 17 751) ?_;(refine jG (aa 17 1007) 8 F (aj F F aS F F) ?_);((refine jG (aa 17 2031) 10 F (ak F F ?_) ?_;focus omega));((refine jG (aa 17 4079) 11 F (cm F F aS ?_ aS F) ?_;focus omega));refine b7 [4,12] kR dC ⟨?_,?_,trivial⟩;(focus (refine aM F F ?_;(refine aB F ?_);refine jK (aa 17 4095) ?_;refine jA 12 F ?_;(refine jF fun _=>?_);refine jK (aa 17 8191) ?_;refine jA 13 F ?_;((refine bC F F F F F F F F F ?_ fun _ _=>?_;focus omega));refine jK (aa 17 16383) ?_;refine jW 1 [14,15] (aa 17 65535) ?_;refine jA 16 F ?_;(refine jD F F F ?_);refine jK (aa 17 131071) ?_;refine jQ ?_));rotate_left 1;(focus (refine aM F F ?_;(refine jF fun _=>?_);refine jK (aa 17 8175) ?_;refine jA 4 F ?_;(refine aB F ?_);refine jK (aa 17 8191) ?_;refine jA 13 F ?_;((refine bC F F F F F F F F F ?_ fun _ _=>?_;focus omega));refine jK (aa 17 16383) ?_;refine jW 1 [14,15] (aa 17 65535) ?_;refine jA 16 F ?_;(refine jD F F F ?_);refine jK (aa 17 131071) ?_;refine jQ ?_));rotate_left 1)
   all_goals repeat' (refine jM ?_)
   all_goals
    rename_i _ y1 yc1 _ y2 yc2
    rw [hr1,hr2]
    exact bm (gs ++ [ab ps i],some ⟨y1,0,none⟩,yc1,some ⟨y2,0,none⟩,yc2,i + 1) ⟨⟨by dsimp only;omega,by dsimp only;omega⟩,hinv⟩ (by dsimp only;omega) tU rfl (by rw [hl1];repeat (first | exact List.Sublist.refl _ | apply List.Sublist.cons_cons | apply List.Sublist.cons))
 ·rw [List.drop_eq_nil_of_le oM,show dg dF node tag [] true = [] from rfl,List.append_nil] at hinv
  repeat' (first | refine jR ?_ | (refine jo ?_;first | refine jV (aj F F aS F F) ?_ | refine jV (af F) ?_) | (refine ad F (by first | rfl | (refine decide_eq_false ?_;(omega))) ?_))
  refine Nx.sealS (v:=.slice a3 gs.length c3) fun G2 hG2 hs1=>?_
  refine Nx.sealS (v:=.slice a4 gs.length c4) fun G3 hG3 hs2=>?_
  refine Nx.sealC (b:=x) fun G4 hG4 hsg=>?_
  refine jZ (vs:=[_]) F ⟨F,trivial⟩ F ⟨((hG2.trans hG3).trans hG4),F,?_⟩
  rw [hinv]
  exact ⟨x,F,qq hrf hso hsg ((hs1.mono hG3).mono hG4) (hs2.mono hG4) fun p hp=>by
   rw [← hinv] at hp
   have hp:=rc hp
   exact ⟨(hm p hp).1,((hm p hp).2).mono ((hG2.trans hG3).trans hG4)⟩⟩
theorem zY {f : Fld} {z : V} {zb : Nat} (hrf : a8 ts k = some t) (hso : t.sort = 82) (h1 : bT G b 0 [S k,S [82],.slice a ps.length c,.slice a2 ps.length c2]) (h2 : aT G (.slice a ps.length c) 1 ps.length (ah cI (ps.map dF))) (h3 : aT G (.slice a2 ps.length c2) 1 ps.length (ah dD (ps.map (·.2)))) (hm : ∀ p ∈ ps,p.1.1 ∈ t.fields ∧ RepR G ts p.1.2 p.1.1.kind p.2) (h9 : ps.length ≤ 100000) (hf : f ∈ t.fields) (hz : RepR G ts z f.kind zb) :
  bG adA 143 [Pt b 0,I f.tag,Pt zb 0] G (fun r G'=>∃ b',r = Pt b' 0 ∧ RepR G' ts (.nd 82 [] 0 ((dg dF ((f,z),zb) f.tag ps false).map rt)) k b'):=by
 have htl : (ps.map dF).length = ps.length:=by simp
 have hbl : (ps.map (·.2)).length = ps.length:=by simp
 have hnd : dF ((f,z),zb) = f.tag:=rfl
 have hap1 : ∀ (gs : List ((Fld × V) × Nat)) (p : (Fld × V) × Nat),ah cI (gs.map dF) ++ [I (dF p)] = ah cI ((gs ++ [p]).map dF):=fun gs p=>by rw [List.map_append];exact (bW cI _ (dF p)).symm
 have hap2 : ∀ (gs : List ((Fld × V) × Nat)) (p : (Fld × V) × Nat),ah dD (gs.map (·.2)) ++ [Pt p.2 0] = ah dD ((gs ++ [p]).map (·.2)):=fun gs p=>by rw [List.map_append];exact (bW dD _ p.2).symm
 have hmem : ∀ {G' : Gh} {p : (Fld × V) × Nat},Gh.le G G' → p ∈ dg dF ((f,z),zb) f.tag ps false → p.1.1 ∈ t.fields ∧ RepR G' ts p.1.2 p.1.1.kind p.2:=fun hle hp=>by
  rcases sF hp with rfl | hp
  ·exact ⟨hf,hz.mono hle⟩
  ·exact ⟨(hm _ hp).1,((hm _ hp).2).mono hle⟩
 refine jB [(0,_),(1,_),(2,_)] Tryz.func143 Tryz.ntmps143 fun B hok hB hW=>?_
 repeat' (first | refine jR ?_ | (refine jo ?_;refine jV (dh F F) ?_) | (refine an (ao (id:=1) _ (fun _ h=>h) am ?_);refine jT 5 [0,1,2,4,5,6] (aa 11 119) ?_;(refine jG (aa 11 127) 3 F (aj F F aS F F) ?_);(refine jG (aa 11 255) 7 F (aj F F aS F F) ?_);(refine jG (aa 11 511) 8 F (ay F F) ?_);refine jA 9 F ?_;(refine jO fun _=>?_);refine jS (aa 11 1023) ?_;refine jT 0 [10] (aa 11 2047) ?_;refine jQ ?_))
 rename_i x
 refine Nx.addNil rZ 1 (Nx.addNil rX 1 ?_)
 refine aV (ι:=List ((Fld × V) × Nat) × Option Addr × Nat × Option Addr × Nat × Bool × Nat) (fun q=>(q.2.2.2.2.2.2 ≤ ps.length ∧ q.1.length ≤ 2 * q.2.2.2.2.2.2 + 1) ∧ dg dF ((f,z),zb) f.tag ps false = q.1 ++ dg dF ((f,z),zb) f.tag (ps.drop q.2.2.2.2.2.2) q.2.2.2.2.2.1) (fun q=>[(0,Pt b 0),(1,I f.tag),(2,Pt zb 0),(7,Pt x 0),(8,Bo q.2.2.2.2.2.1),(9,I q.2.2.2.2.2.2)]) (fun _=>G) (fun q=>[.acc (.slice q.2.2.2.1 q.1.length q.2.2.2.2.1) rX 1 q.1.length (ah dD (q.1.map (·.2))),.acc (.slice q.2.1 q.1.length q.2.2.1) rZ 1 q.1.length (ah cI (q.1.map dF)),.blk x (.cells (List.toArray [S k,S [82],.slice q.2.1 q.1.length q.2.2.1,.slice q.2.2.2.1 q.1.length q.2.2.2.2.1]) nQ (0,0))]) (fun q=>ps.length - q.2.2.2.2.2.2) ([],none,0,none,0,false,0) ?_ tU F a7 (fun q Hq=>?_)
 ·exact ⟨⟨Nat.zero_le _,Nat.zero_le _⟩,F⟩
 obtain ⟨gs,a3,c3,a4,c4,d,i⟩:=q
 dsimp only at Hq ⊢
 obtain ⟨⟨hi0,hgl⟩,hinv⟩:=Hq
 by_cases hi : i < ps.length
 ·obtain ⟨xb,xo,xc,e,hs1⟩:=h2.expl oM
  simp only [Value.slice.injEq] at e
  obtain ⟨rfl,-,rfl⟩:=e
  obtain ⟨zc,zo,zd,e,hs2⟩:=h3.expl oM
  simp only [Value.slice.injEq] at e
  obtain ⟨rfl,-,rfl⟩:=e
  have hti : ab (ps.map dF) i = dF (ab ps i):=by rw [aI oM,aI hi];simp
  have hxi : ab (ps.map (·.2)) i = (ab ps i).2:=by rw [aI oM,aI hi];simp
  rw [uE hi] at hinv
  have hl1 : (gs ++ [ab ps i]).length = gs.length + 1:=by simp
  have hl2 : (gs ++ [((f,z),zb)] ++ [ab ps i]).length = gs.length + 1 + 1:=by simp
  cases d with
  | true =>
   rw [if_neg (by simp),List.nil_append,Bool.true_or] at hinv
   by_cases hne : dF (ab ps i) = f.tag
   ·rw [if_pos hne,List.nil_append] at hinv
    repeat' (first | refine jM ?_ | (refine jo ?_;first | refine jV (aj F F aS F F) ?_ | (refine jV (cm F F aS ?_ aS F) ?_;focus omega) | refine jV (af F) ?_ | refine jV (ak F F oM) ?_ | refine aE F ?_) | refine aw F F F ?_ | refine ac F (ax oM) ?_ | (refine ad F (by first | rfl | (refine decide_eq_false ?_;(omega))) ?_))
    exact bm (gs,a3,c3,a4,c4,true,i + 1) ⟨⟨by dsimp only;omega,by dsimp only;omega⟩,hinv⟩ (by dsimp only;omega) tU rfl a7
   ·rw [if_neg hne,← List.append_assoc] at hinv
    repeat' (first | refine jR ?_ | (refine jo ?_;first | refine jV (aj F F aS F F) ?_ | (refine jV (cm F F aS ?_ aS F) ?_;focus omega) | refine jV (af F) ?_ | refine jV (ak F F oM) ?_ | refine aE F ?_) | refine aw F F F ?_ | (refine ac F (by refine decide_eq_true ?_;first | assumption | omega) ?_) | refine ad F F ?_)
    (refine an (ao (id:=11) [] (fun _ h=>absurd h (by simp)) am ?_);refine jW 9 [0,1,2,3,5,6,7,9] (aa 17 751) ?_;(refine jG (aa 17 1007) 8 F (aj F F aS F F) ?_);((refine jG (aa 17 2031) 10 F (ak F F ?_) ?_;focus omega));((refine jG (aa 17 4079) 11 F (cm F F aS ?_ aS F) ?_;focus omega));refine b7 [4,12] kR dC ⟨?_,?_,trivial⟩;(focus (refine aM F F ?_;(refine aB F ?_);refine jK (aa 17 4095) ?_;refine jA 12 F ?_;(refine jF fun _=>?_);refine jK (aa 17 8191) ?_;refine jA 13 F ?_;((refine bC F F F F F F F F F ?_ fun _ _=>?_;focus omega));refine jK (aa 17 16383) ?_;refine jW 1 [14,15] (aa 17 65535) ?_;refine jA 16 F ?_;(refine jD F F F ?_);refine jK (aa 17 131071) ?_;refine jQ ?_));rotate_left 1;(focus (refine aM F F ?_;(refine jF fun _=>?_);refine jK (aa 17 8175) ?_;refine jA 4 F ?_;(refine aB F ?_);refine jK (aa 17 8191) ?_;refine jA 13 F ?_;((refine bC F F F F F F F F F ?_ fun _ _=>?_;focus omega));refine jK (aa 17 16383) ?_;refine jW 1 [14,15] (aa 17 65535) ?_;refine jA 16 F ?_;(refine jD F F F ?_);refine jK (aa 17 131071) ?_;refine jQ ?_));rotate_left 1)
    all_goals repeat' (refine jR ?_)
    all_goals (refine an (ao (id:=12) [] (fun _ h=>absurd h (by simp)) am ?_);refine jW 9 [0,1,2,3,5,6,7,9] (aa 17 751) ?_;(refine jG (aa 17 1007) 8 F (aj F F aS F F) ?_);((refine jG (aa 17 2031) 10 F (ak F F ?_) ?_;focus omega));((refine jG (aa 17 4079) 11 F (cm F F aS ?_ aS F) ?_;focus omega));refine b7 [4,12] kR dC ⟨?_,?_,trivial⟩;(focus (refine aM F F ?_;(refine aB F ?_);refine jK (aa 17 4095) ?_;refine jA 12 F ?_;(refine jF fun _=>?_);refine jK (aa 17 8191) ?_;refine jA 13 F ?_;((refine bC F F F F F F F F F ?_ fun _ _=>?_;focus omega));refine jK (aa 17 16383) ?_;refine jW 1 [14,15] (aa 17 65535) ?_;refine jA 16 F ?_;(refine jD F F F ?_);refine jK (aa 17 131071) ?_;refine jQ ?_));rotate_left 1;(focus (refine aM F F ?_;(refine jF fun _=>?_);refine jK (aa 17 8175) ?_;refine jA 4 F ?_;(refine aB F ?_);refine jK (aa 17 8191) ?_;refine jA 13 F ?_;((refine bC F F F F F F F F F ?_ fun _ _=>?_;focus omega));refine jK (aa 17 16383) ?_;refine jW 1 [14,15] (aa 17 65535) ?_;refine jA 16 F ?_;(refine jD F F F ?_);refine jK (aa 17 131071) ?_;refine jQ ?_));rotate_left 1)
    all_goals repeat' (refine jM ?_)
    all_goals
     rename_i _ y1 yc1 _ y2 yc2
     rw [hap1,hap2]
     exact bm (gs ++ [ab ps i],some ⟨y1,0,none⟩,yc1,some ⟨y2,0,none⟩,yc2,true,i + 1) ⟨⟨by dsimp only;omega,by dsimp only;omega⟩,hinv⟩ (by dsimp only;omega) tU rfl (by rw [hl1];repeat (first | exact List.Sublist.refl _ | apply List.Sublist.cons_cons | apply List.Sublist.cons))
  | false =>
   rw [Bool.false_or] at hinv
   by_cases hgt : f.tag < dF (ab ps i)
   ·rw [if_pos ⟨hgt,rfl⟩,decide_eq_true hgt,if_neg oM,← List.append_assoc,← List.append_assoc] at hinv
    have hne : ¬ dF (ab ps i) = f.tag:=oM
    repeat' (first | refine jR ?_ | (refine jo ?_;first | refine aB F ?_ | refine jV (aj F F aS F F) ?_ | (refine jV (cm F F aS ?_ aS F) ?_;focus omega) | refine jV (af F) ?_ | refine jV (ak F F oM) ?_ | refine aP F ?_ | refine jF fun _=>?_ | refine bC F F F F F F F F F oM fun _ _=>?_ | refine jD F F F ?_) | refine aG F F F ?_ | (refine ac F (by refine decide_eq_true ?_;first | assumption | omega) ?_))
    (refine an (ao (id:=11) [] (fun _ h=>absurd h (by simp)) am ?_);refine jW 9 [0,1,2,3,5,6,7,9] (aa 17 751) ?_;(refine jG (aa 17 1007) 8 F (aj F F aS F F) ?_);((refine jG (aa 17 2031) 10 F (ak F F ?_) ?_;focus omega));((refine jG (aa 17 4079) 11 F (cm F F aS ?_ aS F) ?_;focus omega));refine b7 [4,12] kR dC ⟨?_,?_,trivial⟩;(focus (refine aM F F ?_;(refine aB F ?_);refine jK (aa 17 4095) ?_;refine jA 12 F ?_;(refine jF fun _=>?_);refine jK (aa 17 8191) ?_;refine jA 13 F ?_;((refine bC F F F F F F F F F ?_ fun _ _=>?_;focus omega));refine jK (aa 17 16383) ?_;refine jW 1 [14,15] (aa 17 65535) ?_;refine jA 16 F ?_;(refine jD F F F ?_);refine jK (aa 17 131071) ?_;refine jQ ?_));rotate_left 1;(focus (refine aM F F ?_;(refine jF fun _=>?_);refine jK (aa 17 8175) ?_;refine jA 4 F ?_;(refine aB F ?_);refine jK (aa 17 8191) ?_;refine jA 13 F ?_;((refine bC F F F F F F F F F ?_ fun _ _=>?_;focus omega));refine jK (aa 17 16383) ?_;refine jW 1 [14,15] (aa 17 65535) ?_;refine jA 16 F ?_;(refine jD F F F ?_);refine jK (aa 17 131071) ?_;refine jQ ?_));rotate_left 1)
    all_goals repeat' (refine jR ?_)
    all_goals (refine an (ao (id:=12) [] (fun _ h=>absurd h (by simp)) am ?_);refine jW 9 [0,1,2,3,5,6,7,9] (aa 17 751) ?_;(refine jG (aa 17 1007) 8 F (aj F F aS F F) ?_);((refine jG (aa 17 2031) 10 F (ak F F ?_) ?_;focus omega));((refine jG (aa 17 4079) 11 F (cm F F aS ?_ aS F) ?_;focus omega));refine b7 [4,12] kR dC ⟨?_,?_,trivial⟩;(focus (refine aM F F ?_;(refine aB F ?_);refine jK (aa 17 4095) ?_;refine jA 12 F ?_;(refine jF fun _=>?_);refine jK (aa 17 8191) ?_;refine jA 13 F ?_;((refine bC F F F F F F F F F ?_ fun _ _=>?_;focus omega));refine jK (aa 17 16383) ?_;refine jW 1 [14,15] (aa 17 65535) ?_;refine jA 16 F ?_;(refine jD F F F ?_);refine jK (aa 17 131071) ?_;refine jQ ?_));rotate_left 1;(focus (refine aM F F ?_;(refine jF fun _=>?_);refine jK (aa 17 8175) ?_;refine jA 4 F ?_;(refine aB F ?_);refine jK (aa 17 8191) ?_;refine jA 13 F ?_;((refine bC F F F F F F F F F ?_ fun _ _=>?_;focus omega));refine jK (aa 17 16383) ?_;refine jW 1 [14,15] (aa 17 65535) ?_;refine jA 16 F ?_;(refine jD F F F ?_);refine jK (aa 17 131071) ?_;refine jQ ?_));rotate_left 1)
    all_goals repeat' (refine jM ?_)
    all_goals
     rename_i _ y1 yc1 _ y2 yc2 _ y3 yc3 _ y4 yc4
     rw [show ah cI (gs.map dF) ++ [I f.tag] = ah cI ((gs ++ [((f,z),zb)]).map dF) from hap1 gs ((f,z),zb),show ah dD (gs.map (·.2)) ++ [Pt zb 0] = ah dD ((gs ++ [((f,z),zb)]).map (·.2)) from hap2 gs ((f,z),zb),hap1,hap2]
     exact bm (gs ++ [((f,z),zb)] ++ [ab ps i],some ⟨y3,0,none⟩,yc3,some ⟨y4,0,none⟩,yc4,true,i + 1) ⟨⟨by dsimp only;omega,by dsimp only;omega⟩,hinv⟩ (by dsimp only;omega) tU rfl (by rw [hl2];repeat (first | exact List.Sublist.refl _ | apply List.Sublist.cons_cons | apply List.Sublist.cons))
   ·rw [if_neg (by simp [hgt]),decide_eq_false hgt,List.nil_append] at hinv
    by_cases hne : dF (ab ps i) = f.tag
    ·rw [if_pos hne,List.nil_append] at hinv
     repeat' (first | refine jM ?_ | (refine jo ?_;first | refine jV (aj F F aS F F) ?_ | (refine jV (cm F F aS ?_ aS F) ?_;focus omega) | refine jV (af F) ?_ | refine jV (ak F F oM) ?_ | refine aP F ?_) | refine aG F F F ?_ | refine ac F (ax oM) ?_ | (refine ad F (by refine decide_eq_false ?_;first | assumption | omega) ?_))
     exact bm (gs,a3,c3,a4,c4,false,i + 1) ⟨⟨by dsimp only;omega,by dsimp only;omega⟩,hinv⟩ (by dsimp only;omega) tU rfl a7
    ·rw [if_neg hne,← List.append_assoc] at hinv
     repeat' (first | refine jR ?_ | (refine jo ?_;first | refine jV (aj F F aS F F) ?_ | (refine jV (cm F F aS ?_ aS F) ?_;focus omega) | refine jV (af F) ?_ | refine jV (ak F F oM) ?_ | refine aP F ?_) | refine aG F F F ?_ | (refine ac F (by refine decide_eq_true ?_;first | assumption | omega) ?_) | refine ad F (aF ‹_›) ?_)
     (refine an (ao (id:=11) [] (fun _ h=>absurd h (by simp)) am ?_);refine jW 9 [0,1,2,3,5,6,7,9] (aa 17 751) ?_;(refine jG (aa 17 1007) 8 F (aj F F aS F F) ?_);((refine jG (aa 17 2031) 10 F (ak F F ?_) ?_;focus omega));((refine jG (aa 17 4079) 11 F (cm F F aS ?_ aS F) ?_;focus omega));refine b7 [4,12] kR dC ⟨?_,?_,trivial⟩;(focus (refine aM F F ?_;(refine aB F ?_);refine jK (aa 17 4095) ?_;refine jA 12 F ?_;(refine jF fun _=>?_);refine jK (aa 17 8191) ?_;refine jA 13 F ?_;((refine bC F F F F F F F F F ?_ fun _ _=>?_;focus omega));refine jK (aa 17 16383) ?_;refine jW 1 [14,15] (aa 17 65535) ?_;refine jA 16 F ?_;(refine jD F F F ?_);refine jK (aa 17 131071) ?_;refine jQ ?_));rotate_left 1;(focus (refine aM F F ?_;(refine jF fun _=>?_);refine jK (aa 17 8175) ?_;refine jA 4 F ?_;(refine aB F ?_);refine jK (aa 17 8191) ?_;refine jA 13 F ?_;((refine bC F F F F F F F F F ?_ fun _ _=>?_;focus omega));refine jK (aa 17 16383) ?_;refine jW 1 [14,15] (aa 17 65535) ?_;refine jA 16 F ?_;(refine jD F F F ?_);refine jK (aa 17 131071) ?_;refine jQ ?_));rotate_left 1)
     all_goals repeat' (refine jR ?_)
     all_goals (refine an (ao (id:=12) [] (fun _ h=>absurd h (by simp)) am ?_);refine jW 9 [0,1,2,3,5,6,7,9] (aa 17 751) ?_;(refine jG (aa 17 1007) 8 F (aj F F aS F F) ?_);((refine jG (aa 17 2031) 10 F (ak F F ?_) ?_;focus omega));((refine jG (aa 17 4079) 11 F (cm F F aS ?_ aS F) ?_;focus omega));refine b7 [4,12] kR dC ⟨?_,?_,trivial⟩;(focus (refine aM F F ?_;(refine aB F ?_);refine jK (aa 17 4095) ?_;refine jA 12 F ?_;(refine jF fun _=>?_);refine jK (aa 17 8191) ?_;refine jA 13 F ?_;((refine bC F F F F F F F F F ?_ fun _ _=>?_;focus omega));refine jK (aa 17 16383) ?_;refine jW 1 [14,15] (aa 17 65535) ?_;refine jA 16 F ?_;(refine jD F F F ?_);refine jK (aa 17 131071) ?_;refine jQ ?_));rotate_left 1;(focus (refine aM F F ?_;(refine jF fun _=>?_);refine jK (aa 17 8175) ?_;refine jA 4 F ?_;(refine aB F ?_);refine jK (aa 17 8191) ?_;refine jA 13 F ?_;((refine bC F F F F F F F F F ?_ fun _ _=>?_;focus omega));refine jK (aa 17 16383) ?_;refine jW 1 [14,15] (aa 17 65535) ?_;refine jA 16 F ?_;(refine jD F F F ?_);refine jK (aa 17 131071) ?_;refine jQ ?_));rotate_left 1)
     all_goals repeat' (refine jM ?_)
     all_goals
      rename_i _ y1 yc1 _ y2 yc2
      rw [hap1,hap2]
      exact bm (gs ++ [ab ps i],some ⟨y1,0,none⟩,yc1,some ⟨y2,0,none⟩,yc2,false,i + 1) ⟨⟨by dsimp only;omega,by dsimp only;omega⟩,hinv⟩ (by dsimp only;omega) tU rfl (by rw [hl1];repeat (first | exact List.Sublist.refl _ | apply List.Sublist.cons_cons | apply List.Sublist.cons))
 ·rw [List.drop_eq_nil_of_le oM] at hinv
  cases d with
  | true =>
   rw [show dg dF ((f,z),zb) f.tag [] true = [] from rfl,List.append_nil] at hinv
   repeat' (first | refine jR ?_ | (refine jo ?_;first | refine jV (aj F F aS F F) ?_ | refine jV (af F) ?_) | (refine ad F (by first | rfl | (refine decide_eq_false ?_;(omega))) ?_))
   refine Nx.sealS (v:=.slice a3 gs.length c3) fun G2 hG2 hs1=>?_
   refine Nx.sealS (v:=.slice a4 gs.length c4) fun G3 hG3 hs2=>?_
   refine Nx.sealC (b:=x) fun G4 hG4 hsg=>?_
   refine jZ (vs:=[_]) F ⟨F,trivial⟩ F ⟨((hG2.trans hG3).trans hG4),F,?_⟩
   exact ⟨x,F,by rw [hinv];exact qq hrf hso hsg ((hs1.mono hG3).mono hG4) (hs2.mono hG4) fun p hp=>hmem ((hG2.trans hG3).trans hG4) (by rw [hinv];exact hp)⟩
  | false =>
   rw [show dg dF ((f,z),zb) f.tag [] false = [((f,z),zb)] from rfl] at hinv
   have hl1 : (gs ++ [((f,z),zb)]).length = gs.length + 1:=by simp
   repeat' (first | refine jR ?_ | (refine jo ?_;first | refine aB F ?_ | refine jV (aj F F aS F F) ?_ | refine jV (af F) ?_ | refine jF fun _=>?_ | refine bC F F F F F F F F F oM fun _ _=>?_ | refine jD F F F ?_) | refine ac F F ?_ | refine ad F (aF oM) ?_)
   rename_i _ y1 yc1 _ y2 yc2
   rw [show ah cI (gs.map dF) ++ [I f.tag] = ah cI ((gs ++ [((f,z),zb)]).map dF) from hap1 gs ((f,z),zb),show ah dD (gs.map (·.2)) ++ [Pt zb 0] = ah dD ((gs ++ [((f,z),zb)]).map (·.2)) from hap2 gs ((f,z),zb),← hl1]
   refine Nx.sealS (v:=.slice (some ⟨y1,0,none⟩) (gs ++ [((f,z),zb)]).length yc1) fun G2 hG2 hs1=>?_
   refine Nx.sealS (v:=.slice (some ⟨y2,0,none⟩) (gs ++ [((f,z),zb)]).length yc2) fun G3 hG3 hs2=>?_
   refine Nx.sealC (b:=x) fun G4 hG4 hsg=>?_
   refine jZ (vs:=[_]) F ⟨F,trivial⟩ F ⟨((hG2.trans hG3).trans hG4),F,?_⟩
   exact ⟨x,F,by rw [hinv];exact qq hrf hso hsg ((hs1.mono hG3).mono hG4) (hs2.mono hG4) fun p hp=>hmem ((hG2.trans hG3).trans hG4) (by rw [hinv];exact hp)⟩
end
theorem sE {ts : List Ty} {f : Fld} {z : V} {zb : Nat} {ps : List ((Fld × V) × Nat)} {vs : List V} (e : vs = ps.map rt) (hs : nz vs) {d : Bool} (hd : d = decide (z.out = bR ts f)) : (dg dF ((f,z),zb) f.tag ps d).map rt = dI ts f z vs:=by
 rw [sG (tg:=dF) (tg':=V.tag) (h:=rt) (fun _=>rfl),← e,hd]
 exact uD hs
theorem ye {b o c : Nat} {n : Int} {p : List Int} (h : aT G (.slice (some ⟨b,o,none⟩) (n :: p).length c) 1 (n :: p).length (ah cI (n :: p))) : aT G (.slice (some ⟨b,lb o c (Int.toNat 1) 1,none⟩) ((n :: p).length - Int.toNat 1) (c - Int.toNat 1)) 1 p.length (ah cI p):=by
 have h1:=h.cutAt (m:=Int.toNat 1) (by show 1 ≤ p.length + 1;omega)
 exact h1
theorem qv {α : Type} [Inhabited α] {l : List α} {m i : Nat} {x : α} (hi : i < l.length) : ab (l.set m x) i = if m = i then x else ab l i:=by
 rw [aI (by rw [List.length_set];exact hi),aI hi,List.getElem_set]
theorem ux {b o m c sz : Nat} {xs : List Value} (h : aT G (.slice (some ⟨b,o,none⟩) m c) sz m xs) (hm : 1 ≤ m) : 1 ≤ c:=by
 obtain ⟨_,⟨h2,_⟩ | ⟨b',o',c',e,hc,_⟩⟩:=h
 ·cases h2
 ·simp only [Value.slice.injEq] at e
  omega
abbrev rY : TypeId:=47
section
variable {u : Value} {vs : List cD} {k1 : adB} {v1 z : V} {n : Int} {p : List Int} {pb po pc b yb : Nat}
theorem yh (h : SchR G u vs) (hw : SchW (ag vs)) {k : adB} {fs : List (Fld × V)} {t : Ty} {f : Fld} (hki : aA (ag vs) k = true) (hrf : a8 (ag vs) k = some t) (hg : co t.fields n = some f) (hk1 : k1 = f.kind) (hsr : nz (fs.map aq)) (hfs : fs.length ≤ 100000) (hn : 0 ≤ n ∧ n ≤ 999999) (hp : aT G (.slice (some ⟨pb,po,none⟩) (n :: p).length pc) 1 (n :: p).length (ah cI (n :: p)))
  (hr : RepR G (ag vs) (.nd 82 [] 0 (fs.map aq)) k b) (hpl : p.length ≤ 100) (hzt : z.tot ≤ 10000000000)
  (cx_sty : bG adA 54 [u,Pt b 0,I n] G (fun r G'=>∃ b',r = Tu [Pt b' 0,Bo true] ∧ RepR G' (ag vs) v1 k1 b'))
  (ihz : ∀ {G2 : Gh} {b1 : Nat},Gh.le G G2 → RepR G2 (ag vs) v1 k1 b1 → bG adA 105 [u,Pt b1 0,.slice (some ⟨pb,lb po pc (Int.toNat 1) 1,none⟩) ((n :: p).length - Int.toNat 1) (pc - Int.toNat 1),Pt yb 0] G2 (fun r G'=>∃ b',r = Tu [Pt b' 0,Bo true] ∧ RepR G' (ag vs) z k1 b')) :
  bG adA 105 [u,Pt b 0,.slice (some ⟨pb,po,none⟩) (n :: p).length pc,Pt yb 0] G (fun r G'=>∃ b',r = Tu [Pt b' 0,Bo true] ∧ RepR G' (ag vs) (.nd 82 [] 0 (dI (ag vs) f z (fs.map aq))) k b'):=by
 have hu:=h.sl.one
 obtain ⟨ua,uc,rfl⟩:=h.sl.sl
 obtain ⟨hso,ps,a,a2,c,c2,e,h1,h2,h3,hm⟩:=xE hr hrf
 have hTW:=hw.ty _ (bj hrf)
 have hkk:=du (dL hki)
 obtain ⟨r,rfl⟩:=dW hrf
 have hk0 : bt (64 :: r) (Int.toNat 0) = 64:=bD 64 r
 have hkl2 : (64 :: r).length = r.length + 1:=rfl
 have hpl0 : (n :: p).length = p.length + 1:=rfl
 have hti : ab (n :: p) (Int.toNat 0) = n:=rfl
 have hvl : vs.length ≤ 8:=by have:=hw.len;unfold ag at this;simpa using this
 have href:=fj vs (64 :: r)
 rcases hrv : fg vs (64 :: r) with _ | x
 ·rw [hrv,hrf] at href;cases href
 rw [hrv] at href
 have htx : x.2 = t:=by rw [hrf] at href;exact Option.some.inj href
 subst htx
 have hxm:=gp hrv
 have hfl:=hTW.len
 obtain ⟨hft,hfm⟩:=rx hg
 have hdk : aA (ag vs) f.kind = true:=dY hw (bj hrf) oM hfm
 have hpsl : ps.length ≤ 100000:=by
  have e1 : (fs.map aq).length = ps.length:=by rw [e];simp
  simp at e1;omega
 obtain ⟨G0,rfl⟩ : ∃ G0,G0 = G:=⟨G,rfl⟩
 have hg0 : Gh.le G0 G0:=Gh.le.refl _
 have hsx : bT G0 pb po (ah cI (n :: p)):=by
  obtain ⟨b',o',c',e',hs'⟩:=hp.expl (by simp)
  simp only [Value.slice.injEq,Option.some.injEq,Addr.mk.injEq] at e'
  obtain ⟨⟨rfl,rfl,_⟩,_,rfl⟩:=e'
  exact hs'
 refine jB [(0,_),(1,_),(2,_),(3,_)] Tryz.func105 Tryz.ntmps105 fun B hok hB hW=>?_
 repeat' (first | refine jR ?_ | (refine jo ?_;first | refine jV (af F) ?_ | refine jV (aQ F F oM) ?_ | (refine jV (fO F F aS ?_ aS F F) ?_;focus omega) | refine jV (pQ F F oM) ?_ | (refine ar F F F cx_sty F ?_;rintro _ G hle ⟨b1,rfl,hrep1⟩;(have hg0:=hg0.trans hle);(have h1:=h1.mono hle);(have h2:=h2.mono hle);(have h3:=h3.mono hle);(have h:=h.mono hle);(try have hrep1:=RepR.mono hle hrep1);(try have hrepz:=RepR.mono hle hrepz))) | refine ad F F ?_)
 have cx_set:=ihz hg0 hrep1
 repeat' (first | refine jM ?_ | (refine jo ?_;first | refine jV (aj F F aS F F) ?_ | refine aP F ?_ | (refine ar F F F cx_set F ?_;rintro _ G hle ⟨bz,rfl,hrepz⟩;(have hg0:=hg0.trans hle);(have h1:=h1.mono hle);(have h2:=h2.mono hle);(have h3:=h3.mono hle);(have h:=h.mono hle);(try have hrep1:=RepR.mono hle hrep1);(try have hrepz:=RepR.mono hle hrepz))) | refine aG F F F ?_ | refine ac F F ?_ | refine ad F F ?_)
 have cx_rf:=i9 (k:=64 :: r) h oM hkk.1 oM
 rw [hrv] at cx_rf
 have cx_rec:=pZ (n:=n) hu (h.fl x hxm) oM cx_rf hso
 rw [hg] at cx_rec
 simp only [Option.getD_some,Option.isSome_some] at cx_rec
 have cx_out:=gc hw hrepz oM
 have cx_sta:=mg (f:=f) h hw hdk
 subst hk1
 have hm2 : ∀ q ∈ ps,q.1.1 ∈ x.2.fields ∧ RepR G (ag vs) q.1.2 q.1.1.kind q.2:=fun q hq=>⟨(hm q hq).1,((hm q hq).2).mono hg0⟩
 by_cases hst : z.out = bR (ag vs) f
 ·have cx_wi:=zZ (node:=((f,z),0)) (tag:=f.tag) hrf hso h1 h2 h3 hm2 hpsl
  rw [sE e hsr (decide_eq_true hst).symm,hft] at cx_wi
  repeat' (first | refine jR ?_ | (refine jo ?_;first | refine jL fun _=>?_ | refine jC F F F ?_ | refine ae F F F cx_rec F ?_ | (refine ar F F F cx_wi F ?_;rintro _ G hle ⟨bw,rfl,hrepw⟩;(have hg0:=hg0.trans hle);(have h1:=h1.mono hle);(have h2:=h2.mono hle);(have h3:=h3.mono hle);(have h:=h.mono hle);(try have hrep1:=RepR.mono hle hrep1);(try have hrepz:=RepR.mono hle hrepz))) | refine ac F (ax ‹_›) ?_ | (refine an (ao (id:=12) _ (fun _ h=>h) am ?_);refine jT 4 [0,2] (aa 6 5) ?_;(refine jG (aa 6 13) 3 F (bP F F F F) ?_);refine jA 1 F ?_;(refine ae F F F cx_out F ?_);refine jS (aa 6 15) ?_;refine jA 4 F ?_;(refine ae F F F cx_sta F ?_);refine jS (aa 6 31) ?_;refine jT 0 [5] (aa 6 63) ?_;refine jQ ?_))
  all_goals refine jZ (vs:=[_,_]) F ⟨F,F,trivial⟩ F ⟨hg0,F,?_⟩
  all_goals exact ⟨_,F,hrepw⟩
 ·have cx_wi:=zY (f:=f) (z:=z) hrf hso h1 h2 h3 hm2 hpsl hfm hrepz
  rw [sE e hsr (decide_eq_false hst).symm,hft] at cx_wi
  repeat' (first | refine jR ?_ | (refine jo ?_;first | refine jL fun _=>?_ | refine jC F F F ?_ | refine ae F F F cx_rec F ?_ | (refine ar F F F cx_wi F ?_;rintro _ G hle ⟨bw,rfl,hrepw⟩;(have hg0:=hg0.trans hle);(have h1:=h1.mono hle);(have h2:=h2.mono hle);(have h3:=h3.mono hle);(have h:=h.mono hle);(try have hrep1:=RepR.mono hle hrep1);(try have hrepz:=RepR.mono hle hrepz))) | refine ad F (aF ‹_›) ?_ | (refine an (ao (id:=12) _ (fun _ h=>h) am ?_);refine jT 4 [0,2] (aa 6 5) ?_;(refine jG (aa 6 13) 3 F (bP F F F F) ?_);refine jA 1 F ?_;(refine ae F F F cx_out F ?_);refine jS (aa 6 15) ?_;refine jA 4 F ?_;(refine ae F F F cx_sta F ?_);refine jS (aa 6 31) ?_;refine jT 0 [5] (aa 6 63) ?_;refine jQ ?_))
  all_goals refine jZ (vs:=[_,_]) F ⟨F,F,trivial⟩ F ⟨hg0,F,?_⟩
  all_goals exact ⟨_,F,hrepw⟩
theorem wq {bs : List Nat} {i m : Nat} {zb : Nat} (hi : i < bs.length) : ((bs.set m zb).take (i + 1)) = (bs.set m zb).take i ++ [if i = m then zb else ab bs i]:=by
 rw [dl (by rw [List.length_set];exact hi)]
 congr 2
 rw [aI (by rw [List.length_set];exact hi),aI hi,List.getElem_set]
 by_cases h : m = i
 ·rw [if_pos h,if_pos h.symm]
 ·rw [if_neg h,if_neg (fun e=>h e.symm)]
theorem tI (hu : u.oneCell' = true) {c0 : UInt8} {k : adB} {bs : List Nat} {a : Option Addr} {c : Nat} {m : Nat} (hc0 : c0 = 91 ∨ c0 = 63) (hnm : n = (m : Nat)) (hm : m < bs.length) (hbs : bs.length ≤ 100000) (hn : 0 ≤ n ∧ n ≤ 999999) (hp : aT G (.slice (some ⟨pb,po,none⟩) (n :: p).length pc) 1 (n :: p).length (ah cI (n :: p)))
  (h1 : bT G b 0 [S (c0 :: k),S [],aK,.slice a bs.length c]) (h2 : aT G (.slice a bs.length c) 1 bs.length (ah dD bs)) (hpl : p.length ≤ 100) {ts : List Ty}
  (cx_sty : bG adA 54 [u,Pt b 0,I n] G (fun r G'=>∃ b',r = Tu [Pt b' 0,Bo true] ∧ RepR G' ts v1 k1 b'))
  (ihz : ∀ {G2 : Gh} {b1 : Nat},Gh.le G G2 → RepR G2 ts v1 k1 b1 → bG adA 105 [u,Pt b1 0,.slice (some ⟨pb,lb po pc (Int.toNat 1) 1,none⟩) ((n :: p).length - Int.toNat 1) (pc - Int.toNat 1),Pt yb 0] G2 (fun r G'=>∃ b',r = Tu [Pt b' 0,Bo true] ∧ RepR G' ts z k1 b')) :
  bG adA 105 [u,Pt b 0,.slice (some ⟨pb,po,none⟩) (n :: p).length pc,Pt yb 0] G (fun r G'=>∃ b' zb kb cc,r = Tu [Pt b' 0,Bo true] ∧ RepR G' ts z k1 zb ∧ Gh.le G G' ∧ bT G' b' 0 [S (c0 :: k),S [],aK,.slice (some ⟨kb,0,none⟩) bs.length cc] ∧ aT G' (.slice (some ⟨kb,0,none⟩) bs.length cc) 1 bs.length (ah dD (bs.set m zb))):=by
 have hk0 : bt (c0 :: k) (Int.toNat 0) = c0.toNat:=bD c0 k
 have hc64 : ¬ c0.toNat = 64:=by rcases hc0 with rfl | rfl <;> decide
 have hkl2 : (c0 :: k).length = k.length + 1:=rfl
 have hpl0 : (n :: p).length = p.length + 1:=rfl
 have hti : ab (n :: p) (Int.toNat 0) = n:=rfl
 obtain ⟨G0,rfl⟩ : ∃ G0,G0 = G:=⟨G,rfl⟩
 have hg0 : Gh.le G0 G0:=Gh.le.refl _
 have hsx : bT G0 pb po (ah cI (n :: p)):=by
  obtain ⟨b',o',c',e',hs'⟩:=hp.expl (by simp)
  simp only [Value.slice.injEq,Option.some.injEq,Addr.mk.injEq] at e'
  obtain ⟨⟨rfl,rfl,_⟩,_,rfl⟩:=e'
  exact hs'
 obtain ⟨xb,xo,xc,e,hs1⟩:=h2.expl oM
 simp only [Value.slice.injEq] at e
 obtain ⟨rfl,-,rfl⟩:=e
 refine jB [(0,_),(1,_),(2,_),(3,_)] Tryz.func105 Tryz.ntmps105 fun B hok hB hW=>?_
 repeat' (first | refine jR ?_ | (refine jo ?_;first | refine jV (af F) ?_ | refine jV (aQ F F oM) ?_ | refine jV (aj F F aS F F) ?_ | refine jV (pQ F F oM) ?_ | (refine ar F F F cx_sty F ?_;rintro _ G hle ⟨b1,rfl,hrep1⟩;(have hg0:=hg0.trans hle);(have h1:=h1.mono hle);(have h2:=h2.mono hle);(have hs1:=hs1.mono hle);(try have hrep1:=RepR.mono hle hrep1);(try have hrepz:=RepR.mono hle hrepz))) | refine ad F F ?_)
 have cx_set:=ihz hg0 hrep1
 repeat' (first | refine jR ?_ | (refine jo ?_;first | refine jV (aj F F aS F F) ?_ | refine aE F ?_ | (refine ar F F F cx_set F ?_;rintro _ G hle ⟨bz,rfl,hrepz⟩;(have hg0:=hg0.trans hle);(have h1:=h1.mono hle);(have h2:=h2.mono hle);(have hs1:=hs1.mono hle);(try have hrep1:=RepR.mono hle hrep1);(try have hrepz:=RepR.mono hle hrepz))) | refine aw F F F ?_ | refine ad F F ?_ | (refine an (ao (id:=15) _ (fun _ h=>h) am ?_);refine jT 6 [0,1,2,4,5,6,8,9,10] (aa 15 1911) ?_;(refine jG (aa 15 1919) 3 F (aj F F aS F F) ?_);(refine jG (aa 15 2047) 7 F (aj F F aS F F) ?_);(refine jG (aa 15 4095) 11 F (aj F F aS F F) ?_);(refine jG (aa 15 8191) 12 F (ay F F) ?_);refine jA 13 F ?_;(refine jO fun _=>?_);refine jS (aa 15 16383) ?_;refine jT 0 [14] (aa 15 32767) ?_;refine jQ ?_))
 rename_i x
 refine Nx.addNil rY 1 ?_
 have hsl : ∀ zb : Nat,(bs.set m zb).length = bs.length:=fun zb=>List.length_set
 refine aV (ι:=Option Addr × Nat × Nat) (fun q=>q.2.2 ≤ bs.length) (fun q=>[(1,Pt b 0),(10,I n),(13,Pt bz 0),(17,Pt x 0),(18,I q.2.2)]) (fun _=>G) (fun q=>[.acc (.slice q.1 q.2.2 q.2.1) rY 1 q.2.2 (ah dD ((bs.set m bz).take q.2.2)),.blk x (.cells (List.toArray [S (c0 :: k),S [],aK,.slice q.1 q.2.2 q.2.1]) nQ (0,0))]) (fun q=>bs.length - q.2.2) (none,0,0) ?_ tU F a7 (fun q Hq=>?_)
 ·exact Nat.zero_le _
 obtain ⟨a3,c3,i⟩:=q
 dsimp only at Hq ⊢
 by_cases hi : i < bs.length
 ·have hxi : ab bs i = ab bs i:=rfl
  have hst:=wq (m:=m) (zb:=bz) hi
  by_cases him : i = m
  ·rw [if_pos him] at hst
   have hin : ((i : Nat) : Int) = n:=oM
   repeat' (first | refine jM ?_ | (refine jo ?_;first | refine jV (af F) ?_ | refine aB F ?_ | refine jV (aj F F aS F F) ?_ | refine aP F ?_ | refine jD F F F ?_ | refine jF fun _=>?_ | refine bC F F F F F F F F F oM fun _ _=>?_) | refine aG F F (ax ‹_›) ?_ | (refine ac F (by first | rfl | (refine decide_eq_true ?_;(omega))) ?_))
   rename_i y1 yc1
   rw [show ah dD ((bs.set m bz).take i) ++ [Pt bz 0] = ah dD ((bs.set m bz).take (i + 1)) by rw [hst,bW];rfl]
   exact bm (some ⟨y1,0,none⟩,yc1,i + 1) (by dsimp only;omega) (by dsimp only;omega) tU rfl sB
  ·rw [if_neg him] at hst
   have hin : ¬ ((i : Nat) : Int) = n:=oM
   repeat' (first | refine jR ?_ | (refine jo ?_;first | refine jV (af F) ?_ | refine jV (aj F F aS F F) ?_ | refine aE F ?_) | (refine aw F F (by first | rfl | (refine decide_eq_false ?_;(assumption))) ?_) | refine ac F (ax oM) ?_ | refine ad F F ?_)
   (refine an (ao (id:=21) [] (fun _ h=>absurd h (by simp)) am ?_);refine jW 9 [0,1,2,3,5,6,7,9] (aa 17 751) ?_;(refine jG (aa 17 1007) 8 F (aj F F aS F F) ?_);((refine jG (aa 17 2031) 10 F (ak F F ?_) ?_;focus omega));((refine jG (aa 17 4079) 11 F (cm F F aS ?_ aS F) ?_;focus omega));refine b7 [4,12] kR dC ⟨?_,?_,trivial⟩;(focus (refine aM F F ?_;(refine aB F ?_);refine jK (aa 17 4095) ?_;refine jA 12 F ?_;(refine jF fun _=>?_);refine jK (aa 17 8191) ?_;refine jA 13 F ?_;((refine bC F F F F F F F F F ?_ fun _ _=>?_;focus omega));refine jK (aa 17 16383) ?_;refine jW 1 [14,15] (aa 17 65535) ?_;refine jA 16 F ?_;(refine jD F F F ?_);refine jK (aa 17 131071) ?_;refine jQ ?_));rotate_left 1;(focus (refine aM F F ?_;(refine jF fun _=>?_);refine jK (aa 17 8175) ?_;refine jA 4 F ?_;(refine aB F ?_);refine jK (aa 17 8191) ?_;refine jA 13 F ?_;((refine bC F F F F F F F F F ?_ fun _ _=>?_;focus omega));refine jK (aa 17 16383) ?_;refine jW 1 [14,15] (aa 17 65535) ?_;refine jA 16 F ?_;(refine jD F F F ?_);refine jK (aa 17 131071) ?_;refine jQ ?_));rotate_left 1)
   all_goals repeat' (refine jM ?_)
   all_goals
    rename_i _ y1 yc1
    rw [show ah dD ((bs.set m bz).take i) ++ [Pt (ab bs i) 0] = ah dD ((bs.set m bz).take (i + 1)) by rw [hst,bW];rfl]
    exact bm (some ⟨y1,0,none⟩,yc1,i + 1) (by dsimp only;omega) (by dsimp only;omega) tU rfl sB
 ·have hib : i = bs.length:=by have : i ≤ bs.length:=Hq;omega
  subst hib
  rw [List.take_of_length_le (by rw [hsl];exact Nat.le_refl _)]
  repeat' (first | refine jR ?_ | (refine jo ?_;first | refine jV (af F) ?_ | refine jV (aj F F aS F F) ?_) | refine ad F (aF oM) ?_)
  refine Nx.shp (.head _) fun hsh=>?_
  obtain ⟨kb,kc,e9⟩:=hsh.pos oM
  simp only [Value.slice.injEq] at e9
  obtain ⟨rfl,-,rfl⟩:=e9
  refine Nx.sealS (v:=.slice (some ⟨kb,0,none⟩) bs.length c3) fun G2 hG2 hs3=>?_
  refine Nx.sealC (b:=x) fun G4 hG4 hsg=>?_
  refine jZ (vs:=[_,_]) F ⟨F,F,trivial⟩ F ⟨(hg0.trans (hG2.trans hG4)),F,?_⟩
  exact ⟨x,bz,kb,c3,F,hrepz.mono (hG2.trans hG4),hg0.trans (hG2.trans hG4),hsg,hs3.mono hG4⟩
theorem yg (hu : u.oneCell' = true) {r : adB} {tgb wb0 kb0 cc tc : Nat} {tg : Int} (hcc : 1 ≤ cc) (hn : 0 ≤ n ∧ n ≤ 999999) (hp : aT G (.slice (some ⟨pb,po,none⟩) (n :: p).length pc) 1 (n :: p).length (ah cI (n :: p)))
  (h1 : bT G b 0 [S (64 :: r),S [85],.slice (some ⟨tgb,0,none⟩) 1 (tc + 1),.slice (some ⟨kb0,0,none⟩) 1 cc]) (h2 : bT G tgb 0 [I tg]) (h3 : bT G kb0 0 [Pt wb0 0]) (hpl : p.length ≤ 100) {ts : List Ty}
  (cx_sty : bG adA 54 [u,Pt b 0,I n] G (fun r G'=>∃ b',r = Tu [Pt b' 0,Bo true] ∧ RepR G' ts v1 k1 b'))
  (ihz : ∀ {G2 : Gh} {b1 : Nat},Gh.le G G2 → RepR G2 ts v1 k1 b1 → bG adA 105 [u,Pt b1 0,.slice (some ⟨pb,lb po pc (Int.toNat 1) 1,none⟩) ((n :: p).length - Int.toNat 1) (pc - Int.toNat 1),Pt yb 0] G2 (fun r G'=>∃ b',r = Tu [Pt b' 0,Bo true] ∧ RepR G' ts z k1 b')) :
  bG adA 105 [u,Pt b 0,.slice (some ⟨pb,po,none⟩) (n :: p).length pc,Pt yb 0] G (fun rr G'=>∃ b' zb kb cc,rr = Tu [Pt b' 0,Bo true] ∧ RepR G' ts z k1 zb ∧ 1 ≤ cc ∧ bT G' b' 0 [S (64 :: r),S [85],.slice (some ⟨tgb,0,none⟩) 1 (tc + 1),.slice (some ⟨kb,0,none⟩) 1 cc] ∧ bT G' tgb 0 [I tg] ∧ bT G' kb 0 [Pt zb 0]):=by
 have hk0 : bt (64 :: r) (Int.toNat 0) = 64:=bD 64 r
 have hkl2 : (64 :: r).length = r.length + 1:=rfl
 have hpl0 : (n :: p).length = p.length + 1:=rfl
 have hti : ab (n :: p) (Int.toNat 0) = n:=rfl
 obtain ⟨G0,rfl⟩ : ∃ G0,G0 = G:=⟨G,rfl⟩
 have hg0 : Gh.le G0 G0:=Gh.le.refl _
 have hsx : bT G0 pb po (ah cI (n :: p)):=by
  obtain ⟨b',o',c',e',hs'⟩:=hp.expl (by simp)
  simp only [Value.slice.injEq,Option.some.injEq,Addr.mk.injEq] at e'
  obtain ⟨⟨rfl,rfl,_⟩,_,rfl⟩:=e'
  exact hs'
 refine jB [(0,_),(1,_),(2,_),(3,_)] Tryz.func105 Tryz.ntmps105 fun B hok hB hW=>?_
 repeat' (first | refine jR ?_ | (refine jo ?_;first | refine jV (af F) ?_ | refine jV (aQ F F oM) ?_ | (refine jV (fO F F aS ?_ aS F F) ?_;focus omega) | refine jV (pQ F F oM) ?_ | (refine ar F F F cx_sty F ?_;rintro _ G hle ⟨b1,rfl,hrep1⟩;(have hg0:=hg0.trans hle);(have h1:=h1.mono hle);(have h2:=h2.mono hle);(have h3:=h3.mono hle);(try have hrep1:=RepR.mono hle hrep1);(try have hrepz:=RepR.mono hle hrepz))) | refine ad F F ?_)
 have cx_set:=ihz hg0 hrep1
 repeat' (first | refine jR ?_ | (refine jo ?_;first | refine jV (aj F F aS F F) ?_ | refine aE F ?_ | (refine ar F F F cx_set F ?_;rintro _ G hle ⟨bz,rfl,hrepz⟩;(have hg0:=hg0.trans hle);(have h1:=h1.mono hle);(have h2:=h2.mono hle);(have h3:=h3.mono hle);(try have hrep1:=RepR.mono hle hrep1);(try have hrepz:=RepR.mono hle hrepz))) | refine aw F F F ?_ | refine ad F F ?_ | (refine an (ao (id:=15) _ (fun _ h=>h) am ?_);refine jT 6 [0,1,2,4,5,6,8,9,10] (aa 15 1911) ?_;(refine jG (aa 15 1919) 3 F (aj F F aS F F) ?_);(refine jG (aa 15 2047) 7 F (aj F F aS F F) ?_);(refine jG (aa 15 4095) 11 F (aj F F aS F F) ?_);(refine jG (aa 15 8191) 12 F (ay F F) ?_);refine jA 13 F ?_;(refine jO fun _=>?_);refine jS (aa 15 16383) ?_;refine jT 0 [14] (aa 15 32767) ?_;refine jQ ?_))
 rename_i x
 refine Nx.addNil rY 1 ?_
 refine aV (ι:=Option Addr × Nat × Nat) (fun q=>q.2.2 ≤ 1) (fun q=>[(1,Pt b 0),(10,I n),(13,Pt bz 0),(17,Pt x 0),(18,I q.2.2)]) (fun _=>G) (fun q=>[.acc (.slice q.1 q.2.2 q.2.1) rY 1 q.2.2 (ah dD (List.replicate q.2.2 bz)),.blk x (.cells (List.toArray [S (64 :: r),S [85],.slice (some ⟨tgb,0,none⟩) 1 (tc + 1),.slice q.1 q.2.2 q.2.1]) nQ (0,0))]) (fun q=>1 - q.2.2) (none,0,0) ?_ tU F a7 (fun q Hq=>?_)
 ·exact Nat.zero_le _
 obtain ⟨a3,c3,i⟩:=q
 dsimp only at Hq ⊢
 by_cases hi : i < 1
 ·have hi0 : i = 0:=oM
  subst hi0
  have hrr : ah dD (List.replicate 0 bz) ++ [Pt bz 0] = ah dD (List.replicate 1 bz):=rfl
  by_cases hn0 : ((0 : Nat) : Int) = n
  ·repeat' (first | refine jM ?_ | (refine jo ?_;first | refine jV (af F) ?_ | refine aB F ?_ | refine jV (aj F F aS F F) ?_ | refine aP F ?_ | refine jD F F F ?_ | refine jF fun _=>?_ | refine bC F F F F F F F F F oM fun _ _=>?_) | refine aG F F (ax ‹_›) ?_ | refine ac F F ?_)
   rename_i y1 yc1
   rw [hrr]
   exact bm (some ⟨y1,0,none⟩,yc1,1) (Nat.le_refl _) (by dsimp only;omega) tU rfl sB
  ·repeat' (first | refine jM ?_ | (refine jo ?_;first | refine jV (af F) ?_ | refine aB F ?_ | refine jV (aj F F aS F F) ?_ | refine aP F ?_ | refine aE F ?_ | refine jD F F F ?_ | refine jF fun _=>?_ | refine bC F F F F F F F F F oM fun _ _=>?_) | refine aG F F F ?_ | refine aw F F (aF ‹_›) ?_ | refine ac F F ?_)
   rename_i y1 yc1
   rw [hrr]
   exact bm (some ⟨y1,0,none⟩,yc1,1) (Nat.le_refl _) (by dsimp only;omega) tU rfl sB
 ·have hib : i = 1:=oM
  subst hib
  repeat' (first | refine jR ?_ | (refine jo ?_;first | refine jV (af F) ?_ | refine jV (aj F F aS F F) ?_) | refine ad F F ?_)
  refine Nx.shp (.head _) fun hsh=>?_
  obtain ⟨kb,kc,e9⟩:=hsh.pos oM
  simp only [Value.slice.injEq] at e9
  obtain ⟨rfl,-,rfl⟩:=e9
  refine Nx.sealS (v:=.slice (some ⟨kb,0,none⟩) 1 c3) fun G2 hG2 hs3=>?_
  refine Nx.sealC (b:=x) fun G4 hG4 hsg=>?_
  refine jZ (vs:=[_,_]) F ⟨F,F,trivial⟩ F ⟨(hg0.trans (hG2.trans hG4)),F,?_⟩
  obtain ⟨kb',ko',kc',e9,hs9⟩:=hs3.expl oM
  simp only [Value.slice.injEq,Option.some.injEq,Addr.mk.injEq] at e9
  obtain ⟨⟨rfl,rfl,-⟩,-,rfl⟩:=e9
  exact ⟨x,bz,kb,c3,F,hrepz.mono (hG2.trans hG4),ux (hs3.mono hG4) oM,hsg,h2.mono (hG2.trans hG4),hs9.mono hG4⟩
end
theorem wZ {vs : List cD} (hw : SchW (ag vs)) : ∀ (p : List Int) {G : Gh} {u pv : Value} {k : adB} {v y : V} {b yb : Nat} {k' : adB} {v' : V},SchR G u vs → aT G pv 1 p.length (ah cI p) → (∀ n ∈ p,0 ≤ n ∧ n ≤ 999999) → p.length ≤ 8 → RepR G (ag vs) v k b → OfK (ag vs) k v → aA (ag vs) k = true → v.tot ≤ 400000 → ce (ag vs) k v p = some (k',v') → RepR G (ag vs) y k' yb → OfK (ag vs) k' y → y.tot ≤ 200000000 →
  bG adA 105 [u,Pt b 0,pv,Pt yb 0] G (fun r G'=>∃ b',r = Tu [Pt b' 0,Bo true] ∧ RepR G' (ag vs) (bQ (ag vs) k v p y) k b')
 | [],G,u,pv,k,v,y,b,yb,k',v',h,hp,hpn,hpl,hr,ho,hki,htt,hf,hy,hoy,hyt=>by
  simp only [ce,Option.some.injEq,Prod.mk.injEq] at hf
  obtain ⟨rfl,rfl⟩:=hf
  obtain ⟨pa,pc,rfl⟩:=hp.sl
  have hl0 : ([] : List Int).length = 0:=rfl
  rw [bQ]
  refine jB [(0,_),(1,_),(2,_),(3,_)] Tryz.func105 Tryz.ntmps105 fun B hok hB hW=>?_
  repeat' (first | refine jR ?_ | (refine jo ?_;refine jV (af F) ?_) | refine ac F F ?_)
  all_goals refine jZ (vs:=[_,_]) F ⟨F,F,trivial⟩ F ⟨Gh.le.refl _,F,?_⟩
  all_goals exact ⟨yb,F,hy⟩
 | n :: p,G,u,pv,k,v,y,b,yb,k',v',h,hp,hpn,hpl,hr,ho,hki,htt,hf,hy,hoy,hyt=>by
  obtain ⟨pb,po,pc,rfl,_⟩:=hp.expl (by simp)
  have hn:=hpn n (by simp)
  have hpn2 : ∀ m ∈ p,0 ≤ m ∧ m ≤ 999999:=fun m hm=>hpn m (by simp [hm])
  have hpl2 : p.length ≤ 8:=by simp at hpl;omega
  unfold ce at hf
  cases hs : aC (ag vs) k v n with
  | none=>rw [hs] at hf;cases hf
  | some x =>
   rw [hs] at hf
   obtain ⟨k1,v1⟩:=x
   dsimp only at hf
   obtain ⟨g1,g2⟩:=cP hw ho hki hn.1 hs
   have g3:=kG hw ho hki hn.1 hs (N:=400000) htt oM
   have g4:=gR hw (y:=y) g1 g2 (fun m hm=>(hpn2 m hm).1) hf
   have cx_sty:=gM.yes (nK h hw hr ho hki hn oM) hs
   have hcut:=ye hp
   have ihz : ∀ {G2 : Gh} {b1 : Nat},Gh.le G G2 → RepR G2 (ag vs) v1 k1 b1 → bG adA 105 [u,Pt b1 0,.slice (some ⟨pb,lb po pc (Int.toNat 1) 1,none⟩) ((n :: p).length - Int.toNat 1) (pc - Int.toNat 1),Pt yb 0] G2 (fun r G'=>∃ b',r = Tu [Pt b' 0,Bo true] ∧ RepR G' (ag vs) (bQ (ag vs) k1 v1 p y) k1 b'):=fun hle hr1 =>
    wZ hw p (h.mono hle) (hcut.mono hle) hpn2 hpl2 hr1 g1 g2 g3 hf (hy.mono hle) hoy hyt
   rw [eZ hs]
   have hu:=h.sl.one
   cases hrf : a8 (ag vs) k with
   | none =>
    obtain ⟨c,kr,rfl⟩:=dX hki
    by_cases hc : c.toNat = 91 ∨ c.toNat = 63
    ·have hst:=dU (ts:=ag vs) (c:=c) (r:=kr) (v:=v) (n:=n) hc
     rw [hs] at hst
     by_cases hlt : n < ((v.kids.length : Nat) : Int)
     ·rw [if_pos hlt] at hst
      simp only [Option.some.injEq,Prod.mk.injEq] at hst
      obtain ⟨rfl,rfl⟩:=hst
      rcases di ho oM with ⟨a1,_⟩ | ⟨a1,_⟩ | ⟨a1,_⟩ | ⟨a1,ks,a2,a3,rfl⟩ | ⟨a1,rfl | ⟨w,a3,rfl⟩⟩
      ·omega
      ·omega
      ·omega
      ·obtain rfl:=bX a1 dC
       rw [V.kids] at hlt
       cases hr with
       | leaf w x k tx b h1 h2=>rcases h2 with ⟨h,_⟩ | ⟨h,_⟩ | ⟨h,_⟩ <;> omega
       | lst k b ks bs a c h1 h2 h3 hk =>
        have hbl : bs.length = ks.length:=h3
        refine (tI (u:=u) (n:=n) (m:=n.toNat) (bs:=bs) hu (.inl F) oM oM oM hn hp (by rw [hbl];exact h1) (by rw [hbl];exact h2) oM cx_sty ihz).mono ?_
        rintro v G' L' ⟨q1,q2,b',zb,kb,cc,rfl,q3,q4,q5,q6⟩
        refine ⟨q1,q2,b',F,?_⟩
        have e1 : cQ (ag vs) (91 :: k1) (.nd 91 [] 0 ks) n (bQ (ag vs) k1 (ab ks n.toNat) p y) = .nd 91 [] 0 (ks.set n.toNat (bQ (ag vs) k1 (ab ks n.toNat) p y)):=by
         unfold cQ;rw [V.what,if_neg dC,if_pos rfl];rfl
        show RepR G' (ag vs) (cQ (ag vs) (91 :: k1) (.nd 91 [] 0 ks) n (bQ (ag vs) k1 (ab ks n.toNat) p y)) (91 :: k1) b'
        rw [e1]
        rw [hbl] at q5 q6
        refine RepR.lst k1 b' _ (bs.set n.toNat zb) (some ⟨kb,0,none⟩) cc (by rw [List.length_set];exact q5) (by rw [List.length_set];exact q6) (by simp [hbl]) fun i hi=>?_
        rw [List.length_set] at hi
        rw [qv hi,qv oM]
        by_cases him : n.toNat = i
        ·rw [if_pos him,if_pos him];exact q3
        ·rw [if_neg him,if_neg him];exact (hk i hi).mono q4
      ·simp [V.kids] at hlt;omega
      ·obtain rfl:=bX a1 dC
       simp [V.kids] at hlt
       obtain rfl : n = 0:=oM
       cases hr with
       | opt k b kb b' cc v hcc h1 h2 h3 =>
        have h2s : aT G (.slice (some ⟨kb,0,none⟩) 1 cc) 1 1 (ah dD [b']):=⟨rfl,.inr ⟨kb,0,cc,rfl,hcc,h2⟩⟩
        refine (tI (u:=u) (n:=0) (m:=0) (bs:=[b']) hu (.inr F) F (by simp) (by simp) hn hp h1 h2s oM cx_sty ihz).mono ?_
        rintro v G' L' ⟨q1,q2,b2,zb,kb2,cc2,rfl,q3,q4,q5,q6⟩
        refine ⟨q1,q2,b2,F,?_⟩
        have q7:=ux q6 (by simp)
        obtain ⟨kb',ko',kc',e9,hs9⟩:=q6.expl (by simp)
        simp only [Value.slice.injEq,Option.some.injEq,Addr.mk.injEq] at e9
        obtain ⟨⟨rfl,rfl,-⟩,-,rfl⟩:=e9
        exact RepR.opt k1 b2 kb2 zb cc2 _ q7 q5 hs9 q3
     ·rw [if_neg hlt] at hst;cases hst
    ·have hno : aC (ag vs) (c :: kr) v n = none:=by
      rcases d7 hki hc hrf with e | e | e
      all_goals (rw [e];exact i6 dC dC dC)
     rw [hno] at hs;cases hs
   | some t =>
    have hst:=em (v:=v) (n:=n) hrf
    rw [hs] at hst
    cases hg : co t.fields n with
    | none=>rw [hg] at hst;cases hst
    | some f =>
     rw [hg] at hst
     dsimp only at hst
     by_cases h69 : t.sort = 69
     ·rw [if_pos h69] at hst;cases hst
     ·rw [if_neg h69] at hst
      by_cases h82 : t.sort = 82
      ·rw [if_pos h82] at hst
       simp only [Option.some.injEq,Prod.mk.injEq] at hst
       obtain ⟨rfl,rfl⟩:=hst
       rcases bH ho hrf with ⟨_,fs,rfl,a3,a4,a5,a6⟩ | ⟨a1,_⟩ | ⟨a1,_⟩
       ·have hfs9 : fs.length ≤ 100000:=by
         have h7:=dk (fs.map aq)
         rw [bI] at htt
         have e1 : (fs.map aq).length = fs.length:=by simp
         omega
        have e1 : ∀ z,cQ (ag vs) k (.nd 82 [] 0 (fs.map aq)) n z = .nd 82 [] 0 (dI (ag vs) f z (fs.map aq)):=fun z=>by
         unfold cQ;rw [V.what,if_pos rfl,hrf]
         dsimp only
         rw [hg];rfl
        rw [e1]
        exact yh h hw hki hrf hg F (pl a6) hfs9 hn hp hr oM oM cx_sty ihz
       ·omega
       ·omega
      ·rw [if_neg h82] at hst
       by_cases htg : v.tag = n
       ·rw [if_pos htg] at hst
        simp only [Option.some.injEq,Prod.mk.injEq] at hst
        obtain ⟨rfl,rfl⟩:=hst
        obtain ⟨hft,hfm⟩:=rx hg
        cases hr with
        | leaf w x k tx b h1 h2 =>
         rcases h2 with ⟨_,rfl,_⟩ | ⟨_,rfl,_⟩ | ⟨_,rfl,_⟩ <;> exact (dw hrf F dC).elim
        | lst k b ks bs a c h1 h2 h3 hk=>exact (dw hrf F dC).elim
        | non k b h1=>exact (dw hrf F dC).elim
        | opt k b kb b' cc w h0 h1 h2 h3=>exact (dw hrf F dC).elim
        | recd k b t' fs bs a a2 c c2 h0 h1 h2 h3 h4 h5 hk=>rw [hrf] at h0;obtain rfl:=Option.some.inj h0.1;exact (h82 h0.2).elim
        | enm k b tgb t' d h0 h1 h2 h3=>rw [hrf] at h0;obtain rfl:=Option.some.inj h0.1;exact (h69 h0.2).elim
        | uni k b tgb kb b' cc t' d w hcc h0 h1 h2 h3 h4 hk =>
         rw [hrf] at h0
         obtain rfl:=Option.some.inj h0.1
         have hdf : d = f:=eW (hw.ty _ (bj hrf)) h1 hfm (by rw [hft];exact htg)
         subst hdf
         obtain ⟨r,rfl⟩:=dW hrf
         refine (yg (u:=u) (n:=n) hu hcc hn hp h2 h3 h4 oM cx_sty ihz).mono ?_
         rintro v G' L' ⟨q1,q2,b2,zb,kb2,cc2,rfl,q3,q4,q5,q6,q7⟩
         refine ⟨q1,q2,b2,F,?_⟩
         have e1 : ∀ z,cQ (ag vs) (64 :: r) (.nd 85 [] d.tag [w]) n z = .nd 85 [] d.tag [z]:=fun z=>by
          unfold cQ;rw [V.what,if_neg dC,if_neg dC];rfl
         rw [e1]
         exact RepR.uni _ b2 tgb kb2 zb cc2 _ d _ q4 ⟨hrf,h0.2⟩ h1 q5 q6 q7 q3
       ·rw [if_neg htg] at hst;cases hst
theorem yn {u : Value} {vs : List cD} (hw : SchW (ag vs)) (h : SchR G u vs) {k s : adB} (hki : aA (ag vs) k = true) :
  bG adA 106 [u,S k,S s] G (fun r _=>r = Tu [S (if (cq (ag vs) k s).isSome = true then s else []),Bo (cq (ag vs) k s).isSome]):=by
 obtain ⟨ua,uc,rfl⟩:=h.sl.sl
 by_cases hl : s.length ≤ 400
 ·have cx_rd:=gq (u:=.slice ua vs.length uc) (vs:=vs) hw 12 oM G k s h hki oM
  have hvo : cq (ag vs) k s = match rd (ag vs) 12 k s with
   | some (v,[])=>some v
   | _=>none:=by
   unfold cq;rw [if_pos hl]
   all_goals (rcases rd (ag vs) 12 k s with _ | ⟨v,_ | _⟩ <;> rfl)
  refine jB [(0,_),(1,_),(2,_)] Tryz.func106 Tryz.ntmps106 fun B hok hB hW=>?_
  repeat' (first | refine jR ?_ | (refine jo ?_;first | refine jV (ay F F) ?_ | refine aP F ?_ | refine aE F ?_ | (refine ar F F F cx_rd F ?_;rintro _ G hle ⟨q1,r1,ok1,rfl,hyes,hno⟩;skip)) | refine m4 F F (fun _=>?_) (fun _=>?_) | refine ac F F ?_ | refine ad F (aF oM) ?_ | refine eA F (fun _=>?_) (fun _=>?_))
  all_goals refine jZ (vs:=[_,_]) F ⟨F,F,trivial⟩ F ⟨hle,F,?_⟩
  ·rename_i hz
   rw [hno (by simpa using hz)] at hvo
   rw [hvo];rfl
  ·rename_i hz hr
   obtain ⟨w,b,rfl,hf,hrep⟩:=hyes (by simpa using hz)
   rw [hf] at hvo
   have hvo2 : cq (ag vs) k s = none:=by
    rw [hvo]
    cases r1 with
    | nil=>exact absurd F hr
    | cons c r=>rfl
   rw [hvo2];rfl
  ·rename_i hz hr
   obtain ⟨w,b,rfl,hf,hrep⟩:=hyes (by simpa using hz)
   obtain rfl : r1 = []:=by simpa using hr
   rw [hf] at hvo
   rw [hvo];rfl
 ·have hvo : cq (ag vs) k s = none:=by unfold cq;rw [if_neg hl]
  rw [hvo]
  refine jB [(0,_),(1,_),(2,_)] Tryz.func106 Tryz.ntmps106 fun B hok hB hW=>?_
  repeat' (first | refine jR ?_ | refine ac F (ax oM) ?_)
  all_goals refine jZ (vs:=[_,_]) F ⟨F,F,trivial⟩ F ⟨Gh.le.refl _,F,?_⟩
  all_goals rfl
def eK (s k w p x : adB) : Option adB:=match bc s,cW s k w,da p with
 | some ts,some u,some q=>match ce ts k u q with
  | none=>none
  | some (k',_)=>match rd ts 12 k' x with
   | some (y,[])=>if (bQ ts k u q y).out.length ≤ 400 ∧ (bQ ts k u q y).deep ≤ 12 then some (bQ ts k u q y).out else none
   | _=>none
 | _,_,_=>none
def mA (o : Option adB) : Value:=Tu [S (o.getD []),Bo o.isSome]
theorem sJ {s k x : adB} {o : Option (List Int)} : (match bc s,(none : Option V),o with
 | some ts,some u,some q=>match ce ts k u q with
  | none=>none
  | some (k',_)=>match rd ts 12 k' x with
   | some (y,[])=>if (bQ ts k u q y).out.length ≤ 400 ∧ (bQ ts k u q y).deep ≤ 12 then some (bQ ts k u q y).out else none
   | _=>none
 | _,_,_=>none) = none:=by cases bc s <;> rfl
theorem v8 {s k w p x : adB} (h1 : s.length ≤ 1048576 ∧ k.length ≤ 1048576 ∧ w.length ≤ 1048576 ∧ p.length ≤ 1048576) (hx : x.length ≤ 1048576) : aZ adA 59 [S s,S k,S w,S p,S x] G (· = mA (eK s k w p x)):=by
 unfold eK
 cases hg : cW s k w with
 | none =>
  rw [sJ]
  have cx_la0:=fun G=>lx (G:=G) (s:=s) (k:=k) (w:=w) oM hg
  cases hpo : da p with
  | none =>
   have cx_sp:=oA h1.2.2.2 hpo
   refine jB (Post:=fun v G' L'=>G' = G ∧ L' = [] ∧ _) [(0,_),(1,_),(2,_),(3,_),(4,_)] Tryz.func59 Tryz.ntmps59 fun B hok hB hW=>?_
   repeat' (first | refine jR ?_ | (refine jo ?_;first | refine aP F ?_ | (refine ar F F F (cx_la0 _) F ?_;rintro _ G hle ⟨ua,qa,rfl⟩;skip) | (refine ar F F F (cx_sp _) F ?_;rintro _ G hle ⟨sa,sc,sn,rfl,hsp⟩;skip)) | refine aG F F F ?_ | refine ac F F ?_)
   all_goals refine Nx.base hok hB ?_
   all_goals refine jY (vs:=[_,_]) ?_
   all_goals rfl
  | some q =>
   have cx_sp:=mJ h1.2.2.2 hpo
   refine jB (Post:=fun v G' L'=>G' = G ∧ L' = [] ∧ _) [(0,_),(1,_),(2,_),(3,_),(4,_)] Tryz.func59 Tryz.ntmps59 fun B hok hB hW=>?_
   repeat' (first | refine jR ?_ | (refine jo ?_;first | refine aP F ?_ | (refine ar F F F (cx_la0 _) F ?_;rintro _ G hle ⟨ua,qa,rfl⟩;skip) | (refine ar F F F (cx_sp _) F ?_;rintro _ G hle ⟨sa,sc,sn,rfl,hsp⟩;skip)) | refine aG F F F ?_ | refine ac F F ?_)
   all_goals refine Nx.base hok hB ?_
   all_goals refine jY (vs:=[_,_]) ?_
   all_goals rfl
 | some u =>
  obtain ⟨ts,hs,hki,hvo,hto,hwf⟩:=cV hg
  have cx_l4x:=nL (G:=G) (s:=s) (k:=k) (w:=w) oM hs hki hvo
  rw [hs]
  cases hpo : da p with
  | none =>
   have cx_sp:=oA h1.2.2.2 hpo
   refine jB (Post:=fun v G' L'=>G' = G ∧ L' = [] ∧ _) [(0,_),(1,_),(2,_),(3,_),(4,_)] Tryz.func59 Tryz.ntmps59 fun B hok hB hW=>?_
   repeat' (first | refine jR ?_ | (refine jo ?_;first | refine aE F ?_ | (refine ar F F F cx_l4x F ?_;rintro _ G hle ⟨av1,cv1,vs1,b1,rfl,hR1,hT1,hrep⟩;skip) | (refine ar F F F (cx_sp _) F ?_;rintro _ G hle ⟨sa,sc,sn,rfl,hsp⟩;skip)) | refine aw F F F ?_ | refine ac F F ?_)
   all_goals refine Nx.base hok hB ?_
   all_goals refine jY (vs:=[_,_]) ?_
   all_goals rfl
  | some q =>
   have cx_sp:=mJ h1.2.2.2 hpo
   obtain ⟨hq8,hqn⟩:=rg hpo
   have hof:=dq hvo
   have hw:=d9 hs
   dsimp only
   refine jB (Post:=fun v G' L'=>G' = G ∧ L' = [] ∧ _) [(0,_),(1,_),(2,_),(3,_),(4,_)] Tryz.func59 Tryz.ntmps59 fun B hok hB hW=>?_
   repeat' (first | refine jR ?_ | (refine jo ?_;first | refine aE F ?_ | (refine ar F F F cx_l4x F ?_;rintro _ G hle ⟨av1,cv1,vs1,b1,rfl,hR1,hT1,hrep⟩;(try have hrep:=RepR.mono hle hrep);(try have hR1:=SchR.mono hR1 hle);(try have hsp:=aT.mono hsp hle);(try have hsg1:=bT.mono hsg1 hle)) | (refine ar F F F (cx_sp _) F ?_;rintro _ G hle ⟨sa,sc,sn,rfl,hsp⟩;(try have hrep:=RepR.mono hle hrep);(try have hR1:=SchR.mono hR1 hle);(try have hsp:=aT.mono hsp hle);(try have hsg1:=bT.mono hsg1 hle))) | refine aw F F F ?_ | refine ad F F ?_)
   obtain ⟨rfl,hsp⟩:=hsp
   subst hT1
   have hwk:=z0 hR1 hw hsp hqn oM hrep hof hki oM
   cases hfo : ce (ag vs1) k u q with
   | none =>
    have cx_wan:=gM.no hwk hfo
    repeat' (first | refine jR ?_ | (refine jo ?_;(refine ar F F F cx_wan F ?_;rintro _ G hle ⟨q1,rfl⟩;(try have hrep:=RepR.mono hle hrep);(try have hR1:=SchR.mono hR1 hle);(try have hsp:=aT.mono hsp hle);(try have hsg1:=bT.mono hsg1 hle))) | refine ac F F ?_)
    all_goals refine Nx.base hok hB ?_
    all_goals refine jY (vs:=[_,_]) ?_
    all_goals rfl
   | some y =>
    obtain ⟨k1,v1⟩:=y
    have cx_way:=gM.yes hwk hfo
    have hqn0:=fun n hn=>(hqn n hn).1
    obtain ⟨_,hk1⟩:=l4 hw hof hki hqn0 hfo
    dsimp only
    repeat' (first | refine jR ?_ | (refine jo ?_;first | refine jV (ay F F) ?_ | (refine ar F F F cx_way F ?_;rintro _ G hle ⟨b1,rfl,hrep1⟩;(try have hrep:=RepR.mono hle hrep);(try have hR1:=SchR.mono hR1 hle);(try have hsp:=aT.mono hsp hle);(try have hsg1:=bT.mono hsg1 hle))) | refine ad F F ?_)
    obtain ⟨z1,z2,z3,hsg1⟩:=xD hrep1
    have cx_rd:=gq (u:=.slice av1 vs1.length cv1) (vs:=vs1) hw 12 oM G k1 x hR1 hk1 oM
    repeat' (first | refine jR ?_ | (refine jo ?_;first | refine aP F ?_ | refine aE F ?_ | refine jV (aj F F aS F F) ?_ | (refine ar F F F cx_rd F ?_;rintro _ G hle ⟨q1,r1,ok1,rfl,hyes,hno⟩;(try have hrep:=RepR.mono hle hrep);(try have hR1:=SchR.mono hR1 hle);(try have hsp:=aT.mono hsp hle);(try have hsg1:=bT.mono hsg1 hle))) | refine m4 F F (fun _=>?_) (fun _=>?_) | refine ac F F ?_ | refine eA F (fun _=>?_) (fun _=>?_))
    ·rename_i hz
     rw [hno (by simpa using hz)]
     refine Nx.base hok hB ?_
     refine jY (vs:=[_,_]) ?_
     rfl
    ·rename_i hz hr
     obtain ⟨w2,b2,rfl,hf2,hrep2⟩:=hyes (by simpa using hz)
     rw [hf2]
     refine Nx.base hok hB ?_
     refine jY (vs:=[_,_]) ?_
     cases r1 with
     | nil=>exact absurd F hr
     | cons c r=>rfl
    ·rename_i hz hr
     obtain ⟨w2,b2,rfl,hf2,hrep2⟩:=hyes (by simpa using hz)
     obtain rfl : r1 = []:=by simpa using hr
     rw [hf2]
     dsimp only
     have hoy:=py _ _ _ _ hf2
     have hyt:=gr _ _ _ _ hf2
     dsimp only at hoy hyt
     have cx_set:=wZ hw q hR1 hsp hqn hq8 hrep hof hki oM hfo hrep2 hoy oM
     have hcg:=fB hw hof hki hqn0 hfo hoy
     have hct:=gR hw (y:=w2) hof hki hqn0 hfo
     repeat' (first | refine jR ?_ | (refine jo ?_;(refine ar F F F cx_set F ?_;rintro _ G hle ⟨bz,rfl,hrepz⟩;(try have hrep:=RepR.mono hle hrep);(try have hR1:=SchR.mono hR1 hle);(try have hsp:=aT.mono hsp hle);(try have hsg1:=bT.mono hsg1 hle))) | refine ad F F ?_)
     have cx_out:=gc hw hrepz oM
     have cx_bk:=yn (s:=(bQ (ag vs1) k u q w2).out) hw hR1 hki
     by_cases hfit : (bQ (ag vs1) k u q w2).out.length ≤ 400 ∧ (bQ (ag vs1) k u q w2).deep ≤ 12
     ·rw [if_pos hfit]
      rw [om hw hcg hfit.1 hfit.2] at cx_bk
      repeat' (first | refine jR ?_ | (refine jo ?_;first | refine ae F F F cx_out F ?_ | (refine ar F F F cx_bk F ?_;rintro _ G hle rfl;(try have hrep:=RepR.mono hle hrep);(try have hR1:=SchR.mono hR1 hle);(try have hsp:=aT.mono hsp hle);(try have hsg1:=bT.mono hsg1 hle))))
      all_goals refine Nx.base hok hB ?_
      all_goals refine jY (vs:=[_,_]) ?_
      all_goals rfl
     ·rw [if_neg hfit]
      rw [ub hw hcg hfit] at cx_bk
      repeat' (first | refine jR ?_ | (refine jo ?_;first | refine ae F F F cx_out F ?_ | (refine ar F F F cx_bk F ?_;rintro _ G hle rfl;(try have hrep:=RepR.mono hle hrep);(try have hR1:=SchR.mono hR1 hle);(try have hsp:=aT.mono hsp hle);(try have hsg1:=bT.mono hsg1 hle))))
      all_goals refine Nx.base hok hB ?_
      all_goals refine jY (vs:=[_,_]) ?_
      all_goals rfl
theorem rj {ks : List V} : (V.nd 91 [] 0 ks).out = 91 :: (aO 44 (ks.map V.out) ++ [93]):=by rw [V.out,V.outs_map];rfl
theorem sN {ks : List V} : (V.nd 82 [] 0 ks).out = 123 :: (aO 44 (ks.map V.out) ++ [125]):=by rw [V.out,V.outs_map];rfl
theorem kM {xs : List adB} {x : adB} (h : x ∈ xs) : x.length ≤ (aO 44 xs).length:=by
 induction xs with
 | nil=>cases h
 | cons y xs ih =>
  cases xs with
  | nil =>
   simp only [List.mem_singleton] at h;subst h;simp [aO]
  | cons z xs =>
   rw [aO,List.length_append,List.length_cons]
   rcases List.mem_cons.1 h with rfl | h
   ·omega
   ·have:=ih h;omega
variable {ts : List Ty}
theorem gG (hw : SchW ts) {k : adB} {v : V} (h : OfK ts k v) (hk : aA ts k = true) {n : Int} (hn : 0 ≤ n) {k' : adB} {v' : V} (e : aC ts k v n = some (k',v')) (hd : v.deep ≤ 12) (hl : v.out.length ≤ 400) : v'.deep ≤ 12 ∧ v'.out.length ≤ 400:=by
 obtain ⟨c,r,rfl⟩:=dX hk
 unfold aC at e
 dsimp only at e
 split at e
 ·rename_i hc
  split at e
  ·rename_i hlt
   simp only [Option.some.injEq,Prod.mk.injEq] at e
   obtain ⟨rfl,rfl⟩:=e
   rcases di h oM with ⟨g1,_⟩ | ⟨g1,_⟩ | ⟨g1,_⟩ | ⟨g1,ks,g2,g3,rfl⟩ | ⟨g1,rfl | ⟨u,g3,rfl⟩⟩
   ·omega
   ·omega
   ·omega
   ·rw [V.kids] at hlt ⊢
    have hi : n.toNat < ks.length:=oM
    rw [eg dC] at hd
    rw [rj] at hl
    have h1:=V.deep_mem (bB hi)
    have h2:=kM (xs:=ks.map V.out) (List.mem_map_of_mem (f:=V.out) (bB hi))
    simp only [List.length_cons,List.length_append,List.length_nil] at hl
    exact ⟨oM,oM⟩
   ·simp [V.kids] at hlt;omega
   ·simp [V.kids] at hlt
    obtain rfl : n = 0:=oM
    rw [eg dC] at hd
    have e1 : V.out (.nd 63 [] 0 [u]) = 43 :: u.out:=by rw [V.out];simp [V.outs,aO,c5]
    rw [e1,List.length_cons] at hl
    have h1:=V.deep_mem (ks:=[u]) (v:=u) (by simp)
    exact ⟨by show u.deep ≤ 12;omega,by show u.out.length ≤ 400;omega⟩
  ·cases e
 ·split at e
  ·cases e
  ·rename_i t hr
   have ht:=bj hr
   split at e
   ·cases e
   ·rename_i f hf
    have hfm:=List.mem_of_find?_eq_some hf
    split at e
    ·cases e
    ·rename_i h69
     split at e
     ·rename_i h82
      simp only [Option.some.injEq,Prod.mk.injEq] at e
      obtain ⟨rfl,rfl⟩:=e
      rcases bH h hr with ⟨_,fs,rfl,g3,g4,_,_⟩ | ⟨g1,_⟩ | ⟨g1,_⟩
      ·unfold cX
       rw [V.kids]
       cases hto : cC f (fs.map aq) with
       | none =>
        obtain ⟨a1,a2,a3⟩:=fp hw ht h69 hfm
        unfold cq at a2
        split at a2
        ·rename_i hl4
         split at a2
         ·rename_i v' hv'
          have:=jx _ _ _ _ hv'
          simp only [Option.some.injEq] at a2
          subst a2
          exact ⟨this,by show (d8 ts f).out.length ≤ 400;rw [a3];exact hl4⟩
         ·cases a2
        ·cases a2
       | some u =>
        obtain ⟨_,p,hp,_,rfl⟩:=gX (hw.ty t ht) hfm (fun p hp=>⟨g3 p hp,g4 p hp⟩) hto
        rw [eg dC] at hd
        rw [sN] at hl
        have h1:=V.deep_mem (List.mem_map_of_mem (f:=aq) hp)
        rw [show (aq p).deep = p.2.deep from kv] at h1
        have h2:=kM (xs:=(fs.map aq).map V.out) (List.mem_map_of_mem (f:=V.out) (List.mem_map_of_mem (f:=aq) hp))
        rw [show (aq p).out = be p.1.tag ++ 61 :: p.2.out from gh] at h2
        simp only [List.length_cons,List.length_append,List.length_nil] at hl h2
        exact ⟨by show p.2.deep ≤ 12;omega,by show p.2.out.length ≤ 400;omega⟩
      ·omega
      ·omega
     ·rename_i h82
      split at e
      ·simp only [Option.some.injEq,Prod.mk.injEq] at e
       obtain ⟨rfl,rfl⟩:=e
       rcases bH h hr with ⟨h1,_⟩ | ⟨h1,_⟩ | ⟨_,_,d,u,rfl,g4,g5⟩
       ·omega
       ·omega
       ·rw [eg dC] at hd
        have e1 : V.out (.nd 85 [] d.tag [u]) = 60 :: (be d.tag ++ 61 :: (u.out ++ [62])):=by rw [V.out];simp [V.outs,aO,c5]
        rw [e1] at hl
        have h1:=V.deep_mem (ks:=[u]) (v:=u) (by simp)
        simp only [List.length_cons,List.length_append,List.length_nil] at hl
        exact ⟨by show u.deep ≤ 12;omega,by show u.out.length ≤ 400;omega⟩
      ·cases e
def cy (q : List Int) : adB:=aO 47 (q.map be)
theorem wO {n : Int} (h : 0 ≤ n) : fK 47 (be n):=fun c hc=>by
 have:=vS ((ig _ (Nat.le_refl _) h).2 c hc)
 omega
theorem nR : ∀ {xs : List adB} {p : List Int},cK xs = some p → xs = p.map be ∧ ∀ n ∈ p,0 ≤ n ∧ n ≤ 999999
 | [],p,h=>by simp only [cK,Option.some.injEq] at h;subst h;simp
 | x :: xs,p,h=>by
  unfold cK at h
  cases hn : aN x 999999 with
  | none=>rw [hn] at h;cases h
  | some n =>
   rw [hn] at h
   dsimp only at h
   cases hs : cK xs with
   | none=>rw [hs] at h;cases h
   | some q =>
    rw [hs] at h
    simp only [Option.map_some,Option.some.injEq] at h
    subst h
    obtain ⟨h1,h2⟩:=nR hs
    refine ⟨by rw [List.map_cons,← h1,← (ed hn).2.1],fun m hm=>?_⟩
    rcases List.mem_cons.1 hm with rfl | hm
    ·exact ⟨lS hn,(ed hn).1⟩
    ·exact h2 m hm
theorem pe : ∀ {p : List Int},(∀ n ∈ p,0 ≤ n ∧ n ≤ 999999) → cK (p.map be) = some p
 | [],_=>rfl
 | n :: p,h=>by
  have h1:=h n (by simp)
  rw [List.map_cons,cK,jy h1.1 h1.2 dC]
  dsimp only
  rw [pe fun m hm=>h m (by simp [hm])];rfl
theorem ue {s : adB} {q : List Int} (h : da s = some q) : s = cy q ∧ q.length ≤ 8 ∧ (∀ n ∈ q,0 ≤ n ∧ n ≤ 999999) ∧ (s = [] ↔ q = []):=by
 unfold da at h
 split at h
 ·rename_i hs
  simp only [Option.some.injEq] at h;subst h
  exact ⟨by rw [hs];rfl,by simp,by simp,by simp [hs]⟩
 ·rename_i hs
  split at h
  ·rename_i q' hq
   split at h
   ·rename_i h8
    simp only [Option.some.injEq] at h;subst h
    obtain ⟨h1,h2⟩:=nR hq
    have h3:=l9 47 s
    have h4 : (47 : UInt8).toNat = 47:=rfl
    rw [h4,h1] at h3
    refine ⟨h3.symm,h8,h2,fun h=>absurd h hs,fun h=>?_⟩
    rw [h] at h3
    exact h3.symm
   ·cases h
  ·cases h
theorem n6 {q : List Int} (h : q ≠ []) : cy q ≠ []:=by
 cases q with
 | nil=>exact absurd F h
 | cons n q =>
  have:=gy n
  unfold cy
  intro e
  have e2:=congrArg List.length e
  cases q with
  | nil=>simp [aO] at e2;rw [e2] at this;simp at this
  | cons m q=>simp [aO] at e2
theorem rh {q : List Int} (h : ∀ n ∈ q,0 ≤ n ∧ n ≤ 999999) : da (cy q) = if q.length ≤ 8 then some q else none:=by
 by_cases hq : q = []
 ·subst hq;rfl
 ·unfold da
  rw [if_neg (n6 hq)]
  have h1 : a9 47 (cy q) = q.map be:=lW (c:=47) (by simpa using hq) fun x hx=>by
   obtain ⟨n,hn,rfl⟩:=List.mem_map.1 hx
   exact wO (h n hn).1
  rw [h1,pe h]
theorem gT {n : Int} {q : List Int} (h : q ≠ []) : cy (n :: q) = be n ++ 47 :: cy q:=by
 cases q with
 | nil=>exact absurd F h
 | cons m q=>rfl
theorem mS : ∀ {p q : List Int},p ≠ [] → q ≠ [] → cy (p ++ q) = cy p ++ 47 :: cy q
 | [],_,h,_=>absurd rfl h
 | [n],q,_,hq=>by rw [List.singleton_append,gT hq];rfl
 | n :: m :: p,q,_,hq=>by
  rw [List.cons_append,gT (n:=n) (q:=m :: p ++ q) (by simp),mS (p:=m :: p) (by simp) hq,gT (n:=n) (q:=m :: p) (by simp)]
  simp
theorem qU {t : Ty} (hw : TyW t) : ∀ {fs : List (Fld × V)},(∀ p ∈ fs,p.1 ∈ t.fields) → (fs.Pairwise fun a b=>a.1.tag < b.1.tag) → ∀ {p : Fld × V},p ∈ fs → cC p.1 (fs.map aq) = some p.2
 | q :: fs,hf,hs,p,hp=>by
  rw [List.pairwise_cons] at hs
  rw [List.map_cons,cC]
  rcases List.mem_cons.1 hp with rfl | hp
  ·rw [if_pos (show (aq p).tag = p.1.tag from rfl)];rfl
  ·have:=hs.1 p hp
   rw [if_neg (show ¬ (aq q).tag = p.1.tag by show ¬ q.1.tag = p.1.tag;omega)]
   exact qU hw (fun r hr=>hf r (by simp [hr])) hs.2 hp
theorem sD {ts : List Ty} {f : Fld} {y : V} (h : y.out ≠ bR ts f) : ∀ {vs : List V},.nd 61 [] f.tag [y] ∈ dI ts f y vs
 | []=>by rw [eX];unfold nf;rw [if_neg h];simp
 | v :: vs=>by
  rw [dK]
  split
  ·exact List.mem_cons_of_mem _ (sD h)
  ·unfold nf;rw [if_neg h];simp
theorem xy {ts : List Ty} (hw : SchW ts) {k : adB} {v : V} (h : OfK ts k v) (hk : aA ts k = true) {n : Int} (hn : 0 ≤ n) {k1 : adB} {v1 : V} (e : aC ts k v n = some (k1,v1)) {y : V} (hy : 400 < y.out.length) : 400 < (cQ ts k v n y).out.length:=by
 obtain ⟨c,r,rfl⟩:=dX hk
 unfold aC at e
 dsimp only at e
 split at e
 ·rename_i hc
  split at e
  ·rename_i hlt
   rcases di h oM with ⟨g1,_⟩ | ⟨g1,_⟩ | ⟨g1,_⟩ | ⟨g1,ks,g2,g3,rfl⟩ | ⟨g1,rfl | ⟨u,g3,rfl⟩⟩
   ·omega
   ·omega
   ·omega
   ·rw [V.kids] at hlt
    unfold cQ
    rw [V.what,if_neg dC,if_pos rfl,V.kids]
    show 400 < (V.nd 91 [] 0 (ks.set n.toNat y)).out.length
    rw [rj]
    have hm : y ∈ ks.set n.toNat y:=List.mem_iff_getElem.2 ⟨n.toNat,by rw [List.length_set];omega,by simp⟩
    have:=kM (xs:=(ks.set n.toNat y).map V.out) (List.mem_map_of_mem (f:=V.out) hm)
    simp only [List.length_cons,List.length_append]
    omega
   ·simp [V.kids] at hlt;omega
   ·unfold cQ
    rw [V.what,if_neg dC,if_neg dC]
    have e1 : V.out (.nd 63 [] 0 [y]) = 43 :: y.out:=by rw [V.out];simp [V.outs,aO,c5]
    show 400 < (V.nd 63 [] 0 [y]).out.length
    rw [e1,List.length_cons];omega
  ·cases e
 ·split at e
  ·cases e
  ·rename_i t hr
   have ht:=bj hr
   split at e
   ·cases e
   ·rename_i f hf
    have hfm:=List.mem_of_find?_eq_some hf
    split at e
    ·cases e
    ·rename_i h69
     split at e
     ·rename_i h82
      rcases bH h hr with ⟨_,fs,rfl,g3,g4,_,_⟩ | ⟨g1,_⟩ | ⟨g1,_⟩
      ·have e1 : cQ ts (c :: r) (.nd 82 [] 0 (fs.map aq)) n y = .nd 82 [] 0 (dI ts f y (fs.map aq)):=by
        unfold cQ;rw [V.what,if_pos rfl,hr]
        dsimp only
        rw [hf];rfl
       have hst:=(iI (fp hw ht h69 hfm).2.1).2
       have hne : y.out ≠ bR ts f:=fun e=>by rw [e] at hy;omega
       have:=kM (xs:=(dI ts f y (fs.map aq)).map V.out) (List.mem_map_of_mem (f:=V.out) (sD hne))
       rw [gh] at this
       rw [e1,sN]
       simp only [List.length_cons,List.length_append] at this ⊢
       omega
      ·omega
      ·omega
     ·rename_i h82
      split at e
      ·rcases bH h hr with ⟨h1,_⟩ | ⟨h1,_⟩ | ⟨_,_,d,u,rfl,g4,g5⟩
       ·omega
       ·omega
       ·unfold cQ
        rw [V.what,if_neg dC,if_neg dC]
        have e1 : V.out (.nd 85 [] d.tag [y]) = 60 :: (be d.tag ++ 61 :: (y.out ++ [62])):=by rw [V.out];simp [V.outs,aO,c5]
        show 400 < (V.nd 85 [] d.tag [y]).out.length
        rw [e1]
        simp only [List.length_cons,List.length_append]
        omega
      ·cases e
theorem oc {ts : List Ty} (hw : SchW ts) : ∀ {p : List Int} {k : adB} {v y : V} {k' : adB} {v' : V},OfK ts k v → aA ts k = true → (∀ n ∈ p,0 ≤ n) → ce ts k v p = some (k',v') → 400 < y.out.length → 400 < (bQ ts k v p y).out.length
 | [],k,v,y,k',v',h,hk,_,e,hy=>by rw [bQ];exact hy
 | n :: p,k,v,y,k',v',h,hk,hp,e,hy=>by
  unfold ce at e
  cases hs : aC ts k v n with
  | none=>rw [hs] at e;cases e
  | some x =>
   rw [hs] at e
   obtain ⟨k1,v1⟩:=x
   have hn:=hp n (by simp)
   obtain ⟨h1,h2⟩:=cP hw h hk hn hs
   rw [eZ hs]
   exact xy hw h hk hn hs (oc hw h1 h2 (fun m hm=>hp m (by simp [hm])) e hy)
theorem p9 {s k w p x : adB} (h1 : s.length ≤ 1048576 ∧ k.length ≤ 1048576 ∧ w.length ≤ 1048576 ∧ p.length ≤ 1048576) (hx : x.length ≤ 1048576) : aZ adA 34 [S s,S k,S w,S p,S x] G (· = mA (eK s k w p x)):=by
 unfold eK
 cases hg : cW s k w with
 | none =>
  rw [sJ]
  have cx_gi0:=kB (G:=G) (s:=s) (k:=k) (w:=w) oM hg
  cases hpo : da p with
  | none =>
   have cx_sp:=nV h1.2.2.2 hpo
   refine jB (Post:=fun v G' L'=>G' = G ∧ L' = [] ∧ _) [(0,_),(1,_),(2,_),(3,_),(4,_)] Tryz.func34 Tryz.ntmps34 fun B hok hB hW=>?_
   repeat' (first | refine jR ?_ | (refine jo ?_;first | refine jL fun _=>?_ | refine jC F F F ?_ | refine aP F ?_ | (refine ar F F F cx_gi0 F ?_;rintro _ G hle ⟨p1,a1,b1,c1,rfl⟩;skip) | (refine ar F F F (cx_sp _) F ?_;rintro _ G hle ⟨sa,sc,sn,rfl,hsp⟩;skip)) | refine aG F F F ?_ | refine ac F F ?_)
   all_goals refine Nx.base hok hB ?_
   all_goals refine jY (vs:=[_,_]) ?_
   all_goals rfl
  | some q =>
   have cx_sp:=mM h1.2.2.2 hpo
   refine jB (Post:=fun v G' L'=>G' = G ∧ L' = [] ∧ _) [(0,_),(1,_),(2,_),(3,_),(4,_)] Tryz.func34 Tryz.ntmps34 fun B hok hB hW=>?_
   repeat' (first | refine jR ?_ | (refine jo ?_;first | refine jL fun _=>?_ | refine jC F F F ?_ | refine aP F ?_ | (refine ar F F F cx_gi0 F ?_;rintro _ G hle ⟨p1,a1,b1,c1,rfl⟩;skip) | (refine ar F F F (cx_sp _) F ?_;rintro _ G hle ⟨sa,sc,sn,rfl,hsp⟩;skip)) | refine aG F F F ?_ | refine ac F F ?_)
   all_goals refine Nx.base hok hB ?_
   all_goals refine jY (vs:=[_,_]) ?_
   all_goals rfl
 | some u =>
  obtain ⟨ts,hs,hki,hvo,hto,hwf⟩:=cV hg
  have cx_gi1:=kA (G:=G) (s:=s) (k:=k) (w:=w) oM hs hki hvo
  rw [hs]
  cases hpo : da p with
  | none =>
   have cx_sp:=nV h1.2.2.2 hpo
   refine jB (Post:=fun v G' L'=>G' = G ∧ L' = [] ∧ _) [(0,_),(1,_),(2,_),(3,_),(4,_)] Tryz.func34 Tryz.ntmps34 fun B hok hB hW=>?_
   repeat' (first | refine jR ?_ | (refine jo ?_;first | refine jL fun _=>?_ | refine jC F F F ?_ | refine aE F ?_ | (refine ar F F F cx_gi1 F ?_;rintro _ G hle ⟨bg,qg,cv,rfl,hTg,hRg,hrv⟩;skip) | (refine ar F F F (cx_sp _) F ?_;rintro _ G hle ⟨sa,sc,sn,rfl,hsp⟩;skip)) | refine aw F F F ?_ | refine ac F F ?_)
   all_goals refine Nx.base hok hB ?_
   all_goals refine jY (vs:=[_,_]) ?_
   all_goals rfl
  | some q =>
   have cx_sp:=mM h1.2.2.2 hpo
   obtain ⟨hq8,hqn⟩:=rg hpo
   have hof:=dq hvo
   have hw:=d9 hs
   have hqn0 : ∀ n ∈ q,0 ≤ n:=fun n hn=>(hqn n hn).1
   dsimp only
   cases hfo : ce ts k u q with
   | none =>
    dsimp only
    refine jB (Post:=fun v G' L'=>G' = G ∧ L' = [] ∧ _) [(0,_),(1,_),(2,_),(3,_),(4,_)] Tryz.func34 Tryz.ntmps34 fun B hok hB hW=>?_
    repeat' (first | refine jR ?_ | (refine jo ?_;first | refine jL fun _=>?_ | refine jC F F F ?_ | refine aE F ?_ | refine bM F ?_ | (refine ar F F F cx_gi1 F ?_;rintro _ G hle ⟨bg,qg,cv,rfl,hTg,hRg,hrv⟩;(try have hru:=aD hle hru);(try have hRg:=ScI.mono hRg hle);(try have hsp:=aT.mono hsp hle)) | (refine ar F F F (cx_sp _) F ?_;rintro _ G hle ⟨sa,sc,sn,rfl,hsp⟩;(try have hru:=aD hle hru);(try have hRg:=ScI.mono hRg hle);(try have hsp:=aT.mono hsp hle))) | refine aw F F F ?_ | refine ad F F ?_)
    obtain ⟨rfl,hsp⟩:=hsp
    subst hTg
    have hru:=aD hle hrv
    have hfl:=nq hRg hw hsp hqn oM hru hof hki oM
    unfold cR at hfl
    rw [show bi cv = [U8 (cv.what : Nat),S cv.text,I cv.tag,.slice cv.a cv.n cv.c] from rfl] at hfl
    have cx_fon:=eQ.no hfl hfo
    repeat' (first | refine jR ?_ | (refine jo ?_;first | refine jL fun _=>?_ | refine jC F F F ?_ | (refine ar F F F cx_fon F ?_;rintro _ G hle rfl;(try have hru:=aD hle hru);(try have hRg:=ScI.mono hRg hle);(try have hsp:=aT.mono hsp hle))) | refine ac F F ?_)
    all_goals refine Nx.base hok hB ?_
    all_goals refine jY (vs:=[_,_]) ?_
    all_goals rfl
   | some y =>
    obtain ⟨k1,v1⟩:=y
    obtain ⟨_,hk1⟩:=l4 hw hof hki hqn0 hfo
    dsimp only
    cases hvx : cq ts k1 x with
    | none =>
     suffices key : aZ adA 34 [S s,S k,S w,S p,S x] G (· = mA none) by
      rcases hrd : rd ts 12 k1 x with _ | ⟨y,_ | _⟩
      ·exact key
      ·have hxl : ¬ x.length ≤ 400:=fun hl=>by
        unfold cq at hvx
        rw [if_pos hl,hrd] at hvx
        cases hvx
       have hyo:=px _ _ _ _ hrd
       dsimp only at hyo
       rw [List.append_nil] at hyo
       have:=oc hw (y:=y) hof hki hqn0 hfo (by rw [← hyo];omega)
       dsimp only
       rw [if_neg (fun h=>by omega)]
       exact key
      ·exact key
     refine jB (Post:=fun v G' L'=>G' = G ∧ L' = [] ∧ _) [(0,_),(1,_),(2,_),(3,_),(4,_)] Tryz.func34 Tryz.ntmps34 fun B hok hB hW=>?_
     repeat' (first | refine jR ?_ | (refine jo ?_;first | refine jL fun _=>?_ | refine jC F F F ?_ | refine aE F ?_ | refine bM F ?_ | (refine ar F F F cx_gi1 F ?_;rintro _ G hle ⟨bg,qg,cv,rfl,hTg,hRg,hrv⟩;(try have hru:=aD hle hru);(try have hRg:=ScI.mono hRg hle);(try have hsp:=aT.mono hsp hle)) | (refine ar F F F (cx_sp _) F ?_;rintro _ G hle ⟨sa,sc,sn,rfl,hsp⟩;(try have hru:=aD hle hru);(try have hRg:=ScI.mono hRg hle);(try have hsp:=aT.mono hsp hle))) | refine aw F F F ?_ | refine ad F F ?_)
     obtain ⟨rfl,hsp⟩:=hsp
     subst hTg
     have hru:=aD hle hrv
     have hfl:=nq hRg hw hsp hqn oM hru hof hki oM
     unfold cR at hfl
     rw [show bi cv = [U8 (cv.what : Nat),S cv.text,I cv.tag,.slice cv.a cv.n cv.c] from rfl] at hfl
     have cx_foy:=eQ.yes hfl hfo
     repeat' (first | refine jR ?_ | (refine jo ?_;first | refine jL fun _=>?_ | refine jC F F F ?_ | refine bM F ?_ | (refine ar F F F cx_foy F ?_;rintro _ G hle ⟨cv,rfl,hrv⟩;(try have hru:=aD hle hru);(try have hRg:=ScI.mono hRg hle);(try have hsp:=aT.mono hsp hle))) | refine ad F F ?_)
     have cx_rin : bG adA 60 [Pt bg 0,Ag [S (sg k1),S (bs k1),S (nm k1)],S x] G (fun v _=>v = Tu [zP,Bo false]):=by
      refine (lm (G:=G) (b:=bg) (s:=x) hRg hw hk1 oM).mono ?_
      rintro v G' L' ⟨a1,a2,⟨_,a3⟩ | ⟨u',c',a4,_⟩⟩
      ·exact ⟨a1,a2,a3⟩
      ·rw [hvx] at a4;cases a4
     repeat' (first | refine jR ?_ | (refine jo ?_;first | refine jL fun _=>?_ | refine jC F F F ?_ | (refine ar F F F cx_rin F ?_;rintro _ G hle rfl;(try have hru:=aD hle hru);(try have hRg:=ScI.mono hRg hle);(try have hsp:=aT.mono hsp hle))) | refine ac F F ?_)
     all_goals refine Nx.base hok hB ?_
     all_goals refine jY (vs:=[_,_]) ?_
     all_goals rfl
    | some y =>
     obtain ⟨hrd,hxl⟩:=iI hvx
     rw [hrd]
     dsimp only
     have hoy:=dq hvx
     have hyt:=gr _ _ _ _ hrd
     dsimp only at hyt
     have hcg:=fB hw hof hki hqn0 hfo hoy
     have hct:=gR hw (y:=y) hof hki hqn0 hfo
     obtain ⟨o,ho⟩ : ∃ o,(if (bQ ts k u q y).out.length ≤ 400 ∧ (bQ ts k u q y).deep ≤ 12 then some (bQ ts k u q y).out else none) = o:=⟨_,rfl⟩
     rw [ho]
     refine jB (Post:=fun v G' L'=>G' = G ∧ L' = [] ∧ _) [(0,_),(1,_),(2,_),(3,_),(4,_)] Tryz.func34 Tryz.ntmps34 fun B hok hB hW=>?_
     repeat' (first | refine jR ?_ | (refine jo ?_;first | refine jL fun _=>?_ | refine jC F F F ?_ | refine aE F ?_ | refine bM F ?_ | (refine ar F F F cx_gi1 F ?_;rintro _ G hle ⟨bg,qg,cv,rfl,hTg,hRg,hrv⟩;(try have hru:=aD hle hru);(try have hRg:=ScI.mono hRg hle);(try have hsp:=aT.mono hsp hle)) | (refine ar F F F (cx_sp _) F ?_;rintro _ G hle ⟨sa,sc,sn,rfl,hsp⟩;(try have hru:=aD hle hru);(try have hRg:=ScI.mono hRg hle);(try have hsp:=aT.mono hsp hle))) | refine aw F F F ?_ | refine ad F F ?_)
     obtain ⟨rfl,hsp⟩:=hsp
     subst hTg
     have hru:=aD hle hrv
     have hfl:=nq hRg hw hsp hqn oM hru hof hki oM
     unfold cR at hfl
     rw [show bi cv = [U8 (cv.what : Nat),S cv.text,I cv.tag,.slice cv.a cv.n cv.c] from rfl] at hfl
     have cx_foy:=eQ.yes hfl hfo
     repeat' (first | refine jR ?_ | (refine jo ?_;first | refine jL fun _=>?_ | refine jC F F F ?_ | refine bM F ?_ | (refine ar F F F cx_foy F ?_;rintro _ G hle ⟨cv,rfl,hrv⟩;(try have hru:=aD hle hru);(try have hRg:=ScI.mono hRg hle);(try have hsp:=aT.mono hsp hle))) | refine ad F F ?_)
     have cx_ris : bG adA 60 [Pt bg 0,Ag [S (sg k1),S (bs k1),S (nm k1)],S x] G (fun v G'=>∃ cv,v = Tu [Ag (bi cv),Bo true] ∧ V.rep G' y cv):=by
      refine (lm (G:=G) (b:=bg) (s:=x) hRg hw hk1 oM).mono ?_
      rintro v G' L' ⟨a1,a2,⟨a4,_⟩ | ⟨u',c',a4,rfl,a5⟩⟩
      ·rw [hvx] at a4;cases a4
      ·rw [hvx] at a4;obtain rfl:=Option.some.inj a4;exact ⟨a1,a2,c',F,a5⟩
     repeat' (first | refine jR ?_ | (refine jo ?_;first | refine jL fun _=>?_ | refine jC F F F ?_ | refine bM F ?_ | (refine ar F F F cx_ris F ?_;rintro _ G hle ⟨cv,rfl,hrv⟩;(try have hru:=aD hle hru);(try have hRg:=ScI.mono hRg hle);(try have hsp:=aT.mono hsp hle))) | refine ad F F ?_)
     have cx_ch:=rQ hw q hRg hsp hqn hq8 hru hof hki oM hfo hrv hoy oM
     simp only [cR,bi,VC.sl] at cx_ch
     dsimp only [bi,VC.sl]
     repeat' (first | refine jR ?_ | (refine jo ?_;first | refine jL fun _=>?_ | refine jC F F F ?_ | refine bM F ?_ | (refine ar F F F cx_ch F ?_;rintro _ G hle ⟨cz,rfl,hrz⟩;(try have hru:=aD hle hru);(try have hRg:=ScI.mono hRg hle);(try have hsp:=aT.mono hsp hle))))
     have cx_fit:=abR hrz oM
     have cx_pr:=eh (G:=G) (c:=cz) _ (Nat.le_refl _) oM hrz
     simp only [bi,VC.sl] at cx_fit cx_pr
     by_cases hfit : (bQ (al qg) k u q y).out.length ≤ 400 ∧ (bQ (al qg) k u q y).deep ≤ 12
     ·rw [if_pos hfit] at ho
      subst ho
      rw [decide_eq_true hfit] at cx_fit
      repeat' (first | refine jR ?_ | (refine jo ?_;first | refine bM F ?_ | refine ae F F F cx_fit F ?_ | refine ae F F F cx_pr F ?_) | refine ad F F ?_)
      all_goals refine Nx.base hok hB ?_
      all_goals refine jY (vs:=[_,_]) ?_
      all_goals rfl
     ·rw [if_neg hfit] at ho
      subst ho
      rw [decide_eq_false hfit] at cx_fit
      repeat' (first | refine jR ?_ | (refine jo ?_;refine ae F F F cx_fit F ?_) | refine ac F F ?_)
      all_goals refine Nx.base hok hB ?_
      all_goals refine jY (vs:=[_,_]) ?_
      all_goals rfl
theorem sH {s k w p x z : adB} (h : eK s k w p x = some z) : ∃ ts u q k1 v1 y,bc s = some ts ∧ cW s k w = some u ∧ da p = some q ∧ ce ts k u q = some (k1,v1) ∧ rd ts 12 k1 x = some (y,[]) ∧ ((bQ ts k u q y).out.length ≤ 400 ∧ (bQ ts k u q y).deep ≤ 12) ∧ z = (bQ ts k u q y).out:=by
 unfold eK at h
 split at h
 ·rename_i ts u q h1 h2 h3
  cases hf : ce ts k u q with
  | none=>rw [hf] at h;cases h
  | some y =>
   rw [hf] at h
   obtain ⟨k',v'⟩:=y
   dsimp only at h
   split at h
   ·rename_i y hy
    split at h
    ·rename_i hc
     simp only [Option.some.injEq] at h
     exact ⟨ts,u,q,k',v',y,h1,h2,h3,hf,hy,hc,h.symm⟩
    ·cases h
   ·cases h
 ·cases h
theorem xT {s k w : adB} {ts : List Ty} {u : V} (h1 : bc s = some ts) (h2 : aA ts k = true) (h3 : cq ts k w = some u) : cW s k w = some u:=by
 unfold cW
 rw [h1]
 dsimp only
 rw [if_pos h2,h3]
theorem aaR {ts : List Ty} (hw : SchW ts) {k : adB} {v : V} (h : OfK ts k v) (hd : v.deep ≤ 12) : rd ts 12 k v.out = some (v,[]):=by
 have:=lM hw 12 h hd [] lk
 rwa [List.append_nil] at this
theorem sI {s k w p x z : adB} (h : eK s k w p x = some z) : ld s k z = true ∧ z.length ≤ 400:=by
 obtain ⟨ts,u,q,k1,v1,y,h1,h2,h3,h4,h5,h6,rfl⟩:=sH h
 obtain ⟨ts',g1,g2,g3,g4,g5⟩:=cV h2
 obtain rfl : ts = ts':=Option.some.inj (h1.symm.trans g1)
 have hw:=d9 h1
 have ho:=dq g3
 obtain ⟨b1,b2,b3,b4⟩:=ue h3
 have hq0 : ∀ n ∈ q,0 ≤ n:=fun n hn=>(b3 n hn).1
 have hy:=py _ _ _ _ h5
 have hc:=fB hw ho g2 hq0 h4 hy
 exact ⟨by unfold ld;rw [xT h1 g2 (om hw hc h6.1 h6.2)];rfl,h6.1⟩
def fZ (s k : adB) : adB → List Ch → Option adB
 | w,[]=>some w
 | w,c :: r=>match eK s k w c.1 c.2 with
  | none=>none
  | some t=>fZ s k t r
def jl (s k w : adB) (l : List Ch) : Option adB:=if ld s k w = true then fZ s k w l else none
theorem nw {s k w : adB} {u : Value} {l : List Ch} (h : s.length ≤ 1048576 ∧ k.length ≤ 1048576 ∧ w.length ≤ 1048576) (hu : aT G u 2 l.length (ah cY l)) (hn : l.length ≤ 1048576) (hl : ∀ x ∈ l,t8 x) :
  aZ adA 14 [S s,S k,S w,u] G (· = mA (jl s k w l)):=by
 unfold jl
 have cx_o1:=p8 (G:=G) h
 cases ho : ld s k w with
 | false =>
  rw [ho] at cx_o1
  rw [if_neg (by simp)]
  refine jE [(0,_),(1,_),(2,_),(3,_)] Tryz.func14 Tryz.ntmps14 fun B hB=>?_
  repeat' (first | refine jR ?_ | (refine jo ?_;refine ae F F F cx_o1 F ?_) | refine ac F F ?_)
  all_goals refine jY (vs:=[_,_]) ?_
  all_goals rfl
 | true =>
  rw [ho] at cx_o1
  rw [if_pos rfl]
  refine jE [(0,_),(1,_),(2,_),(3,_)] Tryz.func14 Tryz.ntmps14 fun B hB=>?_
  repeat' (first | refine jR ?_ | (refine jo ?_;first | refine jV (eY F aS) ?_ | refine ae F F F cx_o1 F ?_) | refine ad F F ?_)
  refine aV (ι:=Nat × adB) (fun j=>(j.1 ≤ l.length ∧ fZ s k w l = fZ s k j.2 (l.drop j.1)) ∧ j.2.length ≤ 1048576) (fun j=>[(0,S s),(1,S k),(2,S j.2),(18,u),(19,I (l.length : Nat)),(20,I (j.1 : Nat))]) (fun _=>G) (fun j=>[]) (fun j=>l.length - j.1) (0,w) ?_ tU F a7 (fun j Hj=>?_)
  ·exact ⟨⟨Nat.zero_le _,F⟩,h.2.2⟩
  obtain ⟨i,t⟩:=j
  dsimp only at Hj ⊢
  obtain ⟨⟨hj1,hj2⟩,hj3⟩:=Hj
  by_cases hi : i < l.length
  ·obtain ⟨ba,oa,ca,rfl,sa⟩:=hu.expl oM
   have hx:=hl _ (bB hi)
   have cx_ps1:=p9 (G:=G) (s:=s) (k:=k) (w:=t) (p:=(ab l i).1) (x:=(ab l i).2) ⟨h.1,h.2.1,hj3,hx.1⟩ hx.2
   rw [iT hi,fZ] at hj2
   unfold mA at cx_ps1
   cases hp : eK s k t (ab l i).1 (ab l i).2 with
   | none =>
    rw [hp] at cx_ps1 hj2
    dsimp only [Option.getD,Option.isSome] at cx_ps1 hj2
    repeat' (first | refine jR ?_ | (refine jo ?_;first | refine jV (ak F F oM) ?_ | refine aB F ?_ | (refine jV (dM F F aS ?_) ?_;focus omega) | refine jL fun _=>?_ | refine jC F F F ?_ | refine ae F F F cx_ps1 F ?_) | (refine ac F (by first | rfl | (refine decide_eq_true ?_;(omega))) ?_))
    all_goals refine jY (vs:=[_,_]) ?_
    all_goals (rw [hj2];all_goals rfl)
   | some z =>
    have hz:=(sI hp).2
    rw [hp] at cx_ps1 hj2
    dsimp only [Option.getD,Option.isSome] at cx_ps1 hj2
    repeat' (first | refine jM ?_ | (refine jo ?_;first | refine jV (ak F F oM) ?_ | refine aB F ?_ | (refine jV (dM F F aS ?_) ?_;focus omega) | refine jL fun _=>?_ | refine jC F F F ?_ | refine ae F F F cx_ps1 F ?_) | refine ac F (ax oM) ?_ | refine ad F F ?_)
    exact bm (i + 1,z) ⟨⟨oM,hj2⟩,by dsimp only;omega⟩ (by dsimp only;omega) tU rfl (by repeat (exact List.nil_sublist _))
  ·have ei : i = l.length:=oM
   subst ei
   rw [List.drop_length,fZ] at hj2
   repeat' (first | refine jR ?_ | refine ad F (aF oM) ?_)
   all_goals refine jY (vs:=[_,_]) ?_
   all_goals (rw [hj2];all_goals rfl)
theorem oH {α : Type} [Inhabited α] {l : List α} {i p : Nat} {c : α} (hp : p < l.length) : ab (l.set i c) p = if p = i then c else ab l p:=by
 rw [qv hp]
 by_cases e : i = p
 ·rw [if_pos e,if_pos e.symm]
 ·rw [if_neg e,if_neg (fun h=>e h.symm)]
def uU (k : Int) : adB:=if k = 0 then [] else be k
theorem yd {k : Int} (h : 0 < k) : uU k = uU (k / 10) ++ [u8 (48 + k % 10)]:=by
 unfold uU
 rw [if_neg oM]
 by_cases h10 : k < 10
 ·rw [if_pos oM,dZ h10 oM,show k % 10 = k by omega];rfl
 ·rw [if_neg oM,iU h10]
def kp (k : Int) : adB:=109 :: be k
theorem j0 {k : Int} (h : 1 ≤ k ∧ k ≤ 9000000000000000000) : aZ adA 28 [I k] G (· = S (kp k)):=by
 refine jE [(0,_)] Tryz.func28 Tryz.ntmps28 fun B hB=>?_
 repeat' (first | refine jR ?_ | refine ad F (aF oM) ?_)
 refine aV (ι:=Int × adB) (fun i=>(0 ≤ i.1 ∧ i.1 ≤ 9000000000000000000) ∧ uU i.1 ++ i.2 = be k) (fun i=>[(0,I i.1),(3,S i.2)]) (fun _=>G) (fun i=>[]) (fun i=>i.1.toNat) (k,[]) ?_ tU F a7 (fun i Hi=>?_)
 ·refine ⟨⟨by dsimp only;omega,h.2⟩,?_⟩
  show uU k ++ [] = be k
  unfold uU
  rw [if_neg oM,List.append_nil]
 obtain ⟨i,out⟩:=i
 dsimp only at Hi ⊢
 obtain ⟨hi,he⟩:=Hi
 have hlen : out.length ≤ 19:=by
  have h1:=gz (n:=k) oM
  rw [← he,List.length_append] at h1
  omega
 by_cases hp : 0 < i
 ·repeat' (first | refine jX ?_ | (refine jo ?_;first | refine jF fun _=>?_ | refine jV (gU F F (by (repeat (first | exact BL.nil | apply BL.cons));done)) ?_) | refine ac F (ax ‹_›) ?_)
  refine bm (i / 10,[u8 (48 + i % 10)] ++ out) ⟨⟨by dsimp only;omega,by dsimp only;omega⟩,?_⟩ (by dsimp only;omega) tU rfl (by repeat (exact List.nil_sublist _))
  dsimp only
  rw [← he,yd hp,List.append_assoc]
 ·obtain rfl : i = 0:=oM
  have he : out = be k:=he
  subst he
  repeat' (first | refine jX ?_ | refine ad F F ?_)
  refine jY (vs:=[_]) ?_
  rfl
def mX (n : Nat) (k : Int) : List Ch:=(List.range n).map fun i : Nat=>(kp (k + 2 * i),kp (k + 2 * i + 1))
theorem qy (n : Nat) (k : Int) : (mX n k).length = n:=by unfold mX;simp
theorem qx {n : Nat} {k : Int} {i : Nat} (h : i < n) : ab (mX n k) i = (kp (k + 2 * i),kp (k + 2 * i + 1)):=by
 rw [aI (by rw [qy];exact h)]
 unfold mX
 simp
section
variable {P : Program} {n : Nat} {D : List Deferred} {E : bN} {B : Base} {G : Gh} {L : List Own} {K : Act → World → Prop} {Q : Exit → Act → World → Prop} {ty : TypeId} {pos : String} {aft : Array Edge} {gd : Option (Nat × Bool)}
theorem wY {j : Nat} {cs : List Ch} {c : Ch} {i : Nat} {x1 : adB} {T T0 : TypeId} {x y : Operand} {desc : TypeDesc} {bytes b o m cap : Nat} {zero : Value} {xs : List Value} {L' : List Own} [TI P T desc 1 bytes zero] [hu : UpdA b (ah cY (cs.set i c)) L m cap T0 2 xs L']
  (hc : (j = 0 ∧ c = (x1,(ab cs i).2)) ∨ (j = 1 ∧ c = ((ab cs i).1,x1))) (hx : ev E x = some (Pt b o)) (hy : ev E y = some (S x1)) (hxs : xs = ah cY cs) (ho : o = i * 2 + j) (hi : i < cs.length)
  (k : Nx n D E B G L' K) : Nx n D E B G L (ow P ⟨none,.store T x y,ty,pos,aft,gd⟩ Q K):=by
 refine qM (vs:=[S x1]) hx hy F F F F hu.upd ?_ k
 subst hxs
 have e1 : cs = cs.take i ++ cs[i] :: cs.drop (i + 1):=by rw [List.getElem_cons_drop,List.take_append_drop]
 have e2 : cs.set i c = cs.take i ++ c :: cs.drop (i + 1):=by rw [List.set_eq_take_append_cons_drop,if_pos hi]
 have hlen:=cN (f:=cY) (cs.take i)
 rw [List.length_take,Nat.min_eq_left oM] at hlen
 have e3 : ah cY cs = ah cY (cs.take i) ++ (cY cs[i] ++ ah cY (cs.drop (i + 1))):=by rw [← jg,← lJ,← e1]
 have hn : ab cs i = cs[i]:=aI hi
 rw [e2,e3,lJ,jg]
 rcases hc with ⟨rfl,rfl⟩ | ⟨rfl,rfl⟩
 ·rw [ho,Nat.add_zero,← hlen,hn]
  exact g9 (ah cY (cs.take i)) (z:=[S cs[i].1]) (vs:=[S x1]) (r:=S cs[i].2 :: ah cY (cs.drop (i + 1))) F (by simp)
 ·rw [ho,hn]
  have:=g9 (ah cY (cs.take i) ++ [S cs[i].1]) (z:=[S cs[i].2]) (vs:=[S x1]) (r:=ah cY (cs.drop (i + 1))) rfl (by simp)
  rw [List.length_append,hlen] at this
  simpa [cY,List.append_assoc] using this
end
theorem aad {p : Option Addr} {c : Nat} {T : TypeId} {l : List Ch} {k : Int} (hk : 1 ≤ k ∧ k ≤ 1000000000000) (hn : l.length ≤ 1048576) :
  dO adA 10 [.slice p l.length c,I k] G [.acc (.slice p l.length c) T 2 l.length (ah cY l)] (fun v L'=>v = I (k + 2 * (l.length : Nat)) ∧ L' = [.acc (.slice p l.length c) T 2 l.length (ah cY (mX l.length k))]):=by
 refine jH [(0,_),(1,_)] Tryz.func10 Tryz.ntmps10 fun B hB hW=>?_
 repeat' (refine jR ?_)
 rw [show I k = I (k + 2 * ((0 : Nat) : Int)) by rw [show k + 2 * ((0 : Nat) : Int) = k by omega]]
 refine aV (ι:=Nat × List Ch) (fun i=>i.2.length = l.length ∧ i.1 ≤ l.length ∧ ∀ j,j < i.1 → ab i.2 j = (kp (k + 2 * j),kp (k + 2 * j + 1))) (fun i=>[(0,.slice p l.length c),(1,I (k + 2 * (i.1 : Nat))),(5,I (i.1 : Nat))]) (fun _=>G) (fun i=>[.acc (.slice p l.length c) T 2 l.length (ah cY i.2)]) (fun i=>l.length - i.1) (0,l) ?_ tU F a7 (fun i Hi=>?_)
 ·exact ⟨F,Nat.zero_le _,fun j hj=>absurd hj (Nat.not_lt_zero _)⟩
 obtain ⟨i,cur⟩:=i
 dsimp only at Hi ⊢
 obtain ⟨h1,h2,h3⟩:=Hi
 by_cases hi : i < l.length
 ·refine Nx.shp (.head _) fun hsh=>?_
  obtain ⟨b,cc,e⟩:=hsh.pos oM
  simp only [Value.slice.injEq] at e
  obtain ⟨rfl,-,rfl⟩:=e
  have cx_mt1:=j0 (G:=G) (k:=k + 2 * (i : Nat)) oM
  have cx_mt2:=j0 (G:=G) (k:=k + 2 * (i : Nat) + 1) oM
  repeat' (first | refine jM ?_ | (refine jo ?_;first | refine jV (af F) ?_ | refine jV (ak F F oM) ?_ | refine wY (j:=0) (cs:=cur) (i:=i) (x1:=kp (k + 2 * (i : Nat))) (.inl ⟨F,F⟩) F F F oM oM ?_ | refine wY (j:=1) (cs:=cur.set i (kp (k + 2 * (i : Nat)),(ab cur i).2)) (i:=i) (x1:=kp (k + 2 * (i : Nat) + 1)) (.inr ⟨F,F⟩) F F F oM (by rw [List.length_set];omega) ?_ | refine ae F F F cx_mt1 F ?_ | refine ae F F F cx_mt2 F ?_) | refine ac F (ax oM) ?_)
  rw [show k + 2 * (i : Nat) + 1 + 1 = k + 2 * ((i + 1 : Nat) : Int) by omega]
  refine bm (i + 1,(cur.set i (kp (k + 2 * (i : Nat)),(ab cur i).2)).set i ((ab (cur.set i (kp (k + 2 * (i : Nat)),(ab cur i).2)) i).1,kp (k + 2 * (i : Nat) + 1))) ⟨by simp [h1],by dsimp only;omega,fun j hj=>?_⟩ (by dsimp only;omega) tU rfl a7
  dsimp only at hj ⊢
  rw [oH (by rw [List.length_set];omega),oH oM,oH oM,if_pos rfl]
  by_cases e : j = i
  ·subst e;rw [if_pos rfl]
  ·rw [if_neg e,if_neg e]
   exact h3 j oM
 ·obtain rfl : i = l.length:=oM
  have e : cur = mX l.length k:=by
   refine List.ext_getElem (by rw [qy,h1]) fun j hj hj2=>?_
   rw [← aI hj,← aI hj2,h3 j oM,qx oM]
  subst e
  repeat' (first | refine jR ?_ | (refine jo ?_;refine jV (af F) ?_) | refine ad F (aF oM) ?_)
  refine aW (vs:=[_]) F ⟨F,trivial⟩ F a7 ⟨F,F,F⟩
theorem vb {p : Option Addr} {c n : Nat} {T : TypeId} {k : Int} (hk : 1 ≤ k ∧ k ≤ 1000000000000) (hn : n ≤ 1048576) :
  dO adA 11 [.slice p n c,I k] G [.acc (.slice p n c) T 2 n (ah cY (mX n k))] (fun v L'=>v = I (k + 2 * (n : Nat)) ∧ L' = [.acc (.slice p n c) T 2 n (ah cY (mX n k))]):=by
 have hml:=qy n k
 refine jH [(0,_),(1,_)] Tryz.func11 Tryz.ntmps11 fun B hB hW=>?_
 repeat' (refine jR ?_)
 rw [show I k = I (k + 2 * ((0 : Nat) : Int)) by rw [show k + 2 * ((0 : Nat) : Int) = k by omega]]
 refine aV (ι:=Nat) (fun i=>i ≤ n) (fun i=>[(0,.slice p n c),(1,I (k + 2 * (i : Nat))),(5,I (i : Nat))]) (fun _=>G) (fun i=>[.acc (.slice p n c) T 2 n (ah cY (mX n k))]) (fun i=>n - i) 0 ?_ tU F a7 (fun i Hi=>?_)
 ·exact Nat.zero_le _
 by_cases hi : i < n
 ·refine Nx.shp (.head _) fun hsh=>?_
  obtain ⟨b,cc,e⟩:=hsh.pos oM
  simp only [Value.slice.injEq] at e
  obtain ⟨rfl,-,rfl⟩:=e
  have cx_mt1:=j0 (G:=G) (k:=k + 2 * (i : Nat)) oM
  have cx_mt2:=j0 (G:=G) (k:=k + 2 * (i : Nat) + 1) oM
  have e1 : (ab (mX n k) i).1 = kp (k + 2 * (i : Nat)):=by rw [qx hi]
  have e2 : (ab (mX n k) i).2 = kp (k + 2 * (i : Nat) + 1):=by rw [qx hi]
  repeat' (first | refine jM ?_ | (refine jo ?_;refine jV (af F) ?_) | refine ac F (ax oM) ?_ | (refine ad F ?_ ?_;(focus ((simp [*];done);done))) | (refine an (ao (id:=4) _ (fun _ h=>h) am ?_);refine jT 5 [0,1,5] (aa 8 35) ?_;(refine jG (aa 8 39) 2 F (ak F F oM) ?_);refine jT 3 [3] (aa 8 47) ?_;(refine jG (aa 8 63) 4 F (fk F F F oM F F) ?_);refine jA 6 F ?_;(refine ae F F F cx_mt1 F ?_);refine jS (aa 8 127) ?_;refine jT 0 [7] (aa 8 255) ?_;refine jQ ?_) | (refine an (ao (id:=7) _ (fun _ h=>h) am ?_);refine jT 5 [0,1,5] (aa 8 35) ?_;(refine jG (aa 8 39) 2 F (ak F F oM) ?_);refine jT 3 [3] (aa 8 47) ?_;(refine jG (aa 8 63) 4 F (fk F F F oM F F) ?_);refine jA 6 F ?_;(refine ae F F F cx_mt2 F ?_);refine jS (aa 8 127) ?_;refine jT 0 [7] (aa 8 255) ?_;refine jQ ?_))
  rw [show k + 2 * (i : Nat) + 1 + 1 = k + 2 * ((i + 1 : Nat) : Int) by omega]
  exact bm (i + 1) oM oM tU F a7
 ·obtain rfl : i = n:=oM
  repeat' (first | refine jR ?_ | (refine jo ?_;refine jV (af F) ?_) | refine ad F (aF oM) ?_)
  refine aW (vs:=[_]) F ⟨F,trivial⟩ F a7 ⟨F,F,F⟩
theorem nr {p : Option Addr} {c : Nat} {T : TypeId} {v : Value} {a b : List Ch} (hv : aT G v 2 b.length (ah cY b)) (hn : a.length ≤ 1048576) (hb : b.length ≤ 1048576) :
  dO adA 9 [.slice p a.length c,v] G [.acc (.slice p a.length c) T 2 a.length (ah cY a)] (fun r L'=>r = Bo (decide (a = b)) ∧ L' = [.acc (.slice p a.length c) T 2 a.length (ah cY a)]):=by
 obtain ⟨va,vc,rfl⟩:=hv.sl
 refine jH [(0,_),(1,_)] Tryz.func9 Tryz.ntmps9 fun B hB hW=>?_
 repeat' (first | refine jR ?_ | (refine jo ?_;refine jV (af F) ?_) | refine eA F (fun _=>?_) (fun _=>?_))
 ·rw [decide_eq_false (fun h : a = b=>by subst h;simp_all)]
  refine aW (vs:=[_]) F ⟨F,trivial⟩ F a7 ⟨F,F,F⟩
 ·have hl : a.length = b.length:=by simp_all;omega
  refine aV (ι:=Nat) (fun i=>i ≤ a.length ∧ a.take i = b.take i) (fun i=>[(0,.slice p a.length c),(1,.slice va b.length vc),(5,I i)]) (fun _=>G) (fun i=>[.acc (.slice p a.length c) T 2 a.length (ah cY a)]) (fun i=>a.length - i) 0 ?_ tU F a7 (fun i Hi=>?_)
  ·exact ⟨oM,F⟩
  by_cases hi : i < a.length
  ·refine Nx.shp (.head _) fun hsh=>?_
   obtain ⟨ba,ca,e⟩:=hsh.pos oM
   simp only [Value.slice.injEq] at e
   obtain ⟨rfl,-,rfl⟩:=e
   obtain ⟨bb,ob,cb,e,sb⟩:=hv.expl oM
   simp only [Value.slice.injEq] at e
   obtain ⟨rfl,-,rfl⟩:=e
   repeat' (first | refine jM ?_ | (refine jo ?_;refine jV (af F) ?_) | refine ac F (ax oM) ?_ | refine oJ F (fun _=>?_) (fun _=>?_) | (refine an (ao (id:=6) _ (fun _ h=>h) am ?_);refine jT 6 [0,1,4,5] (aa 10 51) ?_;(refine jG (aa 10 55) 2 F (ak F F oM) ?_);(refine jG (aa 10 63) 3 F (m7 F F F oM) ?_);(refine jG (aa 10 127) 6 F (ak F F oM) ?_);((refine jG (aa 10 255) 7 F (dM F F aS ?_) ?_;focus omega));refine jA 8 F ?_;(refine ae F F F v5 F ?_);refine jS (aa 10 511) ?_;refine jT 0 [9] (aa 10 1023) ?_;refine jQ ?_))
   ·rename_i hne
    rw [decide_eq_false (fun h : a = b=>by subst h;simp at hne)]
    refine aW (vs:=[_]) F ⟨F,trivial⟩ F a7 ⟨F,F,F⟩
   ·rename_i hne
    have he : ab a i = ab b i:=by simpa using hne
    refine bm (i + 1) ?_ ?_ tU F a7
    ·refine ⟨oM,?_⟩
     rw [dl hi,dl oM,Hi.2,he]
    ·omega
  ·have ei : i = a.length:=oM
   have heq : a = b:=by
    have:=Hi.2
    rwa [ei,List.take_length,hl,List.take_length] at this
   rw [decide_eq_true heq]
   repeat' (first | refine jR ?_ | (refine jo ?_;refine jV (af F) ?_) | refine ad F (aF oM) ?_)
   refine aW (vs:=[_]) F ⟨F,trivial⟩ F a7 ⟨F,F,F⟩
def bY (a b : V) : Bool:=if a.what = 82 then true else if a.what = 85 then decide (a.tag = b.tag) else if a.what = 91 ∨ a.what = 63 then decide (a.kids.length = b.kids.length ∧ 0 < a.kids.length) else false
def cJ (v : V) : List Int:=if v.what = 82 then v.kids.map V.tag else [v.tag]
def aU (a b : V) : List Int:=if a.what = 91 ∨ a.what = 63 then (List.range a.kids.length).map fun i : Nat=>(i : Int)
 else ((List.range 200).map fun i : Nat=>(i : Int) + 1).filter fun n=>(cJ a ++ cJ b).contains n
def bL (ts : List Ty) : Nat → adB → V → V → List Int → List (List Int × V)
 | 0,_,_,_,_=>[]
 | n + 1,k,a,b,q=>if a.out = b.out then [] else if bY a b = true then (aU a b).flatMap fun i=>match aC ts k a i,aC ts k b i with
   | some y,some z=>bL ts n y.1 y.2 z.2 (q ++ [i])
   | _,_=>[]
  else [(q,b)]
theorem rE (n : Nat) (k : adB) (a : V) (q : List Int) : bL ts n k a a q = []:=by
 cases n with
 | zero=>rfl
 | succ n=>rw [bL,if_pos rfl]
theorem g8 (a b : V) : (aU a b).Pairwise (· < ·):=by
 unfold aU
 split
 ·exact List.pairwise_map.2 (List.pairwise_lt_range.imp fun h=>by omega)
 ·exact (List.pairwise_map.2 (List.pairwise_lt_range.imp fun h=>by omega)).filter _
variable {ts : List Ty}
theorem uw {t : Ty} : ∀ {fs gs : List (Fld × V)},fs.Pairwise (fun a b=>a.1.tag < b.1.tag) → gs.Pairwise (fun a b=>a.1.tag < b.1.tag) → (∀ p,p ∈ fs ↔ p ∈ gs) → fs = gs
 | [],[],_,_,_=>rfl
 | [],q :: gs,_,_,h=>absurd ((h q).2 (by simp)) (by simp)
 | p :: fs,[],_,_,h=>absurd ((h p).1 (by simp)) (by simp)
 | p :: fs,q :: gs,h1,h2,h=>by
  replace h1:=List.pairwise_cons.1 h1
  replace h2:=List.pairwise_cons.1 h2
  have e : p = q:=by
   rcases List.mem_cons.1 ((h p).1 (by simp)) with e | hp
   ·exact e
   ·rcases List.mem_cons.1 ((h q).2 (by simp)) with e | hq
    ·exact e.symm
    ·have:=h1.1 q hq
     have:=h2.1 p hp
     omega
  subst e
  rw [uw (t:=t) h1.2 h2.2 fun r=>⟨fun hr=>by
   rcases List.mem_cons.1 ((h r).1 (by simp [hr])) with e | h3
   ·subst e;have:=h1.1 r hr;omega
   ·exact h3,fun hr=>by
   rcases List.mem_cons.1 ((h r).2 (by simp [hr])) with e | h3
   ·subst e;have:=h2.1 r hr;omega
   ·exact h3⟩]
theorem uz (hw : SchW ts) {t : Ty} (ht : t ∈ ts) (h69 : t.sort ≠ 69) {fs gs : List (Fld × V)} (f1 : ∀ p ∈ fs,p.1 ∈ t.fields) (f3 : ∀ p ∈ fs,p.2.out ≠ bR ts p.1) (f4 : fs.Pairwise fun a b=>a.1.tag < b.1.tag)
  (g1 : ∀ p ∈ gs,p.1 ∈ t.fields) (g2 : ∀ p ∈ gs,OfK ts p.1.kind p.2) (h : ∀ f ∈ t.fields,(cC f (fs.map aq)).getD (d8 ts f) = (cC f (gs.map aq)).getD (d8 ts f)) : ∀ p ∈ fs,p ∈ gs:=by
 intro p hp
 have hpt:=f1 p hp
 have e:=h p.1 hpt
 rw [qU (hw.ty t ht) f1 f4 hp] at e
 cases hg : cC p.1 (gs.map aq) with
 | none =>
  rw [hg] at e
  exact absurd (by rw [show p.2 = d8 ts p.1 from e];exact (fp hw ht h69 hpt).2.2) (f3 p hp)
 | some w =>
  rw [hg] at e
  obtain ⟨_,q,hq,q1,q2⟩:=gX (hw.ty t ht) hpt (fun p hp=>⟨g1 p hp,g2 p hp⟩) hg
  obtain rfl : q = p:=Prod.ext q1 (q2.trans e.symm)
  exact hq
theorem abk (hw : SchW ts) {t : Ty} (ht : t ∈ ts) {f : Fld} (hf : f ∈ t.fields) : 0 ≤ f.tag:=by
 have:=((hw.ty t ht).fld f hf).tag
 omega
theorem xu (hw : SchW ts) {k : adB} {u v : V} (hu : OfK ts k u) (hv : OfK ts k v) (hk : aA ts k = true) (hd : u.what = 91 ∨ u.what = 63 ∨ u.what = 82 ∨ u.what = 85)
  (h : ∀ m,0 ≤ m → aC ts k u m = aC ts k v m) : u = v:=by
 obtain ⟨c,r,rfl⟩:=dX hk
 by_cases hc : c.toNat = 91 ∨ c.toNat = 63
 ·have hs : ∀ m : Nat,(if (m : Int) < (u.kids.length : Nat) then some (r,ab u.kids m) else none) = (if (m : Int) < (v.kids.length : Nat) then some (r,ab v.kids m) else none):=fun m=>by
   have:=h m oM
   unfold aC at this
   dsimp only at this
   rw [if_pos hc,if_pos hc] at this
   exact this
  have hl : u.kids.length = v.kids.length:=by
   have h1:=hs u.kids.length
   have h2:=hs v.kids.length
   rw [if_neg oM] at h1
   rw [if_neg (by omega : ¬ ((v.kids.length : Nat) : Int) < (v.kids.length : Nat))] at h2
   by_cases h3 : u.kids.length < v.kids.length
   ·rw [if_pos oM] at h1;cases h1
   ·by_cases h4 : v.kids.length < u.kids.length
    ·rw [if_pos oM] at h2;cases h2
    ·omega
  have hks : u.kids = v.kids:=by
   refine List.ext_getElem hl fun i hi hj=>?_
   have:=hs i
   rw [if_pos oM,if_pos oM,aI hi,aI hj] at this
   exact (Prod.mk.inj (Option.some.inj this)).2
  rcases di hu oM with ⟨g1,_⟩ | ⟨g1,_⟩ | ⟨g1,_⟩ | ⟨g1,ks,g2,g3,rfl⟩ | ⟨g1,hu2⟩
  ·omega
  ·omega
  ·omega
  ·rcases di hv oM with ⟨g4,_⟩ | ⟨g4,_⟩ | ⟨g4,_⟩ | ⟨g4,ks2,g5,g6,rfl⟩ | ⟨g4,_⟩
   ·omega
   ·omega
   ·omega
   ·rw [V.kids,V.kids] at hks;rw [hks]
   ·omega
  ·rcases di hv oM with ⟨g4,_⟩ | ⟨g4,_⟩ | ⟨g4,_⟩ | ⟨g4,_⟩ | ⟨g4,hv2⟩
   ·omega
   ·omega
   ·omega
   ·omega
   ·rcases hu2 with rfl | ⟨w,_,rfl⟩ <;> rcases hv2 with rfl | ⟨z,_,rfl⟩
    ·rfl
    ·exact absurd (show ([] : List V) = [z] from hks) (by simp)
    ·exact absurd (show [w] = ([] : List V) from hks) (by simp)
    ·rw [show [w] = [z] from hks]
 ·cases hr : a8 ts (c :: r) with
  | none =>
   exfalso
   generalize hkk : c :: r = k' at hu hr
   cases hu with
   | num=>rw [V.what] at hd;omega
   | txt=>rw [V.what] at hd;omega
   | flg=>rw [V.what] at hd;omega
   | lst=>injection hkk with e1 e2;subst e1;exact hc dC
   | non=>injection hkk with e1 e2;subst e1;exact hc dC
   | opt=>injection hkk with e1 e2;subst e1;exact hc dC
   | recd _ t' fs g1=>rw [hr] at g1;cases g1
   | enm _ t' d g1=>rw [hr] at g1;cases g1
   | uni _ t' d v g1=>rw [hr] at g1;cases g1
  | some t =>
   have ht:=bj hr
   have hs : ∀ f ∈ t.fields,t.sort ≠ 69 → (if t.sort = 82 then some (f.kind,cX ts u f) else if u.tag = f.tag then some (f.kind,ab u.kids 0) else none) = (if t.sort = 82 then some (f.kind,cX ts v f) else if v.tag = f.tag then some (f.kind,ab v.kids 0) else none):=fun f hf h69=>by
    have:=h f.tag (abk hw ht hf)
    unfold aC at this
    dsimp only at this
    rw [if_neg hc,if_neg hc,hr] at this
    dsimp only at this
    rw [iQ (hw.ty t ht) hf] at this
    dsimp only at this
    rw [if_neg h69,if_neg h69] at this
    exact this
   rcases bH hu hr with ⟨a1,fs,rfl,a3,a4,a5,a6⟩ | ⟨a1,d,rfl,_⟩ | ⟨a1,a2,d,w,rfl,a4,a5⟩
   ·rcases bH hv hr with ⟨b1,gs,rfl,b3,b4,b5,b6⟩ | ⟨b1,_⟩ | ⟨b1,_⟩
    ·have e : ∀ f ∈ t.fields,(cC f (fs.map aq)).getD (d8 ts f) = (cC f (gs.map aq)).getD (d8 ts f):=fun f hf=>by
      have:=hs f hf oM
      rw [if_pos a1,if_pos a1] at this
      exact (Prod.mk.inj (Option.some.inj this)).2
     rw [uw (t:=t) a6 b6 fun p=>⟨uz hw ht oM a3 a5 a6 b3 b4 e p,uz hw ht oM b3 b5 b6 a3 a4 (fun f hf=>(e f hf).symm) p⟩]
    ·omega
    ·omega
   ·rw [V.what] at hd;omega
   ·rcases bH hv hr with ⟨b1,_⟩ | ⟨b1,_⟩ | ⟨b1,b2,d2,w2,rfl,b4,b5⟩
    ·omega
    ·omega
    ·have:=hs d a4 a2
     rw [if_neg a1,if_neg a1,V.tag,V.tag,if_pos rfl] at this
     split at this
     ·rename_i e
      have:=(Prod.mk.inj (Option.some.inj this)).2
      rw [V.kids,V.kids] at this
      rw [show w = w2 from this,e]
     ·cases this
variable {ts : List Ty}
def fC (ts : List Ty) (k : adB) : V → List (List Int × V) → V
 | v,[]=>v
 | v,d :: r=>fC ts k (bQ ts k v d.1 d.2) r
def km (ts : List Ty) (k : adB) : V → List (List Int × V) → Prop
 | _,[]=>True
 | v,d :: r=>((∃ k' v',ce ts k v d.1 = some (k',v') ∧ OfK ts k' d.2) ∧ ∀ n ∈ d.1,0 ≤ n) ∧ km ts k (bQ ts k v d.1 d.2) r
theorem rM {k : adB} : ∀ {a b : List (List Int × V)} {v : V},fC ts k v (a ++ b) = fC ts k (fC ts k v a) b
 | [],_,_=>rfl
 | d :: a,b,v=>by rw [List.cons_append,fC,fC];exact rM
theorem sP {k : adB} : ∀ {a b : List (List Int × V)} {v : V},km ts k v a → km ts k (fC ts k v a) b → km ts k v (a ++ b)
 | [],_,_,_,h=>h
 | d :: a,b,v,h1,h2=>⟨h1.1,sP h1.2 h2⟩
theorem mf (hw : SchW ts) {k : adB} (hk : aA ts k = true) : ∀ {ds : List (List Int × V)} {v : V},OfK ts k v → km ts k v ds → OfK ts k (fC ts k v ds)
 | [],v,h,_=>h
 | d :: r,v,h,hd=>by
  obtain ⟨⟨⟨k',v',h1,h2⟩,h3⟩,h4⟩:=hd
  rw [fC]
  exact mf hw hk (fB hw h hk h3 h1 h2) h4
theorem rv (hw : SchW ts) {k k1 : adB} (hk : aA ts k = true) {i : Int} (hi : 0 ≤ i) : ∀ {ds : List (List Int × V)} {v y : V},OfK ts k v → aC ts k v i = some (k1,y) → km ts k1 y ds →
  km ts k v (ds.map fun c=>(i :: c.1,c.2)) ∧ fC ts k v (ds.map fun c=>(i :: c.1,c.2)) = cQ ts k v i (fC ts k1 y ds)
 | [],v,y,h,hs,_=>by
  obtain ⟨y1,y2⟩:=cP hw h hk hi hs
  exact ⟨trivial,((oB hw h hk hi hs y1).1.2).symm⟩
 | d :: r,v,y,h,hs,hd=>by
  obtain ⟨y1,y2⟩:=cP hw h hk hi hs
  obtain ⟨⟨⟨k',v',h1,h2⟩,h3⟩,h4⟩:=hd
  have hc:=fB hw y1 y2 h3 h1 h2
  obtain ⟨⟨s1,_⟩,s3,_⟩:=oB hw h hk hi hs hc
  have hq : ∀ n ∈ i :: d.1,0 ≤ n:=fun n hn=>by
   rcases List.mem_cons.1 hn with rfl | hn
   ·exact hi
   ·exact h3 n hn
  have hf : ce ts k v (i :: d.1) = some (k',v'):=by rw [td hs];exact h1
  have hv2 : OfK ts k (cQ ts k v i (bQ ts k1 y d.1 d.2)):=by rw [← eZ hs];exact fB hw h hk hq hf h2
  obtain ⟨e1,e2⟩:=rv hw hk hi hv2 s1 h4
  rw [List.map_cons]
  refine ⟨⟨⟨⟨k',v',hf,h2⟩,hq⟩,?_⟩,?_⟩
  ·dsimp only;rw [eZ hs];exact e1
  ·rw [fC,fC];dsimp only;rw [eZ hs,e2,s3]
theorem oO : ∀ {n : Nat} {k : adB} {a b : V} {q : List Int},bL ts n k a b q = (bL ts n k a b []).map fun c=>(q ++ c.1,c.2)
 | 0,_,_,_,_=>rfl
 | n + 1,k,a,b,q=>by
  rw [bL,bL]
  split
  ·rfl
  ·split
   ·rw [List.map_flatMap]
    congr 1
    funext i
    split
    ·rw [oO (q:=q ++ [i]),oO (q:=[] ++ [i]),List.map_map]
     congr 1
     funext c
     simp
    ·rfl
   ·simp
theorem o9 (hw : SchW ts) {k : adB} (hk : aA ts k = true) (S : Int → Option (adB × V)) (D : Int → List (List Int × V)) : ∀ {L : List Int} {v : V},OfK ts k v → (∀ i ∈ L,0 ≤ i) → L.Pairwise (· < ·) →
  (∀ i ∈ L,∃ k1 y z,aC ts k v i = some (k1,y) ∧ S i = some (k1,z) ∧ km ts k1 y (D i) ∧ fC ts k1 y (D i) = z) →
  km ts k v (L.flatMap fun i=>(D i).map fun c=>(i :: c.1,c.2)) ∧ ∀ m,0 ≤ m → aC ts k (fC ts k v (L.flatMap fun i=>(D i).map fun c=>(i :: c.1,c.2))) m = if m ∈ L then S m else aC ts k v m
 | [],v,_,_,_,_=>⟨trivial,fun m _=>by rw [if_neg (by simp)];rfl⟩
 | i :: L,v,h,h0,hp,hs=>by
  replace hp:=List.pairwise_cons.1 hp
  obtain ⟨k1,y,z,s1,s2,s3,s4⟩:=hs i (by simp)
  have hi:=h0 i (by simp)
  obtain ⟨y1,y2⟩:=cP hw h hk hi s1
  obtain ⟨e1,e2⟩:=rv hw hk hi h s1 s3
  rw [s4] at e2
  have hz : OfK ts k1 z:=by rw [← s4];exact mf hw y2 y1 s3
  obtain ⟨⟨t1,_⟩,_,t4⟩:=oB hw h hk hi s1 hz
  have hv2 : OfK ts k (cQ ts k v i z):=by rw [← e2];exact mf hw hk h e1
  obtain ⟨f1,f2⟩:=o9 hw hk S D hv2 (fun j hj=>h0 j (by simp [hj])) hp.2 fun j hj=>by
   have hne : j ≠ i:=by have:=hp.1 j hj;omega
   rw [t4 j (h0 j (by simp [hj])) hne]
   exact hs j (by simp [hj])
  rw [List.flatMap_cons]
  refine ⟨sP e1 (by rw [e2];exact f1),fun m hm=>?_⟩
  rw [rM,e2,f2 m hm]
  by_cases hmi : m = i
  ·subst hmi
   rw [if_neg (fun hin=>by have:=hp.1 m hin;omega),if_pos (by simp),t1,s2]
  ·by_cases hml : m ∈ L
   ·rw [if_pos hml,if_pos (by simp [hml])]
   ·rw [if_neg hml,if_neg (by simp [hmi,hml]),t4 m hm hmi]
variable {ts : List Ty}
theorem ia {a b : V} (h : ¬ (a.what = 91 ∨ a.what = 63)) {n : Int} (h1 : 1 ≤ n ∧ n ≤ 200) (h2 : n ∈ cJ a ∨ n ∈ cJ b) : n ∈ aU a b:=by
 unfold aU
 rw [if_neg h]
 refine List.mem_filter.2 ⟨List.mem_map.2 ⟨(n - 1).toNat,List.mem_range.2 oM,oM⟩,?_⟩
 rw [List.contains_iff_mem]
 exact List.mem_append.2 h2
theorem g7 {a b : V} (h : ¬ (a.what = 91 ∨ a.what = 63)) {n : Int} (h1 : n ∈ aU a b) : n ∈ cJ a ∨ n ∈ cJ b:=by
 unfold aU at h1
 rw [if_neg h] at h1
 have:=(List.mem_filter.1 h1).2
 rw [List.contains_iff_mem] at this
 exact List.mem_append.1 this
theorem gZ {fs : List (Fld × V)} {n : Int} : n ∈ cJ (.nd 82 [] 0 (fs.map aq)) ↔ ∃ p ∈ fs,p.1.tag = n:=by
 unfold cJ
 rw [V.what,if_pos rfl,V.kids,List.map_map]
 constructor
 ·intro h
  obtain ⟨p,hp,e⟩:=List.mem_map.1 h
  exact ⟨p,hp,e⟩
 ·rintro ⟨p,hp,e⟩
  exact List.mem_map.2 ⟨p,hp,e⟩
theorem iK {c : UInt8} {r : adB} {t : Ty} {f : Fld} {n : Int} (hc : ¬ (c.toNat = 91 ∨ c.toNat = 63)) (hr : a8 ts (c :: r) = some t) (hf : co t.fields n = some f) (h82 : t.sort = 82) (v : V) : aC ts (c :: r) v n = some (f.kind,cX ts v f):=by
 unfold aC
 dsimp only
 rw [if_neg hc,hr]
 dsimp only
 rw [hf]
 dsimp only
 rw [if_neg oM,if_pos h82]
theorem gl {c : UInt8} {r : adB} {t : Ty} {n : Int} (hc : ¬ (c.toNat = 91 ∨ c.toNat = 63)) (hr : a8 ts (c :: r) = some t) (hf : co t.fields n = none) (v : V) : aC ts (c :: r) v n = none:=by
 unfold aC
 dsimp only
 rw [if_neg hc,hr]
 dsimp only
 rw [hf]
theorem ur {t : Ty} (hw : TyW t) {f : Fld} (hf : f ∈ t.fields) {fs : List (Fld × V)} (h : ∀ p ∈ fs,p.1 ∈ t.fields ∧ OfK ts p.1.kind p.2) (hn : f.tag ∉ cJ (.nd 82 [] 0 (fs.map aq))) : cC f (fs.map aq) = none:=by
 cases e : cC f (fs.map aq) with
 | none=>rfl
 | some u =>
  obtain ⟨_,p,hp,e1,_⟩:=gX hw hf h e
  exact absurd (gZ.2 ⟨p,hp,by rw [e1]⟩) hn
theorem iy (hw : SchW ts) {k : adB} {a b : V} (ha : OfK ts k a) (hb : OfK ts k b) (hk : aA ts k = true) (hd : bY a b = true) :
  (∀ i ∈ aU a b,∃ k1 y z,aC ts k a i = some (k1,y) ∧ aC ts k b i = some (k1,z)) ∧ (∀ m,0 ≤ m → m ∉ aU a b → aC ts k a m = aC ts k b m) ∧ (b.what = 91 ∨ b.what = 63 ∨ b.what = 82 ∨ b.what = 85):=by
 obtain ⟨c,r,rfl⟩:=dX hk
 by_cases hc : c.toNat = 91 ∨ c.toNat = 63
 ·have hs : ∀ v m,aC ts (c :: r) v m = if m < (v.kids.length : Nat) then some (r,ab v.kids m.toNat) else none:=fun v m=>by
   unfold aC
   dsimp only
   rw [if_pos hc]
  have hw2 : ∀ v,OfK ts (c :: r) v → v.what = 91 ∨ v.what = 63:=fun v hv=>by
   rcases di hv oM with ⟨g1,_⟩ | ⟨g1,_⟩ | ⟨g1,_⟩ | ⟨g1,ks,_,_,rfl⟩ | ⟨g1,rfl | ⟨w,_,rfl⟩⟩
   ·omega
   ·omega
   ·omega
   ·exact Or.inl F
   ·exact Or.inr F
   ·exact Or.inr F
  have wa:=hw2 a ha
  have wb:=hw2 b hb
  unfold bY at hd
  rw [if_neg oM,if_neg oM,if_pos wa] at hd
  have hl:=of_decide_eq_true hd
  have hst : ∀ i,i ∈ aU a b ↔ 0 ≤ i ∧ i < (a.kids.length : Nat):=fun i=>by
   unfold aU
   rw [if_pos wa]
   constructor
   ·intro h
    obtain ⟨j,hj,rfl⟩:=List.mem_map.1 h
    have:=List.mem_range.1 hj
    omega
   ·intro h
    exact List.mem_map.2 ⟨i.toNat,List.mem_range.2 oM,oM⟩
  refine ⟨fun i hi=>?_,fun m hm hn=>?_,oM⟩
  ·have:=(hst i).1 hi
   exact ⟨r,ab a.kids i.toNat,ab b.kids i.toNat,by rw [hs,if_pos this.2],by rw [hs,if_pos oM]⟩
  ·have : ¬ m < (a.kids.length : Nat):=fun h=>hn ((hst m).2 ⟨hm,h⟩)
   rw [hs,hs,if_neg this,if_neg oM]
 ·cases hr : a8 ts (c :: r) with
  | none =>
   exfalso
   have : a.what = 110 ∨ a.what = 116 ∨ a.what = 102:=by
    generalize hkk : c :: r = k' at ha hr
    cases ha with
    | num=>exact Or.inl F
    | txt=>exact Or.inr (Or.inl F)
    | flg=>exact Or.inr (Or.inr F)
    | lst=>injection hkk with e1 e2;subst e1;exact absurd dC hc
    | non=>injection hkk with e1 e2;subst e1;exact absurd dC hc
    | opt=>injection hkk with e1 e2;subst e1;exact absurd dC hc
    | recd _ t' fs g1=>rw [hr] at g1;cases g1
    | enm _ t' d g1=>rw [hr] at g1;cases g1
    | uni _ t' d v g1=>rw [hr] at g1;cases g1
   unfold bY at hd
   rw [if_neg oM,if_neg oM,if_neg oM] at hd
   cases hd
  | some t =>
   have ht:=bj hr
   have htw:=hw.ty t ht
   rcases bH ha hr with ⟨a1,fs,rfl,a3,a4,a5,a6⟩ | ⟨a1,d,rfl,_⟩ | ⟨a1,a2,d,w,rfl,a4,a5⟩
   ·rcases bH hb hr with ⟨b1,gs,rfl,b3,b4,b5,b6⟩ | ⟨b1,_⟩ | ⟨b1,_⟩
    ·have hna : ¬ ((V.nd 82 [] 0 (fs.map aq)).what = 91 ∨ (V.nd 82 [] 0 (fs.map aq)).what = 63):=by rw [V.what];omega
     refine ⟨fun i hi=>?_,fun m hm hn=>?_,Or.inr (Or.inr (Or.inl F))⟩
     ·have hfi : ∃ f ∈ t.fields,f.tag = i:=by
       rcases g7 hna hi with h | h
       ·obtain ⟨p,hp,e⟩:=gZ.1 h;exact ⟨p.1,a3 p hp,e⟩
       ·obtain ⟨p,hp,e⟩:=gZ.1 h;exact ⟨p.1,b3 p hp,e⟩
      obtain ⟨f,hf,rfl⟩:=hfi
      have hff:=iQ htw hf
      exact ⟨f.kind,_,_,iK hc hr hff a1 _,iK hc hr hff a1 _⟩
     ·cases hf : co t.fields m with
      | none=>rw [gl hc hr hf,gl hc hr hf]
      | some f =>
       have hfm:=List.mem_of_find?_eq_some hf
       have hft : f.tag = m:=by have:=List.find?_some hf;simpa using this
       have hfr:=(htw.fld f hfm).tag
       rw [iK hc hr hf a1,iK hc hr hf a1]
       unfold cX
       rw [V.kids,V.kids,ur htw hfm (fun p hp=>⟨a3 p hp,a4 p hp⟩) (fun h=>hn (ia hna oM (Or.inl (hft ▸ h)))),
        ur htw hfm (fun p hp=>⟨b3 p hp,b4 p hp⟩) (fun h=>hn (ia hna oM (Or.inr (hft ▸ h))))]
    ·omega
    ·omega
   ·unfold bY at hd
    rw [V.what,if_neg dC,if_neg dC,if_neg dC] at hd
    cases hd
   ·rcases bH hb hr with ⟨b1,_⟩ | ⟨b1,_⟩ | ⟨b1,b2,d2,w2,rfl,b4,b5⟩
    ·omega
    ·omega
    ·have hna : ¬ ((V.nd 85 [] d.tag [w]).what = 91 ∨ (V.nd 85 [] d.tag [w]).what = 63):=by rw [V.what];omega
     unfold bY at hd
     rw [V.what,if_neg dC,if_pos rfl] at hd
     have htg : d.tag = d2.tag:=of_decide_eq_true hd
     have hst : ∀ (x : V) (m : Int) (f : Fld),co t.fields m = some f → aC ts (c :: r) x m = if x.tag = m then some (f.kind,ab x.kids 0) else none:=fun x m f hf=>by
      unfold aC
      dsimp only
      rw [if_neg hc,hr]
      dsimp only
      rw [hf]
      dsimp only
      rw [if_neg a2,if_neg a1]
     have htag : ∀ (e : Int) (x : V),cJ (.nd 85 [] e [x]) = [e]:=fun e x=>by
      unfold cJ;rw [V.what,if_neg dC];rfl
     refine ⟨fun i hi=>?_,fun m hm hn=>?_,Or.inr (Or.inr (Or.inr F))⟩
     ·have hi2 : i = d.tag:=by
       rcases g7 hna hi with h | h
       ·rw [htag] at h;exact List.mem_singleton.1 h
       ·rw [htag] at h;rw [htg];exact List.mem_singleton.1 h
      subst hi2
      have hff:=iQ htw a4
      exact ⟨d.kind,w,w2,by rw [hst _ _ _ hff,V.tag,if_pos F];rfl,by rw [hst _ _ _ hff,V.tag,if_pos htg.symm];rfl⟩
     ·cases hf : co t.fields m with
      | none=>rw [gl hc hr hf,gl hc hr hf]
      | some f =>
       have hfr:=(htw.fld d a4).tag
       have hmd : d.tag ≠ m:=fun e=>hn (e ▸ ia hna oM (Or.inl (by rw [htag];simp)))
       rw [hst _ _ _ hf,hst _ _ _ hf,V.tag,V.tag,if_neg hmd,if_neg oM]
variable {ts : List Ty}
def ji (ts : List Ty) : Nat → adB → V → V → Prop
 | 0,_,_,_=>False
 | n + 1,k,a,b=>a.out = b.out ∨ bY a b = false ∨ ∀ i ∈ aU a b,∀ y z,aC ts k a i = some y → aC ts k b i = some z → ji ts n y.1 y.2 z.2
def vu (ts : List Ty) (n : Nat) (k : adB) (a b : V) (i : Int) : List (List Int × V):=match aC ts k a i,aC ts k b i with
 | some y,some z=>bL ts n y.1 y.2 z.2 []
 | _,_=>[]
theorem wM {n : Nat} {k : adB} {a b : V} (h1 : a.out ≠ b.out) (h2 : bY a b = true) : bL ts (n + 1) k a b [] = (aU a b).flatMap fun i=>(vu ts n k a b i).map fun c=>(i :: c.1,c.2):=by
 rw [bL,if_neg h1,if_pos h2]
 congr 1
 funext i
 unfold vu
 cases aC ts k a i with
 | none=>rfl
 | some y=>cases aC ts k b i with
  | none=>rfl
  | some z =>
   dsimp only
   rw [oO]
   rfl
theorem tz (hw : SchW ts) : ∀ {n : Nat} {k : adB} {a b : V},OfK ts k a → OfK ts k b → aA ts k = true → ji ts n k a b → km ts k a (bL ts n k a b []) ∧ fC ts k a (bL ts n k a b []) = b
 | 0,_,_,_,_,_,_,h=>h.elim
 | n + 1,k,a,b,ha,hb,hk,h=>by
  by_cases ho : a.out = b.out
  ·rw [bL,if_pos ho]
   exact ⟨trivial,iN hw ha hb ho⟩
  ·by_cases hd : bY a b = true
   ·obtain ⟨d1,d2,d3⟩:=iy hw ha hb hk hd
    have hl : ∀ i ∈ aU a b,∀ y z,aC ts k a i = some y → aC ts k b i = some z → ji ts n y.1 y.2 z.2:=by
     rcases h with h | h | h
     ·exact absurd h ho
     ·rw [hd] at h;cases h
     ·exact h
    have h0 : ∀ i ∈ aU a b,0 ≤ i:=fun i hi=>by
     unfold aU at hi
     split at hi
     ·obtain ⟨j,_,rfl⟩:=List.mem_map.1 hi;omega
     ·obtain ⟨j,_,rfl⟩:=List.mem_map.1 (List.mem_filter.1 hi).1;omega
    obtain ⟨f1,f2⟩:=o9 hw hk (aC ts k b) (vu ts n k a b) ha h0 (g8 a b) fun i hi=>by
     obtain ⟨k1,y,z,s1,s2⟩:=d1 i hi
     obtain ⟨y1,y2⟩:=cP hw ha hk (h0 i hi) s1
     obtain ⟨z1,_⟩:=cP hw hb hk (h0 i hi) s2
     have hrec:=tz hw y1 z1 y2 (hl i hi _ _ s1 s2)
     refine ⟨k1,y,z,s1,s2,?_⟩
     unfold vu
     rw [s1,s2]
     exact hrec
    rw [wM ho hd]
    refine ⟨f1,(xu hw hb (mf hw hk ha f1) hk d3 fun m hm=>?_).symm⟩
    rw [f2 m hm]
    by_cases hin : m ∈ aU a b
    ·rw [if_pos hin]
    ·rw [if_neg hin,d2 m hm hin]
   ·rw [bL,if_neg ho,if_neg hd]
    exact ⟨⟨⟨⟨k,a,F,hb⟩,fun n hn=>by cases hn⟩,trivial⟩,F⟩
variable {ts : List Ty}
theorem yE : ∀ {a b r s : adB},fK 61 a → fK 61 b → a ++ 61 :: r = b ++ 61 :: s → a = b ∧ r = s
 | [],[],_,_,_,_,h=>⟨rfl,(List.cons.inj h).2⟩
 | [],y :: b,_,_,_,hb,h=>absurd (by rw [← (List.cons.inj h).1];rfl) (hb y (by simp))
 | x :: a,[],_,_,ha,_,h=>absurd (by rw [(List.cons.inj h).1];rfl) (ha x (by simp))
 | x :: a,y :: b,_,_,ha,hb,h=>by
  obtain ⟨h1,h2⟩:=List.cons.inj h
  obtain ⟨h3,h4⟩:=yE (fun c hc=>ha c (by simp [hc])) (fun c hc=>hb c (by simp [hc])) h2
  exact ⟨by rw [h1,h3],h4⟩
theorem rG {n : Int} (h : 0 ≤ n) : fK 61 (be n):=fun c hc=>by
 have h1:=(ig _ (Nat.le_refl _) h).2 c hc
 unfold br at h1
 have h2:=of_decide_eq_true h1
 omega
def ge (ts : List Ty) (k : adB) (v : V) : Prop:=v.kids = [] ∨ ∃ n,v.out = bV ts n k
theorem nB (hw : SchW ts) {k : adB} {t : Ty} (hr : a8 ts k = some t) (h82 : t.sort ≠ 82) (h69 : t.sort ≠ 69) {d : Fld} (hd : d ∈ t.fields) {w : V} {n : Nat} (h : V.out (.nd 85 [] d.tag [w]) = bV ts n k) :
  ∃ m,n = m + 1 ∧ d = t.fields.headD default ∧ w.out = bV ts m (eS t) ∧ bV ts n k = 60 :: (be (tag0 t) ++ 61 :: (bV ts m (eS t) ++ [62])):=by
 have ho:=nG (v:=w) (n:=d.tag) (r:=[])
 rw [List.append_nil] at ho
 rw [ho] at h
 have htw:=hw.ty t (bj hr)
 cases n with
 | zero=>rw [bV] at h;cases h
 | succ n =>
  cases k with
  | nil=>rw [bV] at h;cases h
  | cons c r =>
   rw [bV] at h ⊢
   split at h
   ·exact absurd (List.cons.inj h).1 dC
   ·split at h
    ·exact absurd (List.cons.inj h).1 dC
    ·rename_i h91 h63
     rw [if_neg h91,if_neg h63]
     rw [hr] at h ⊢
     dsimp only at h ⊢
     rw [if_neg h82,if_neg h69] at h ⊢
     have hd0:=yM htw h82
     have h1:=yE (rG (by have:=(htw.fld d hd).tag;omega)) (rG (by have:=(htw.fld _ hd0).tag;unfold tag0;omega)) (List.cons.inj h).2
     have h2 : d.tag = tag0 t:=by
      have a1:=jy (m:=d.tag) (top:=999999) (by have:=(htw.fld d hd).tag;omega) (by have:=(htw.fld d hd).tag;omega) dC
      have a2:=jy (m:=tag0 t) (top:=999999) (by have:=(htw.fld _ hd0).tag;unfold tag0;omega) (by have:=(htw.fld _ hd0).tag;unfold tag0;omega) dC
      rw [h1.1,a2] at a1
      exact (Option.some.inj a1).symm
     refine ⟨n,F,eW htw hd hd0 h2,?_,F⟩
     exact List.append_cancel_right h1.2
theorem mU {k : adB} {v : V} (h : OfK ts k v) : v.out ≠ []:=by
 cases h with
 | num k n=>rw [V.out];intro h;have:=gy n;rw [show c5 110 (be n) 0 _ _ = be n from rfl] at h;rw [h] at this;simp at this
 | txt=>rw [V.out];exact fun h=>by cases h
 | flg k x hx=>rw [V.out];rcases hx with rfl | rfl <;> exact fun h=>by cases h
 | lst=>rw [V.out];exact fun h=>by cases h
 | non=>rw [V.out];exact fun h=>by cases h
 | opt=>rw [V.out];exact fun h=>by cases h
 | recd=>rw [V.out];exact fun h=>by cases h
 | enm=>rw [V.out];exact fun h=>by cases h
 | uni=>rw [V.out];exact fun h=>by cases h
theorem ut (hw : SchW ts) : ∀ (n m : Nat) {k : adB} {a b : V},OfK ts k a → OfK ts k b → a.out = bV ts n k → b.out = bV ts m k → a.out = b.out
 | 0,_,_,_,_,ha,_,h,_=>absurd h (mU ha)
 | _ + 1,0,_,_,_,_,hb,_,h=>absurd h (mU hb)
 | n + 1,m + 1,[],a,b,ha,_,h,_=>absurd h (mU ha)
 | n + 1,m + 1,c :: r,a,b,ha,hb,h1,h2=>by
  have hu : ∀ t,a8 ts (c :: r) = some t → t.sort ≠ 82 → t.sort ≠ 69 → a.out = b.out:=fun t hr h82 h69=>by
   rcases bH ha hr with ⟨a1,_⟩ | ⟨a1,_⟩ | ⟨_,_,d,w,rfl,a4,a5⟩
   ·exact absurd a1 h82
   ·exact absurd a1 h69
   ·rcases bH hb hr with ⟨a1,_⟩ | ⟨a1,_⟩ | ⟨_,_,e,x,rfl,b4,b5⟩
    ·exact absurd a1 h82
    ·exact absurd a1 h69
    ·obtain ⟨n1,e1,f1,g1,i1⟩:=nB hw hr h82 h69 a4 h1
     obtain ⟨m1,e2,f2,g2,i2⟩:=nB hw hr h82 h69 b4 h2
     obtain rfl : n = n1:=oM
     obtain rfl : m = m1:=oM
     have hk : eS t = d.kind:=by rw [f1];rfl
     have hk2 : eS t = e.kind:=by rw [f2];rfl
     have ih:=ut hw n m (k:=eS t) (by rw [hk];exact a5) (by rw [hk2];exact b5) g1 g2
     rw [h1,h2,i1,i2,← g1,← g2,ih]
  rw [h1,h2]
  rw [bV,bV]
  by_cases h91 : c.toNat = 91
  ·simp only [if_pos h91]
  by_cases h63 : c.toNat = 63
  ·simp only [if_neg h91,if_pos h63]
  cases hr : a8 ts (c :: r) with
  | none=>simp only [if_neg h91,if_neg h63]
  | some t =>
   by_cases h82 : t.sort = 82
   ·simp only [if_neg h91,if_neg h63,if_pos h82]
   by_cases h69 : t.sort = 69
   ·simp only [if_neg h91,if_neg h63,if_neg h82,if_pos h69]
   have:=hu t hr h82 h69
   rw [h1,h2,bV,bV,hr] at this
   exact this
theorem jw (hw : SchW ts) {k : adB} {v : V} (h : OfK ts k v) (hs : ge ts k v) (h85 : v.what ≠ 85) : v.kids = []:=by
 rcases hs with hs | ⟨n,hs⟩
 ·exact hs
 cases n with
 | zero=>exact absurd hs (mU h)
 | succ n =>
  cases k with
  | nil=>exact absurd hs (mU h)
  | cons c r =>
   rw [bV] at hs
   cases hr : a8 ts (c :: r) with
   | some t =>
    have hc : c.toNat = 64:=by obtain ⟨r0,e⟩:=dW hr;injection e with e1 e2;rw [e1];rfl
    rcases bH h hr with ⟨a1,fs,rfl,a3,a4,a5,a6⟩ | ⟨a1,d,rfl,_⟩ | ⟨a1,a2,d,w,rfl,a4,a5⟩
    ·rw [if_neg oM,if_neg oM,hr] at hs
     dsimp only at hs
     rw [if_pos a1] at hs
     have:=iN hw h (.recd _ t [] hr a1 (by simp) (by simp) (by simp) (by simp)) (hs.trans (by rw [V.out];rfl))
     rw [this];rfl
    ·rfl
    ·exact absurd F h85
   | none =>
    generalize hkk : c :: r = k' at h hr
    cases h with
    | num=>rfl
    | txt=>rfl
    | flg=>rfl
    | lst k ks h1 h2 =>
     injection hkk with e1 e2
     subst e1
     rw [if_pos dC] at hs
     have:=iN hw (OfK.lst k ks h1 h2) (.lst k [] (by simp) (by simp)) (hs.trans (by rw [V.out];rfl))
     rw [this];rfl
    | non=>rfl
    | opt k u h1 =>
     injection hkk with e1 e2
     subst e1
     rw [if_neg dC,if_pos dC] at hs
     have:=iN hw (OfK.opt k u h1) (.non k) (hs.trans (by rw [V.out];rfl))
     cases this
    | recd _ t' fs g1=>rw [hr] at g1;cases g1
    | enm _ t' d g1=>rw [hr] at g1;cases g1
    | uni _ t' d v g1=>rw [hr] at g1;cases g1
theorem sk (hw : SchW ts) {t : Ty} (ht : t ∈ ts) (hs : t.sort ≠ 69) {d : Fld} (hd : d ∈ t.fields) : ge ts d.kind (d8 ts d):=by
 obtain ⟨h1,_,h3⟩:=fp hw ht hs hd
 unfold bR at h3
 by_cases h0 : d.stand = []
 ·rw [if_pos h0] at h3
  exact Or.inr ⟨_,h3⟩
 ·have h2:=(((hw.ty t ht).fld d hd).stand h0).2
  unfold b9 at h2
  have hp : d.kind = [110] ∨ d.kind = [116] ∨ d.kind = [102]:=by
   split at h2
   ·rename_i h;exact Or.inl h
   ·split at h2
    ·rename_i h;exact Or.inr (Or.inl h)
    ·split at h2
     ·rename_i h;exact Or.inr (Or.inr h)
     ·cases h2
  left
  generalize d8 ts d = v at h1
  rcases hp with e | e | e <;> rw [e] at h1 <;> rcases di h1 dC with ⟨g1,_,_,_,rfl⟩ | ⟨g1,_,_,rfl⟩ | ⟨g1,_,_,rfl⟩ | ⟨g1,ks,_,_,rfl⟩ | ⟨g1,rfl | ⟨w,_,rfl⟩⟩ <;> first | rfl | exact absurd g1 dC
theorem ri (hw : SchW ts) {k : adB} {a b : V} (ha : OfK ts k a) (hb : OfK ts k b) (hk : aA ts k = true) (hne : a.out ≠ b.out) (hd : bY a b = true) {n : Nat} (h1 : a.deep ≤ n ∨ ge ts k a) (h2 : b.deep ≤ n ∨ ge ts k b)
  {i : Int} (hi : i ∈ aU a b) {y z : adB × V} (hy : aC ts k a i = some y) (hz : aC ts k b i = some z) : ∃ m,n = m + 1 ∧ (y.2.deep ≤ m ∨ ge ts y.1 y.2) ∧ (z.2.deep ≤ m ∨ ge ts z.1 z.2):=by
 obtain ⟨c,r,rfl⟩:=dX hk
 by_cases hc : c.toNat = 91 ∨ c.toNat = 63
 ·have hs : ∀ v m,aC ts (c :: r) v m = if m < (v.kids.length : Nat) then some (r,ab v.kids m.toNat) else none:=fun v m=>by
   unfold aC
   dsimp only
   rw [if_pos hc]
  have hw2 : ∀ v,OfK ts (c :: r) v → v.what = 91 ∨ v.what = 63:=fun v hv=>by
   rcases di hv oM with ⟨g1,_⟩ | ⟨g1,_⟩ | ⟨g1,_⟩ | ⟨g1,ks,_,_,rfl⟩ | ⟨g1,rfl | ⟨w,_,rfl⟩⟩
   ·omega
   ·omega
   ·omega
   ·exact Or.inl F
   ·exact Or.inr F
   ·exact Or.inr F
  have wa:=hw2 a ha
  have wb:=hw2 b hb
  have hst:=hi
  unfold aU at hst
  rw [if_pos wa] at hst
  obtain ⟨j,hj,rfl⟩:=List.mem_map.1 hst
  have hj:=List.mem_range.1 hj
  unfold bY at hd
  rw [if_neg oM,if_neg oM,if_pos wa] at hd
  have hl:=of_decide_eq_true hd
  have key : ∀ v,OfK ts (c :: r) v → (v.what = 91 ∨ v.what = 63) → (v.deep ≤ n ∨ ge ts (c :: r) v) → j < v.kids.length → ∃ m,n = m + 1 ∧ (ab v.kids j).deep ≤ m:=fun v hv hwv hfv hjv=>by
   rcases hfv with h | h
   ·obtain ⟨w,x,t,ks⟩:=v
    have hw61 : ¬ w = 61:=by rw [V.what] at hwv;omega
    rw [eg hw61] at h
    rw [V.kids] at hjv ⊢
    have:=V.deep_mem (bB hjv)
    exact ⟨n - 1,oM,oM⟩
   ·have:=jw hw hv h oM
    rw [this] at hjv
    cases hjv
  rw [hs,if_pos oM] at hy
  rw [hs,if_pos oM] at hz
  cases hy
  cases hz
  obtain ⟨m,e1,e2⟩:=key a ha wa h1 hj
  obtain ⟨m',e3,e4⟩:=key b hb wb h2 oM
  obtain rfl : m = m':=oM
  exact ⟨m,e1,Or.inl (by rw [Int.toNat_natCast];exact e2),Or.inl (by rw [Int.toNat_natCast];exact e4)⟩
 ·cases hr : a8 ts (c :: r) with
  | none =>
   unfold aC at hy
   dsimp only at hy
   rw [if_neg hc,hr] at hy
   cases hy
  | some t =>
   have ht:=bj hr
   have htw:=hw.ty t ht
   cases hf : co t.fields i with
   | none=>rw [gl hc hr hf] at hy;cases hy
   | some f =>
    have hfm:=List.mem_of_find?_eq_some hf
    have hft : f.tag = i:=by have:=List.find?_some hf;simpa using this
    rcases bH ha hr with ⟨a1,fs,rfl,a3,a4,a5,a6⟩ | ⟨a1,d,rfl,_⟩ | ⟨a1,a2,d,w,rfl,a4,a5⟩
    ·rcases bH hb hr with ⟨b1,gs,rfl,b3,b4,b5,b6⟩ | ⟨b1,_⟩ | ⟨b1,_⟩
     ·have hna : ¬ ((V.nd 82 [] 0 (fs.map aq)).what = 91 ∨ (V.nd 82 [] 0 (fs.map aq)).what = 63):=by rw [V.what];omega
      rw [iK hc hr hf a1] at hy hz
      cases hy
      cases hz
      have pos : ∀ hs : List (Fld × V),OfK ts (c :: r) (.nd 82 [] 0 (hs.map aq)) → ((V.nd 82 [] 0 (hs.map aq)).deep ≤ n ∨ ge ts (c :: r) (.nd 82 [] 0 (hs.map aq))) → hs ≠ [] → 1 ≤ n ∧ V.deeps (hs.map aq) + 1 ≤ n:=fun hs ho hh hne=>by
       rcases hh with h | h
       ·rw [eg dC] at h
        omega
       ·have:=jw hw ho h (by rw [V.what];decide)
        rw [V.kids] at this
        exact absurd (List.map_eq_nil_iff.1 this) hne
      have hn : 1 ≤ n:=by
       rcases g7 hna hi with h | h
       ·obtain ⟨p,hp,_⟩:=gZ.1 h
        exact (pos fs ha h1 (by intro e;rw [e] at hp;cases hp)).1
       ·obtain ⟨p,hp,_⟩:=gZ.1 h
        exact (pos gs hb h2 (by intro e;rw [e] at hp;cases hp)).1
      have told : ∀ hs : List (Fld × V),OfK ts (c :: r) (.nd 82 [] 0 (hs.map aq)) → ((V.nd 82 [] 0 (hs.map aq)).deep ≤ n ∨ ge ts (c :: r) (.nd 82 [] 0 (hs.map aq))) → (∀ p ∈ hs,p.1 ∈ t.fields ∧ OfK ts p.1.kind p.2) →
        (cX ts (.nd 82 [] 0 (hs.map aq)) f).deep ≤ n - 1 ∨ ge ts f.kind (cX ts (.nd 82 [] 0 (hs.map aq)) f):=fun hs ho hh hp=>by
       unfold cX
       rw [V.kids]
       cases e : cC f (hs.map aq) with
       | none=>exact Or.inr (sk hw ht oM hfm)
       | some u =>
        left
        obtain ⟨_,p,hp1,_,hp3⟩:=gX htw hfm hp e
        have h5:=(pos hs ho hh (by intro e;rw [e] at hp1;cases hp1)).2
        have h6:=V.deep_mem (List.mem_map_of_mem (f:=aq) hp1)
        rw [kv,hp3] at h6
        show u.deep ≤ n - 1
        omega
      exact ⟨n - 1,oM,told fs ha h1 fun p hp=>⟨a3 p hp,a4 p hp⟩,told gs hb h2 fun p hp=>⟨b3 p hp,b4 p hp⟩⟩
     ·omega
     ·omega
    ·unfold bY at hd
     rw [V.what,if_neg dC,if_neg dC,if_neg dC] at hd
     cases hd
    ·rcases bH hb hr with ⟨b1,_⟩ | ⟨b1,_⟩ | ⟨b1,b2,e,x,rfl,b4,b5⟩
     ·omega
     ·omega
     ·have hn : ∀ (d : Fld) (w : V),((V.nd 85 [] d.tag [w]).deep ≤ n) → ∃ m,n = m + 1 ∧ w.deep ≤ m:=fun d w h=>by
       rw [eg dC,V.deeps,V.deeps] at h
       exact ⟨n - 1,oM,oM⟩
      have hst : ∀ (d : Fld) (w : V),d ∈ t.fields → ge ts (c :: r) (.nd 85 [] d.tag [w]) → ge ts d.kind w ∧ ∃ j,V.out (.nd 85 [] d.tag [w]) = bV ts j (c :: r):=fun d w hd h=>by
       rcases h with h | ⟨j,h⟩
       ·cases h
       ·obtain ⟨m,_,e2,e3,_⟩:=nB hw hr a1 a2 hd h
        exact ⟨Or.inr ⟨m,by rw [e3,e2];rfl⟩,j,h⟩
      have sel : ∀ (d : Fld) (w : V),d ∈ t.fields → ∀ q,aC ts (c :: r) (.nd 85 [] d.tag [w]) i = some q → q = (d.kind,w):=fun d w hd q hq=>by
       unfold aC at hq
       dsimp only at hq
       rw [if_neg hc,hr] at hq
       dsimp only at hq
       rw [hf] at hq
       dsimp only at hq
       rw [if_neg a2,if_neg a1] at hq
       split at hq
       ·rename_i htg
        obtain rfl:=eW htw hfm hd (by rw [hft];exact htg.symm)
        cases hq
        rfl
       ·cases hq
      cases sel d w a4 y hy
      cases sel e x b4 z hz
      have hfit : ∀ (d : Fld) (w : V) (m : Nat),n = m + 1 → d ∈ t.fields → ((V.nd 85 [] d.tag [w]).deep ≤ n ∨ ge ts (c :: r) (.nd 85 [] d.tag [w])) → w.deep ≤ m ∨ ge ts d.kind w:=fun d w m hm hd h=>by
       rcases h with h | h
       ·obtain ⟨m',e1,e2⟩:=hn d w h
        exact Or.inl oM
       ·exact Or.inr (hst d w hd h).1
      have hm : ∃ m,n = m + 1:=by
       rcases h1 with h1 | h1
       ·obtain ⟨m,e1,_⟩:=hn d w h1;exact ⟨m,e1⟩
       ·rcases h2 with h2 | h2
        ·obtain ⟨m,e1,_⟩:=hn e x h2;exact ⟨m,e1⟩
        ·obtain ⟨_,j1,g1⟩:=hst d w a4 h1
         obtain ⟨_,j2,g2⟩:=hst e x b4 h2
         exact absurd (ut hw _ _ ha hb g1 g2) hne
      obtain ⟨m,hm⟩:=hm
      exact ⟨m,hm,hfit d w m hm a4 h1,hfit e x m hm b4 h2⟩
theorem vE (hw : SchW ts) : ∀ (n : Nat) {k : adB} {a b : V},OfK ts k a → OfK ts k b → aA ts k = true → (a.deep ≤ n ∨ ge ts k a) → (b.deep ≤ n ∨ ge ts k b) → ji ts (n + 1) k a b:=by
 intro n
 induction n with
 | zero =>
  intro k a b ha hb hk h1 h2
  by_cases hne : a.out = b.out
  ·exact Or.inl hne
  cases hd : bY a b with
  | false=>exact Or.inr (Or.inl hd)
  | true =>
   refine Or.inr (Or.inr fun i hi y z hy hz=>?_)
   obtain ⟨m,e,_⟩:=ri hw ha hb hk hne hd h1 h2 hi hy hz
   cases e
 | succ n ih =>
  intro k a b ha hb hk h1 h2
  by_cases hne : a.out = b.out
  ·exact Or.inl hne
  cases hd : bY a b with
  | false=>exact Or.inr (Or.inl hd)
  | true =>
   refine Or.inr (Or.inr fun i hi y z hy hz=>?_)
   obtain ⟨m,e,f1,f2⟩:=ri hw ha hb hk hne hd h1 h2 hi hy hz
   obtain rfl : n = m:=oM
   have hi0 : 0 ≤ i:=by
    unfold aU at hi
    split at hi
    ·obtain ⟨j,_,rfl⟩:=List.mem_map.1 hi;omega
    ·obtain ⟨j,_,rfl⟩:=List.mem_map.1 (List.mem_filter.1 hi).1;omega
   obtain ⟨y1,y2⟩:=cP hw ha hk hi0 (k':=y.1) (v':=y.2) hy
   obtain ⟨z1,z2⟩:=cP hw hb hk hi0 (k':=z.1) (v':=z.2) hz
   obtain ⟨k1,y',z',e1,e2⟩:=(iy hw ha hb hk hd).1 i hi
   rw [e1] at hy
   rw [e2] at hz
   cases hy
   cases hz
   exact ih y1 z1 y2 f1 f2
variable {ts : List Ty}
def eR (g : Int → Nat) : List Int → Nat
 | []=>0
 | i :: l=>g i + eR g l
theorem oz (g h : Int → Nat) : ∀ l,eR (fun i=>g i + h i) l = eR g l + eR h l
 | []=>rfl
 | i :: l=>by rw [eR,eR,eR,oz g h l];omega
theorem jf {g : Int → Nat} : ∀ {l : List Int},(∀ i ∈ l,g i = 0) → eR g l = 0
 | [],_=>rfl
 | i :: l,h=>by rw [eR,h i (by simp),jf fun j hj=>h j (by simp [hj])]
theorem lG {t : Int} {w : Nat} : ∀ {l : List Int},l.Pairwise (· < ·) → eR (fun i=>if t = i then w else 0) l ≤ w
 | [],_=>Nat.zero_le _
 | i :: l,h=>by
  replace h:=List.pairwise_cons.1 h
  rw [eR]
  by_cases e : t = i
  ·rw [if_pos e,jf fun j hj=>if_neg (by have:=h.1 j hj;omega)]
   omega
  ·rw [if_neg e]
   have:=lG (t:=t) (w:=w) h.2
   omega
theorem sj (g : Int → Nat) : ∀ a b,eR g (a ++ b) = eR g a + eR g b
 | [],b=>by rw [List.nil_append,eR,Nat.zero_add]
 | i :: a,b=>by rw [List.cons_append,eR,eR,sj g a b];omega
theorem uQ {α : Type} {f : Int → List α} {g : Int → Nat} : ∀ {l : List Int},(∀ i ∈ l,(f i).length ≤ g i) → (l.flatMap f).length ≤ eR g l
 | [],_=>Nat.le_refl _
 | i :: l,h=>by
  rw [List.flatMap_cons,List.length_append,eR]
  have:=h i (by simp)
  have:=uQ (l:=l) fun j hj=>h j (List.mem_cons_of_mem _ hj)
  omega
def mv : List V → Int → Nat
 | [],_=>0
 | v :: r,i=>(if v.tag = i then v.tot else 0) + mv r i
theorem qj : ∀ (vs : List V) {l : List Int},l.Pairwise (· < ·) → eR (mv vs) l ≤ V.tots vs
 | [],l,_=>by rw [jf (g:=mv []) fun i _=>rfl];exact Nat.zero_le _
 | v :: r,l,h=>by
  have e : mv (v :: r) = fun i=>(if v.tag = i then v.tot else 0) + mv r i:=by funext i;rfl
  rw [e,oz,V.tots]
  have:=lG (t:=v.tag) (w:=v.tot) h
  have:=qj r h
  omega
theorem r6 {f : Fld} : ∀ {vs : List V} {u : V},(∀ v ∈ vs,∃ p : Fld × V,v = aq p) → cC f vs = some u → u.tot ≤ mv vs f.tag
 | [],_,_,h=>by cases h
 | v :: r,u,hp,h=>by
  rw [cC] at h
  rw [mv]
  split at h
  ·rename_i e
   rw [if_pos e]
   obtain ⟨p,rfl⟩:=hp v (by simp)
   obtain rfl : p.2 = u:=Option.some.inj h
   rw [bI,V.tots,V.tots]
   omega
  ·have:=r6 (fun v hv=>hp v (by simp [hv])) h
   omega
theorem qk {n : Int} : ∀ {vs : List V},n ∈ vs.map V.tag → 1 ≤ mv vs n
 | [],h=>by cases h
 | v :: r,h=>by
  rw [mv]
  rcases List.mem_cons.1 h with h | h
  ·rw [if_pos h.symm];have:=iJ v;omega
  ·have:=qk (n:=n) h;omega
theorem mH (ks : List V) : ∀ n,n ≤ ks.length → eR (fun i=>(ab ks i.toNat).tot) ((List.range n).map fun i : Nat=>(i : Int)) = V.tots (ks.take n)
 | 0,_=>rfl
 | n + 1,h=>by
  rw [List.range_succ,List.map_append,sj,mH ks n oM,dl oM,fE]
  simp only [List.map_cons,List.map_nil,eR,V.tots,Int.toNat_natCast]
theorem kF {k : adB} {a b : V} (ha : OfK ts k a) {i : Int} (h : i ∈ aU a b) : 0 ≤ i ∧ i ≤ 200:=by
 have hk : (a.what = 91 ∨ a.what = 63) → a.kids.length ≤ 20:=fun hwh=>by
  cases ha with
  | num=>rw [V.what] at hwh;omega
  | txt=>rw [V.what] at hwh;omega
  | flg=>rw [V.what] at hwh;omega
  | lst k ks h1 h2=>exact h1
  | non=>exact Nat.zero_le _
  | opt=>exact (by decide : (1 : Nat) ≤ 20)
  | recd=>rw [V.what] at hwh;omega
  | enm=>rw [V.what] at hwh;omega
  | uni=>rw [V.what] at hwh;omega
 unfold aU at h
 split at h
 ·rename_i hwh
  obtain ⟨j,hj,rfl⟩:=List.mem_map.1 h
  have:=List.mem_range.1 hj
  have:=hk hwh
  omega
 ·obtain ⟨j,hj,rfl⟩:=List.mem_map.1 (List.mem_filter.1 h).1
  have:=List.mem_range.1 hj
  omega
theorem oP (hw : SchW ts) : ∀ {n : Nat} {k : adB} {a b : V} {q : List Int} {wa wb : Nat},OfK ts k a → OfK ts k b → aA ts k = true → (a.tot ≤ wa ∨ ge ts k a) → (b.tot ≤ wb ∨ ge ts k b) → 1 ≤ wa + wb → (bL ts n k a b q).length ≤ wa + wb
 | 0,_,_,_,_,_,_,_,_,_,_,_,_=>Nat.zero_le _
 | n + 1,k,a,b,q,wa,wb,ha,hb,hk,h1,h2,h3=>by
  rw [bL]
  split
  ·exact Nat.zero_le _
  rename_i hne
  split
  case isFalse=>exact h3
  rename_i hd
  obtain ⟨d1,_,_⟩:=iy hw ha hb hk hd
  have go : ∀ (ga gb : Int → Nat),(∀ i ∈ aU a b,∀ k1 y z,aC ts k a i = some (k1,y) → aC ts k b i = some (k1,z) → (y.tot ≤ ga i ∨ ge ts k1 y) ∧ (z.tot ≤ gb i ∨ ge ts k1 z) ∧ 1 ≤ ga i + gb i) → eR ga (aU a b) ≤ wa → eR gb (aU a b) ≤ wb →
    ((aU a b).flatMap fun i=>match aC ts k a i,aC ts k b i with
     | some y,some z=>bL ts n y.1 y.2 z.2 (q ++ [i])
     | _,_=>[]).length ≤ wa + wb:=fun ga gb hg s1 s2=>by
   have:=uQ (l:=aU a b) (g:=fun i=>ga i + gb i) (f:=fun i=>match aC ts k a i,aC ts k b i with
     | some y,some z=>bL ts n y.1 y.2 z.2 (q ++ [i])
     | _,_=>[]) fun i hi=>by
    obtain ⟨k1,y,z,e1,e2⟩:=d1 i hi
    have hi0:=(kF ha hi).1
    obtain ⟨y1,y2⟩:=cP hw ha hk hi0 e1
    obtain ⟨z1,_⟩:=cP hw hb hk hi0 e2
    obtain ⟨g1,g2,g3⟩:=hg i hi k1 y z e1 e2
    rw [e1,e2]
    exact oP hw y1 z1 y2 g1 g2 g3
   rw [oz] at this
   omega
  obtain ⟨c,r,rfl⟩:=dX hk
  by_cases hc : c.toNat = 91 ∨ c.toNat = 63
  ·have hs : ∀ v m,aC ts (c :: r) v m = if m < (v.kids.length : Nat) then some (r,ab v.kids m.toNat) else none:=fun v m=>by
    unfold aC
    dsimp only
    rw [if_pos hc]
   have hw2 : ∀ v,OfK ts (c :: r) v → v.what = 91 ∨ v.what = 63:=fun v hv=>by
    rcases di hv oM with ⟨g1,_⟩ | ⟨g1,_⟩ | ⟨g1,_⟩ | ⟨g1,ks,_,_,rfl⟩ | ⟨g1,rfl | ⟨w,_,rfl⟩⟩
    ·omega
    ·omega
    ·omega
    ·exact Or.inl F
    ·exact Or.inr F
    ·exact Or.inr F
   have wa2:=hw2 a ha
   have wb2:=hw2 b hb
   have hd2:=hd
   unfold bY at hd2
   rw [if_neg oM,if_neg oM,if_pos wa2] at hd2
   have hl:=of_decide_eq_true hd2
   have big : ∀ (v : V) (w : Nat),OfK ts (c :: r) v → (v.what = 91 ∨ v.what = 63) → 0 < v.kids.length → (v.tot ≤ w ∨ ge ts (c :: r) v) → V.tots v.kids ≤ w:=fun v w hv hwv hk hh=>by
    rcases hh with h | h
    ·obtain ⟨w1,x,t,ks⟩:=v
     rw [bI] at h
     rw [V.kids]
     omega
    ·rw [jw hw hv h oM] at hk
     cases hk
   have e : aU a b = (List.range a.kids.length).map fun i : Nat=>(i : Int):=by unfold aU;rw [if_pos wa2]
   refine go (fun i=>(ab a.kids i.toNat).tot) (fun i=>(ab b.kids i.toNat).tot) (fun i hi k1 y z e1 e2=>?_) ?_ ?_
   ·rw [hs] at e1 e2
    split at e1
    ·split at e2
     ·cases e1
      cases e2
      have:=iJ (ab a.kids i.toNat)
      exact ⟨Or.inl (Nat.le_refl _),Or.inl (Nat.le_refl _),oM⟩
     ·cases e2
    ·cases e1
   ·rw [e,mH a.kids _ (Nat.le_refl _),List.take_length]
    exact big a wa ha wa2 hl.2 h1
   ·rw [e,mH b.kids _ oM,hl.1,List.take_length]
    exact big b wb hb wb2 oM h2
  ·cases hr : a8 ts (c :: r) with
   | none =>
    refine go (fun _=>0) (fun _=>0) (fun i hi k1 y z e1 e2=>?_) ?_ ?_
    ·unfold aC at e1
     dsimp only at e1
     rw [if_neg hc,hr] at e1
     cases e1
    ·rw [jf fun _ _=>rfl];exact Nat.zero_le _
    ·rw [jf fun _ _=>rfl];exact Nat.zero_le _
   | some t =>
    have ht:=bj hr
    have htw:=hw.ty t ht
    rcases bH ha hr with ⟨a1,fs,rfl,a3,a4,a5,a6⟩ | ⟨a1,d,rfl,_⟩ | ⟨a1,a2,d,w,rfl,a4,a5⟩
    ·rcases bH hb hr with ⟨b1,gs,rfl,b3,b4,b5,b6⟩ | ⟨b1,_⟩ | ⟨b1,_⟩
     ·have hna : ¬ ((V.nd 82 [] 0 (fs.map aq)).what = 91 ∨ (V.nd 82 [] 0 (fs.map aq)).what = 63):=by rw [V.what];omega
      have big : ∀ (hs : List (Fld × V)) (w : Nat),OfK ts (c :: r) (.nd 82 [] 0 (hs.map aq)) → ((V.nd 82 [] 0 (hs.map aq)).tot ≤ w ∨ ge ts (c :: r) (.nd 82 [] 0 (hs.map aq))) → V.tots (hs.map aq) ≤ w:=fun hs w ho hh=>by
       rcases hh with h | h
       ·rw [bI] at h;omega
       ·have:=jw hw ho h (by rw [V.what];decide)
        rw [V.kids] at this
        rw [this]
        exact Nat.zero_le _
      have told : ∀ (hs : List (Fld × V)) (f : Fld),f ∈ t.fields → (cX ts (.nd 82 [] 0 (hs.map aq)) f).tot ≤ mv (hs.map aq) f.tag ∨ ge ts f.kind (cX ts (.nd 82 [] 0 (hs.map aq)) f):=fun hs f hf=>by
       unfold cX
       rw [V.kids]
       cases e : cC f (hs.map aq) with
       | none=>exact Or.inr (sk hw ht oM hf)
       | some u =>
        exact Or.inl (r6 (fun v hv=>by obtain ⟨p,_,e⟩:=List.mem_map.1 hv;exact ⟨p,e.symm⟩) e)
      refine go (mv (fs.map aq)) (mv (gs.map aq)) (fun i hi k1 y z e1 e2=>?_) (Nat.le_trans (qj _ (g8 _ _)) (big fs wa ha h1)) (Nat.le_trans (qj _ (g8 _ _)) (big gs wb hb h2))
      cases hf : co t.fields i with
      | none=>rw [gl hc hr hf] at e1;cases e1
      | some f =>
       have hfm:=List.mem_of_find?_eq_some hf
       have hft : f.tag = i:=by have:=List.find?_some hf;simpa using this
       rw [iK hc hr hf a1] at e1 e2
       cases e1
       cases e2
       have t1:=told fs f hfm
       have t2:=told gs f hfm
       rw [hft] at t1 t2
       refine ⟨t1,t2,?_⟩
       rcases g7 hna hi with h | h
       ·have h : i ∈ (fs.map aq).map V.tag:=by
         unfold cJ at h
         rw [V.what,if_pos rfl,V.kids] at h
         exact h
        have:=qk h
        omega
       ·have h : i ∈ (gs.map aq).map V.tag:=by
         unfold cJ at h
         rw [V.what,if_pos rfl,V.kids] at h
         exact h
        have:=qk h
        omega
     ·omega
     ·omega
    ·unfold bY at hd
     rw [V.what,if_neg dC,if_neg dC,if_neg dC] at hd
     cases hd
    ·rcases bH hb hr with ⟨b1,_⟩ | ⟨b1,_⟩ | ⟨b1,b2,e,x,rfl,b4,b5⟩
     ·omega
     ·omega
     ·have hde : d.tag = e.tag:=by
       unfold bY at hd
       rw [V.what,if_neg dC,if_pos rfl] at hd
       exact of_decide_eq_true hd
      have hkid : ∀ (d : Fld) (w : V) (m : Nat),d ∈ t.fields → ((V.nd 85 [] d.tag [w]).tot ≤ m ∨ ge ts (c :: r) (.nd 85 [] d.tag [w])) → w.tot ≤ m ∨ ge ts d.kind w:=fun d w m hd h=>by
       rcases h with h | h | ⟨j,h⟩
       ·rw [bI,V.tots,V.tots] at h;exact Or.inl oM
       ·cases h
       ·obtain ⟨m,_,e2,e3,_⟩:=nB hw hr a1 a2 hd h
        exact Or.inr (Or.inr ⟨m,by rw [e3,e2];rfl⟩)
      refine go (fun i=>if d.tag = i then wa else 0) (fun i=>if e.tag = i then wb else 0) (fun i hi k1 y z e1 e2=>?_) (lG (g8 _ _)) (lG (g8 _ _))
      have sel : ∀ (d : Fld) (w : V),d ∈ t.fields → ∀ q,aC ts (c :: r) (.nd 85 [] d.tag [w]) i = some q → q = (d.kind,w) ∧ d.tag = i:=fun d w hd q hq=>by
       cases hf : co t.fields i with
       | none=>rw [gl hc hr hf] at hq;cases hq
       | some f =>
        have hfm:=List.mem_of_find?_eq_some hf
        have hft : f.tag = i:=by have:=List.find?_some hf;simpa using this
        unfold aC at hq
        dsimp only at hq
        rw [if_neg hc,hr] at hq
        dsimp only at hq
        rw [hf] at hq
        dsimp only at hq
        rw [if_neg a2,if_neg a1] at hq
        split at hq
        ·rename_i htg
         obtain rfl:=eW htw hfm hd (by rw [hft];exact htg.symm)
         cases hq
         exact ⟨F,htg⟩
        ·cases hq
      obtain ⟨q1,q2⟩:=sel d w a4 _ e1
      obtain ⟨q3,q4⟩:=sel e x b4 _ e2
      cases q1
      injection q3 with q3 q5
      subst q5
      rw [if_pos q2,if_pos q4]
      refine ⟨hkid d w wa a4 h1,?_,h3⟩
      rw [q3]
      exact hkid e z wb b4 h2
theorem ll (hw : SchW ts) : ∀ {n : Nat} {k : adB} {a b : V} {q : List Int},OfK ts k a → OfK ts k b → aA ts k = true → (a.deep ≤ 12 ∧ a.out.length ≤ 400) → (b.deep ≤ 12 ∧ b.out.length ≤ 400) → (∀ m ∈ q,0 ≤ m ∧ m ≤ 999999) →
  ∀ c ∈ bL ts n k a b q,(∀ m ∈ c.1,0 ≤ m ∧ m ≤ 999999) ∧ c.1.length ≤ q.length + n ∧ c.2.out.length ≤ 400
 | 0,_,_,_,_,_,_,_,_,_,_,c,h=>by cases h
 | n + 1,k,a,b,q,ha,hb,hk,fa,fb,hq,c,h=>by
  rw [bL] at h
  split at h
  ·cases h
  ·split at h
   ·rename_i hd
    obtain ⟨i,hi,hc⟩:=List.mem_flatMap.1 h
    obtain ⟨k1,y,z,e1,e2⟩:=(iy hw ha hb hk hd).1 i hi
    have hi0:=kF ha hi
    obtain ⟨y1,y2⟩:=cP hw ha hk hi0.1 e1
    obtain ⟨z1,_⟩:=cP hw hb hk hi0.1 e2
    have fy:=gG hw ha hk hi0.1 e1 fa.1 fa.2
    have fz:=gG hw hb hk hi0.1 e2 fb.1 fb.2
    rw [e1,e2] at hc
    have hm : ∀ m ∈ q ++ [i],0 ≤ m ∧ m ≤ 999999:=fun m hm=>by
     rcases List.mem_append.1 hm with hm | hm
     ·exact hq m hm
     ·rw [List.mem_singleton.1 hm];omega
    obtain ⟨r1,r2,r3⟩:=ll hw y1 z1 y2 fy fz hm c hc
    refine ⟨r1,?_,r3⟩
    rw [List.length_append,List.length_singleton] at r2
    omega
   ·rw [List.mem_singleton.1 h]
    exact ⟨hq,Nat.le_add_right _ _,fb.2⟩
def cZ (c : List Int × V) : Ch:=(cy c.1,c.2.out)
theorem xS (hw : SchW ts) {s k : adB} {v u : V} (h1 : bc s = some ts) (hv : OfK ts k v) (h : cW s k v.out = some u) : u = v:=by
 obtain ⟨ts',g1,g2,g3,g4,g5⟩:=cV h
 obtain rfl : ts = ts':=Option.some.inj (h1.symm.trans g1)
 exact iN hw (dq g3) hv (eU g3).1
theorem tC (hw : SchW ts) {s k : adB} (h1 : bc s = some ts) (hk : aA ts k = true) : ∀ {ds : List (List Int × V)} {v : V} {z : adB},OfK ts k v → km ts k v ds → (∀ d ∈ ds,∀ m ∈ d.1,0 ≤ m ∧ m ≤ 999999) → fZ s k v.out (ds.map cZ) = some z →
  z = (fC ts k v ds).out ∧ ∀ d ∈ ds,d.1.length ≤ 8
 | [],v,z,_,_,_,e=>by
  rw [List.map_nil,fZ] at e
  exact ⟨(Option.some.inj e).symm,fun d hd=>by cases hd⟩
 | d :: r,v,z,hv,hd,hm,e=>by
  rw [List.map_cons,fZ] at e
  cases hp : eK s k v.out (cZ d).1 (cZ d).2 with
  | none=>rw [hp] at e;cases e
  | some t =>
   rw [hp] at e
   dsimp only at e
   obtain ⟨ts',u,q,k1,v1,y,g1,g2,g3,g4,g5,g6,rfl⟩:=sH hp
   obtain rfl : ts = ts':=Option.some.inj (h1.symm.trans g1)
   obtain rfl:=xS hw h1 hv g2
   have hpo:=rh (hm d (by simp))
   have g3' : da (cy d.1) = some q:=g3
   rw [hpo] at g3'
   split at g3'
   ·rename_i h8
    obtain rfl : d.1 = q:=Option.some.inj g3'
    obtain ⟨⟨⟨k',v',f1,f2⟩,f3⟩,f4⟩:=hd
    rw [g4] at f1
    cases f1
    have hy:=py _ _ _ _ g5
    have hyx:=px _ _ _ _ g5
    dsimp only at hy hyx
    rw [List.append_nil] at hyx
    obtain rfl:=iN hw f2 hy hyx
    have:=tC hw h1 hk (fB hw hv hk f3 g4 f2) f4 (fun x hx=>hm x (by simp [hx])) e
    refine ⟨this.1,fun x hx=>?_⟩
    rcases List.mem_cons.1 hx with rfl | hx
    ·exact h8
    ·exact this.2 x hx
   ·cases g3'
def dN (ts : List Ty) (k : adB) (a b : V) : List Ch:=(bL ts 13 k a b []).map cZ
def cA (s k w t : adB) : Option (List Ch):=match bc s,cW s k w,cW s k t with
 | some ts,some a,some b=>if (dN ts k a b).length ≤ 30 ∧ (jl s k w (dN ts k a b)).isSome = true then some (dN ts k a b) else none
 | _,_,_=>none
theorem rL {s k w t : adB} {a b : V} (h1 : bc s = some ts) (ha : cW s k w = some a) (hb : cW s k t = some b) {z : adB} (h : jl s k w (dN ts k a b) = some z) : z = t ∧ ∀ d ∈ bL ts 13 k a b [],d.1.length ≤ 8:=by
 obtain ⟨ts',g1,g2,g3,g4,g5⟩:=cV ha
 obtain rfl : ts = ts':=Option.some.inj (h1.symm.trans g1)
 obtain ⟨ts',i1,i2,i3,i4,i5⟩:=cV hb
 obtain rfl : ts = ts':=Option.some.inj (h1.symm.trans i1)
 have hw:=d9 h1
 have oa:=dq g3
 have ob:=dq i3
 obtain ⟨a1,a2,a3⟩:=eU g3
 obtain ⟨b1,b2,b3⟩:=eU i3
 have hl:=vE hw 12 oa ob g2 (Or.inl a3) (Or.inl b3)
 obtain ⟨e1,e2⟩:=tz hw oa ob g2 hl
 unfold jl at h
 split at h
 ·rw [← a1] at h
  have hin:=ll (n:=13) (q:=[]) hw oa ob g2 ⟨a3,by rw [a1];exact a2⟩ ⟨b3,by rw [b1];exact b2⟩ (fun m hm=>by cases hm)
  have:=tC hw h1 g2 oa e1 (fun d hd=>(hin d hd).1) h
  rw [e2,b1] at this
  exact this
 ·cases h
theorem tD {s k w : adB} (h : ld s k w = true) : cA s k w w = some []:=by
 obtain ⟨a,ha⟩:=Option.isSome_iff_exists.1 h
 obtain ⟨ts,g1,_⟩:=cV ha
 unfold cA
 rw [g1,ha]
 dsimp only
 rw [dN,rE,List.map_nil,if_pos]
 refine ⟨by simp,?_⟩
 unfold jl
 rw [if_pos h,fZ]
 rfl
theorem uh {s k w t : adB} {l : List Ch} (h : cA s k w t = some l) : jl s k w l = some t ∧ cA s k w w = some [] ∧ (w = t ↔ l = []):=by
 unfold cA at h
 split at h
 ·rename_i ts a b h1 ha hb
  split at h
  ·rename_i hc
   cases h
   obtain ⟨z,hz⟩:=Option.isSome_iff_exists.1 hc.2
   obtain ⟨rfl,_⟩:=rL h1 ha hb hz
   have ho : ld s k w = true:=by unfold ld;rw [ha];rfl
   refine ⟨hz,tD ho,fun e=>?_,fun e=>?_⟩
   ·subst e
    obtain rfl : a = b:=Option.some.inj (ha.symm.trans hb)
    rw [dN,rE];rfl
   ·rw [e] at hz
    unfold jl at hz
    rw [if_pos ho,fZ] at hz
    exact Option.some.inj hz
  ·cases h
 ·cases h
theorem sM {n : Int} : cy [n] = be n:=rfl
theorem wv {q : List Int} {n : Int} (h : q ≠ []) : cy q ++ [47] ++ be n = cy (q ++ [n]):=by
 rw [mS h (by simp),sM];simp
theorem xJ {q : List Int} : cy q = [] ↔ q = []:=⟨fun h=>by
 cases q with
 | nil=>rfl
 | cons n q=>exact absurd h (n6 (by simp)),fun h=>by rw [h];rfl⟩
theorem gt : ∀ {q : List Int},(∀ n ∈ q,0 ≤ n ∧ n ≤ 999999) → (cy q).length ≤ 7 * q.length
 | [],_=>by simp [cy,aO]
 | [n],h=>by
  have:=kw (h n (by simp)).2
  rw [sM];simp only [List.length_cons,List.length_nil];omega
 | n :: m :: q,h=>by
  have h1:=kw (h n (by simp)).2
  have h2:=gt (q:=m :: q) fun x hx=>h x (by simp [List.mem_cons] at hx ⊢;exact .inr hx)
  rw [gT (by simp)]
  simp only [List.length_append,List.length_cons] at h2 ⊢
  omega
theorem k9 {q : List Int} {s : Int} (hq : ∀ n ∈ q,0 ≤ n ∧ n ≤ 999999) (h : 0 ≤ s ∧ s ≤ 999999) : ∀ n ∈ q ++ [s],0 ≤ n ∧ n ≤ 999999:=fun n hn=>by
 rcases List.mem_append.1 hn with hn | hn
 ·exact hq n hn
 ·simp only [List.mem_singleton] at hn;subst hn;exact h
end Go.E
