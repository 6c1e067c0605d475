/- Contracts and plain laws that the statement rests on, part 7. Conditions: as each says. -/
import Derived.Test.YthcpkoephapecaaGreatDoorU6
set_option linter.unusedVariables false
set_option linter.unusedSimpArgs false
namespace Go.E
set_option maxRecDepth 20000
set_option maxHeartbeats 2000000
open Go.Proofs
section
variable {P : Program} {n : Nat} {D : List Deferred} {E : bS} {B : Base} {G : Gh} {L : List Own} {K : Act → World → Prop} {Q : Exit → Act → World → Prop} {ty : TypeId} {pos : String} {aft : Array Edge}
theorem xl {fo : Operand} {l : List Operand} {ah : Array TypeId} {d : Nat} {g : Option (Nat × Bool)} {f : FuncId} {fi ca az vs : List Value} {xs : List Value} {el : TypeId} {u : Value} {sz m : Nat} {R : List Own} {Post : Value → Gh → List Own → Prop}
  [ha2 : AccI L u el sz m xs R] (hf : ev E fo = some (.func (.func f) fi.toArray ca.toArray)) (ha : evs E l = some az) (hv : fi ++ az ++ ca = vs) (hc : fK P f vs G [.acc u el sz m xs] Post) (hlt : Nat.blt d n = true)
  (k : ∀ v G' L',Gh.le G G' → Post v G' L' → Nx n D ((d,v) :: E) B G' (L' ++ R) K) : Nx n D E B G L (ow P ⟨some d,.call ⟨.value fo,l.toArray,ah⟩,ty,pos,aft,g⟩ Q K) :=
 jk (Lp:=[.acc u el sz m xs]) hf ha hv hc ha2.del.perm hlt fun v G' L' h=>k v G' L' h.1 h.2
end
variable {G : Gh}
def im (v : V) : List Int:=if v.what = 82 then v.kids.map V.tag else if v.what = 85 ∨ v.what = 69 then [v.tag] else []
theorem lZ {ts : List Ty} {v : V} {k : adA} {b : Nat} (h : RepR G ts v k b) : ∃ tx a1 c1 a2 c2,b9 G b 0 [S k,S tx,.slice a1 (im v).length c1,.slice a2 v.kids.length c2] ∧ aU G (.slice a1 (im v).length c1) 1 (im v).length (ak cH (im v)) ∧
  (((∃ r,k = 64 :: r) ∧ ((v.what = 82 ∧ tx = [82]) ∨ (v.what = 85 ∧ tx = [85]) ∨ (v.what = 69 ∧ tx = [69]))) ∨ ((∃ r,k = 91 :: r) ∧ v.what = 91) ∨ ((∃ r,k = 63 :: r) ∧ v.what = 63) ∨ ((k = [110] ∨ k = [116] ∨ k = [102]) ∧ (v.what = 110 ∨ v.what = 116 ∨ v.what = 102))):=by
 have h0 : ∀ G,aU G aQ 1 0 (ak cH []):=fun G=>⟨rfl,.inl ⟨rfl,rfl⟩⟩
 cases h with
 | leaf w x k tx b h1 h2 =>
  rcases h2 with ⟨rfl,rfl,_⟩ | ⟨rfl,rfl,_⟩ | ⟨rfl,rfl,_⟩
  ·exact ⟨tx,none,0,none,0,h1,h0 G,.inr (.inr (.inr ⟨.inl rfl,.inl rfl⟩))⟩
  ·exact ⟨tx,none,0,none,0,h1,h0 G,.inr (.inr (.inr ⟨.inr (.inl rfl),.inr (.inl rfl)⟩))⟩
  ·exact ⟨tx,none,0,none,0,h1,h0 G,.inr (.inr (.inr ⟨.inr (.inr rfl),.inr (.inr rfl)⟩))⟩
 | lst k b ks bs a c h1 h2 h3 hk=>exact ⟨_,none,0,a,c,h1,h0 G,.inr (.inl ⟨⟨_,rfl⟩,rfl⟩)⟩
 | non k b h1=>exact ⟨_,none,0,none,0,h1,h0 G,.inr (.inr (.inl ⟨⟨_,rfl⟩,rfl⟩))⟩
 | opt k b kb b' cc w h0' h1 h2 h3=>exact ⟨_,none,0,_,_,h1,h0 G,.inr (.inr (.inl ⟨⟨_,rfl⟩,rfl⟩))⟩
 | recd k b t fs bs a a2 c c2 h0 h1 h2 h3 h4 h5 hk =>
  have e : im (.nd 82 [] 0 (fs.map fun p=>.nd 61 [] p.1.tag [p.2])) = fs.map fun p=>p.1.tag:=by
   unfold im
   rw [V.what,if_pos rfl,V.kids,List.map_map]
   rfl
  rw [e,V.kids]
  refine ⟨[82],a,c,a2,c2,by rw [List.length_map,List.length_map];exact h1,by rw [List.length_map];exact h2,.inl ⟨dn h0.1,.inl ⟨rfl,rfl⟩⟩⟩
 | enm k b tgb t d h0 h1 h2 h3=>exact ⟨[69],_,_,none,0,h2,⟨rfl,.inr ⟨tgb,0,_,rfl,Nat.le_add_left _ _,h3⟩⟩,.inl ⟨dn h0.1,.inr (.inr ⟨rfl,rfl⟩)⟩⟩
 | uni k b tgb kb b' cc t d w hcc h0 h1 h2 h3 h4 hk=>exact ⟨[85],_,_,_,_,h2,⟨rfl,.inr ⟨tgb,0,_,rfl,Nat.le_add_left _ _,h3⟩⟩,.inl ⟨dn h0.1,.inr (.inl ⟨rfl,rfl⟩)⟩⟩
theorem wc {ts : List Ty} {k : adA} {a b : V} (ha : OfK ts k a) (hb : OfK ts k b) : a.what = b.what:=by
 cases hr : a8 ts k with
 | some t =>
  rcases bL ha hr with ⟨a1,fs,rfl,_⟩ | ⟨a1,d,rfl,_⟩ | ⟨a1,a2,d,w,rfl,_⟩ <;> rcases bL hb hr with ⟨b1,gs,rfl,_⟩ | ⟨b1,e,rfl,_⟩ | ⟨b1,b2,e,x,rfl,_⟩ <;> (first | rfl | omega)
 | none =>
  cases ha with
  | recd _ t' fs g1=>rw [hr] at g1;cases g1
  | enm _ t' d g1=>rw [hr] at g1;cases g1
  | uni _ t' d v g1=>rw [hr] at g1;cases g1
  | num =>
   cases hb with
   | num=>rfl
   | recd _ t' fs g1=>rw [hr] at g1;cases g1
   | enm _ t' d g1=>rw [hr] at g1;cases g1
   | uni _ t' d v g1=>rw [hr] at g1;cases g1
  | txt =>
   cases hb with
   | txt=>rfl
   | recd _ t' fs g1=>rw [hr] at g1;cases g1
   | enm _ t' d g1=>rw [hr] at g1;cases g1
   | uni _ t' d v g1=>rw [hr] at g1;cases g1
  | flg =>
   cases hb with
   | flg=>rfl
   | recd _ t' fs g1=>rw [hr] at g1;cases g1
   | enm _ t' d g1=>rw [hr] at g1;cases g1
   | uni _ t' d v g1=>rw [hr] at g1;cases g1
  | lst =>
   cases hb with
   | lst=>rfl
   | recd _ t' fs g1=>rw [hr] at g1;cases g1
   | enm _ t' d g1=>rw [hr] at g1;cases g1
   | uni _ t' d v g1=>rw [hr] at g1;cases g1
  | non =>
   cases hb with
   | non=>rfl
   | opt=>rfl
   | recd _ t' fs g1=>rw [hr] at g1;cases g1
   | enm _ t' d g1=>rw [hr] at g1;cases g1
   | uni _ t' d v g1=>rw [hr] at g1;cases g1
  | opt =>
   cases hb with
   | non=>rfl
   | opt=>rfl
   | recd _ t' fs g1=>rw [hr] at g1;cases g1
   | enm _ t' d g1=>rw [hr] at g1;cases g1
   | uni _ t' d v g1=>rw [hr] at g1;cases g1
theorem xf {q : List Int} {n : Int} (hn : 0 ≤ n ∧ n ≤ 999999) (hl : (aR q).length ≤ 100000) : a9 adz 64 [S (aR q),I n] G (· = S (aR (q ++ [n]))):=by
 have hdl:=gO hn.2
 by_cases hq : q = []
 ·subst hq
  have hp : aR [] = []:=rfl
  refine jE [(0,_),(1,_)] Tryz.func64 Tryz.ntmps64 fun B hB=>?_
  repeat' (first | refine jR ?_ | (refine jo ?_;refine ae rfl rfl rfl (dD oM) rfl ?_) | refine ac rfl rfl ?_)
  all_goals refine jY (vs:=[_]) ?_
  all_goals (rw [aP];rfl)
 ·have hp : aR q ≠ []:=fun h=>hq (fW.1 h)
  refine jE [(0,_),(1,_)] Tryz.func64 Tryz.ntmps64 fun B hB=>?_
  repeat' (first | refine jX ?_ | (refine jo ?_;refine ae rfl rfl rfl (dD oM) rfl ?_) | refine ad rfl (aG ‹_›) ?_)
  all_goals refine jY (vs:=[_]) ?_
  all_goals (rw [aP,← jg hq])
theorem rO {ts : List Ty} {k : adA} {a b : V} {ba bb : Nat} (ha : RepR G ts a k ba) (hb : RepR G ts b k bb) (oa : OfK ts k a) (ob : OfK ts k b) : a9 adz 61 [Pt ba 0,Pt bb 0] G (· = Bo (cR a b)):=by
 have hwh:=wc oa ob
 obtain ⟨tx,a1,c1,a2,c2,hsa,hta,hca⟩:=lZ ha
 obtain ⟨ty,b1,d1,b2,d2,hsb,htb,hcb⟩:=lZ hb
 rcases hca with ⟨⟨r,rfl⟩,h⟩ | ⟨⟨r,rfl⟩,h⟩ | ⟨⟨r,rfl⟩,h⟩ | ⟨hk,h⟩
 ·have hk0 : bt (64 :: r) (Int.toNat 0) = 64:=bj 64 r
  have hkl : (64 :: r).length = r.length + 1:=rfl
  rcases h with ⟨h,rfl⟩ | ⟨h,rfl⟩ | ⟨h,rfl⟩
  ·have e : cR a b = true:=by unfold cR;rw [if_pos h]
   rw [e]
   refine jE [(0,_),(1,_)] Tryz.func61 Tryz.ntmps61 fun B hB=>?_
   repeat' (first | refine jM ?_ | (refine jo ?_;first | refine jV (aj rfl rfl aS rfl rfl) ?_ | refine aM rfl ?_) | refine aF rfl rfl rfl ?_ | refine ac rfl rfl ?_)
   all_goals refine jY (vs:=[_]) ?_
   all_goals rfl
  ·have e : cR a b = decide (a.tag = b.tag):=by unfold cR;rw [if_neg oM,if_pos h]
   have ea : im a = [a.tag]:=by unfold im;rw [if_neg oM,if_pos oM]
   have eb : im b = [b.tag]:=by unfold im;rw [if_neg oM,if_pos oM]
   rw [ea] at hta hsa
   rw [eb] at htb hsb
   obtain ⟨xb,xo,xc,e1,hxa⟩:=hta.expl (by simp)
   simp only [Value.slice.injEq] at e1
   obtain ⟨rfl,-,rfl⟩:=e1
   obtain ⟨yb,yo,yc,e1,hxb⟩:=htb.expl (by simp)
   simp only [Value.slice.injEq] at e1
   obtain ⟨rfl,-,rfl⟩:=e1
   have hla : ([a.tag]).length = 1:=rfl
   have hlb : ([b.tag]).length = 1:=rfl
   rw [hla] at hsa
   rw [hlb] at hsb
   have hxa : b9 G xb xo [I a.tag]:=hxa
   have hxb : b9 G yb yo [I b.tag]:=hxb
   rw [e]
   refine jE [(0,_),(1,_)] Tryz.func61 Tryz.ntmps61 fun B hB=>?_
   repeat' (first | refine jM ?_ | (refine jo ?_;first | refine jV (aj rfl rfl aS rfl rfl) ?_ | refine aM rfl ?_) | refine aF rfl rfl rfl ?_ | refine ac rfl rfl ?_ | refine ad rfl rfl ?_ | (refine am (ao (id:=4) _ (fun _ h=>h) al ?_);refine jT 8 [0,1,2,6,7,8] (aa 14 455) ?_;(refine jG (aa 14 463) 3 rfl (aj rfl rfl aS rfl rfl) ?_);(refine jG (aa 14 479) 4 rfl (aN rfl rfl oM) ?_);(refine jG (aa 14 511) 5 rfl (aj rfl rfl aS rfl rfl) ?_);(refine jG (aa 14 1023) 9 rfl (aj rfl rfl aS rfl rfl) ?_);(refine jG (aa 14 2047) 10 rfl (aN rfl rfl oM) ?_);(refine jG (aa 14 4095) 11 rfl (aj rfl rfl aS rfl rfl) ?_);refine jT 0 [12,13] (aa 14 16383) ?_;refine jQ ?_))
   all_goals refine jY (vs:=[_]) ?_
   all_goals rfl
  ·have e : cR a b = false:=by unfold cR;rw [if_neg oM,if_neg oM,if_neg oM]
   rw [e]
   refine jE [(0,_),(1,_)] Tryz.func61 Tryz.ntmps61 fun B hB=>?_
   repeat' (first | refine jM ?_ | (refine jo ?_;first | refine jV (aj rfl rfl aS rfl rfl) ?_ | refine aM rfl ?_ | refine aC rfl ?_) | refine aF rfl rfl rfl ?_ | refine ar rfl rfl rfl ?_ | refine ad rfl rfl ?_)
   all_goals refine jY (vs:=[_]) ?_
   all_goals rfl
 ·have hk0 : bt (91 :: r) (Int.toNat 0) = 91:=bj 91 r
  have hkl : (91 :: r).length = r.length + 1:=rfl
  have e : cR a b = decide (a.kids.length = b.kids.length ∧ 0 < a.kids.length):=by unfold cR;rw [if_neg oM,if_neg oM,if_pos oM]
  rw [e]
  clear e
  by_cases hl : a.kids.length = b.kids.length
  ·by_cases h0 : 0 < a.kids.length
   ·rw [decide_eq_true ⟨hl,h0⟩]
    refine jE [(0,_),(1,_)] Tryz.func61 Tryz.ntmps61 fun B hB=>?_
    repeat' (first | refine jM ?_ | (refine jo ?_;first | refine jV (aj rfl rfl aS rfl rfl) ?_ | refine aM rfl ?_ | refine aC rfl ?_) | refine aF rfl rfl rfl ?_ | refine ar rfl rfl rfl ?_ | refine ac rfl rfl ?_ | refine ad rfl rfl ?_ | (refine am (ao (id:=6) _ (fun _ h=>h) al ?_);refine jT 14 [0,1,2,5,6,7] (aa 20 231) ?_;(refine jG (aa 20 239) 3 rfl (aj rfl rfl aS rfl rfl) ?_);(refine jG (aa 20 255) 4 rfl (af rfl) ?_);(refine jG (aa 20 511) 8 rfl (aj rfl rfl aS rfl rfl) ?_);(refine jG (aa 20 1023) 9 rfl (af rfl) ?_);refine jT 8 [10,11] (aa 20 4095) ?_;(try ((refine Nx.re (d:=72) (v':=Bo true) rfl (congrArg Value.bool (ay oM)) ?_)));refine jT 5 [12,13,14] (aa 20 32767) ?_;(refine jG (aa 20 65535) 15 rfl (aj rfl rfl aS rfl rfl) ?_);(refine jG (aa 20 131071) 16 rfl (af rfl) ?_);refine jT 2 [17] (aa 20 262143) ?_;(refine jG (aa 20 524287) 18 rfl (bO rfl rfl rfl) ?_);refine jT 0 [19] (aa 20 1048575) ?_;refine jQ ?_))
    all_goals refine jY (vs:=[_]) ?_
    all_goals (rw [aP];simp_all;done)
   ·rw [decide_eq_false (fun h=>h0 h.2)]
    refine jE [(0,_),(1,_)] Tryz.func61 Tryz.ntmps61 fun B hB=>?_
    repeat' (first | refine jM ?_ | (refine jo ?_;first | refine jV (aj rfl rfl aS rfl rfl) ?_ | refine aM rfl ?_ | refine aC rfl ?_) | refine aF rfl rfl rfl ?_ | refine ar rfl rfl rfl ?_ | refine ac rfl rfl ?_ | refine ad rfl rfl ?_ | (refine am (ao (id:=6) _ (fun _ h=>h) al ?_);refine jT 14 [0,1,2,5,6,7] (aa 20 231) ?_;(refine jG (aa 20 239) 3 rfl (aj rfl rfl aS rfl rfl) ?_);(refine jG (aa 20 255) 4 rfl (af rfl) ?_);(refine jG (aa 20 511) 8 rfl (aj rfl rfl aS rfl rfl) ?_);(refine jG (aa 20 1023) 9 rfl (af rfl) ?_);refine jT 8 [10,11] (aa 20 4095) ?_;(try ((refine Nx.re (d:=72) (v':=Bo true) rfl (congrArg Value.bool (ay oM)) ?_)));refine jT 5 [12,13,14] (aa 20 32767) ?_;(refine jG (aa 20 65535) 15 rfl (aj rfl rfl aS rfl rfl) ?_);(refine jG (aa 20 131071) 16 rfl (af rfl) ?_);refine jT 2 [17] (aa 20 262143) ?_;(refine jG (aa 20 524287) 18 rfl (bO rfl rfl rfl) ?_);refine jT 0 [19] (aa 20 1048575) ?_;refine jQ ?_))
    all_goals refine jY (vs:=[_]) ?_
    all_goals (rw [aP];simp_all;done)
  ·rw [decide_eq_false (fun h=>hl h.1)]
   refine jE [(0,_),(1,_)] Tryz.func61 Tryz.ntmps61 fun B hB=>?_
   repeat' (first | refine jM ?_ | (refine jo ?_;first | refine jV (aj rfl rfl aS rfl rfl) ?_ | refine aM rfl ?_ | refine aC rfl ?_) | refine aF rfl rfl rfl ?_ | refine ar rfl rfl rfl ?_ | refine ac rfl rfl ?_ | refine ad rfl rfl ?_ | (refine am (ao (id:=6) _ (fun _ h=>h) al ?_);refine jT 14 [0,1,2,5,6,7] (aa 20 231) ?_;(refine jG (aa 20 239) 3 rfl (aj rfl rfl aS rfl rfl) ?_);(refine jG (aa 20 255) 4 rfl (af rfl) ?_);(refine jG (aa 20 511) 8 rfl (aj rfl rfl aS rfl rfl) ?_);(refine jG (aa 20 1023) 9 rfl (af rfl) ?_);refine jT 8 [10,11] (aa 20 4095) ?_;(try ((refine Nx.re (d:=72) (v':=Bo false) rfl (congrArg Value.bool (aG oM)) ?_)));refine jT 5 [12,13,14] (aa 20 32767) ?_;(refine jN (aa 20 65535) 15 rfl ?_);(refine jN (aa 20 131071) 16 rfl ?_);refine jT 2 [17] (aa 20 262143) ?_;(refine jG (aa 20 524287) 18 rfl (bm rfl rfl rfl) ?_);refine jT 0 [19] (aa 20 1048575) ?_;refine jQ ?_))
   all_goals refine jY (vs:=[_]) ?_
   all_goals (rfl)
 ·have hk0 : bt (63 :: r) (Int.toNat 0) = 63:=bj 63 r
  have hkl : (63 :: r).length = r.length + 1:=rfl
  have e : cR a b = decide (a.kids.length = b.kids.length ∧ 0 < a.kids.length):=by unfold cR;rw [if_neg oM,if_neg oM,if_pos oM]
  rw [e]
  clear e
  by_cases hl : a.kids.length = b.kids.length
  ·by_cases h0 : 0 < a.kids.length
   ·rw [decide_eq_true ⟨hl,h0⟩]
    refine jE [(0,_),(1,_)] Tryz.func61 Tryz.ntmps61 fun B hB=>?_
    repeat' (first | refine jM ?_ | (refine jo ?_;first | refine jV (aj rfl rfl aS rfl rfl) ?_ | refine aC rfl ?_) | refine ar rfl rfl rfl ?_ | refine ac rfl rfl ?_ | refine ad rfl rfl ?_ | (refine am (ao (id:=6) _ (fun _ h=>h) al ?_);refine jT 14 [0,1,2,5,6,7] (aa 20 231) ?_;(refine jG (aa 20 239) 3 rfl (aj rfl rfl aS rfl rfl) ?_);(refine jG (aa 20 255) 4 rfl (af rfl) ?_);(refine jG (aa 20 511) 8 rfl (aj rfl rfl aS rfl rfl) ?_);(refine jG (aa 20 1023) 9 rfl (af rfl) ?_);refine jT 8 [10,11] (aa 20 4095) ?_;(try ((refine Nx.re (d:=72) (v':=Bo true) rfl (congrArg Value.bool (ay oM)) ?_)));refine jT 5 [12,13,14] (aa 20 32767) ?_;(refine jG (aa 20 65535) 15 rfl (aj rfl rfl aS rfl rfl) ?_);(refine jG (aa 20 131071) 16 rfl (af rfl) ?_);refine jT 2 [17] (aa 20 262143) ?_;(refine jG (aa 20 524287) 18 rfl (bO rfl rfl rfl) ?_);refine jT 0 [19] (aa 20 1048575) ?_;refine jQ ?_))
    all_goals refine jY (vs:=[_]) ?_
    all_goals (rw [aP];simp_all;done)
   ·rw [decide_eq_false (fun h=>h0 h.2)]
    refine jE [(0,_),(1,_)] Tryz.func61 Tryz.ntmps61 fun B hB=>?_
    repeat' (first | refine jM ?_ | (refine jo ?_;first | refine jV (aj rfl rfl aS rfl rfl) ?_ | refine aC rfl ?_) | refine ar rfl rfl rfl ?_ | refine ac rfl rfl ?_ | refine ad rfl rfl ?_ | (refine am (ao (id:=6) _ (fun _ h=>h) al ?_);refine jT 14 [0,1,2,5,6,7] (aa 20 231) ?_;(refine jG (aa 20 239) 3 rfl (aj rfl rfl aS rfl rfl) ?_);(refine jG (aa 20 255) 4 rfl (af rfl) ?_);(refine jG (aa 20 511) 8 rfl (aj rfl rfl aS rfl rfl) ?_);(refine jG (aa 20 1023) 9 rfl (af rfl) ?_);refine jT 8 [10,11] (aa 20 4095) ?_;(try ((refine Nx.re (d:=72) (v':=Bo true) rfl (congrArg Value.bool (ay oM)) ?_)));refine jT 5 [12,13,14] (aa 20 32767) ?_;(refine jG (aa 20 65535) 15 rfl (aj rfl rfl aS rfl rfl) ?_);(refine jG (aa 20 131071) 16 rfl (af rfl) ?_);refine jT 2 [17] (aa 20 262143) ?_;(refine jG (aa 20 524287) 18 rfl (bO rfl rfl rfl) ?_);refine jT 0 [19] (aa 20 1048575) ?_;refine jQ ?_))
    all_goals refine jY (vs:=[_]) ?_
    all_goals (rw [aP];simp_all;done)
  ·rw [decide_eq_false (fun h=>hl h.1)]
   refine jE [(0,_),(1,_)] Tryz.func61 Tryz.ntmps61 fun B hB=>?_
   repeat' (first | refine jM ?_ | (refine jo ?_;first | refine jV (aj rfl rfl aS rfl rfl) ?_ | refine aC rfl ?_) | refine ar rfl rfl rfl ?_ | refine ac rfl rfl ?_ | refine ad rfl rfl ?_ | (refine am (ao (id:=6) _ (fun _ h=>h) al ?_);refine jT 14 [0,1,2,5,6,7] (aa 20 231) ?_;(refine jG (aa 20 239) 3 rfl (aj rfl rfl aS rfl rfl) ?_);(refine jG (aa 20 255) 4 rfl (af rfl) ?_);(refine jG (aa 20 511) 8 rfl (aj rfl rfl aS rfl rfl) ?_);(refine jG (aa 20 1023) 9 rfl (af rfl) ?_);refine jT 8 [10,11] (aa 20 4095) ?_;(try ((refine Nx.re (d:=72) (v':=Bo false) rfl (congrArg Value.bool (aG oM)) ?_)));refine jT 5 [12,13,14] (aa 20 32767) ?_;(refine jN (aa 20 65535) 15 rfl ?_);(refine jN (aa 20 131071) 16 rfl ?_);refine jT 2 [17] (aa 20 262143) ?_;(refine jG (aa 20 524287) 18 rfl (bm rfl rfl rfl) ?_);refine jT 0 [19] (aa 20 1048575) ?_;refine jQ ?_))
   all_goals refine jY (vs:=[_]) ?_
   all_goals (rfl)
 ·have e : cR a b = false:=by unfold cR;rw [if_neg oM,if_neg oM,if_neg oM]
  rw [e]
  rcases hk with rfl | rfl | rfl
  all_goals
   refine jE [(0,_),(1,_)] Tryz.func61 Tryz.ntmps61 fun B hB=>?_
   repeat' (first | refine jX ?_ | (refine jo ?_;first | refine jV (aj rfl rfl aS rfl rfl) ?_ | refine aC rfl ?_) | refine ar rfl rfl rfl ?_ | refine ad rfl rfl ?_)
   all_goals refine jY (vs:=[_]) ?_
   all_goals rfl
variable {G : Gh}
def gK (p : Int → Bool) (m : Nat) : List Int:=((List.range m).map fun i : Nat=>(i : Int) + 1).filter p
theorem r5 (p : Int → Bool) (m : Nat) : gK p (m + 1) = gK p m ++ if p ((m : Int) + 1) = true then [(m : Int) + 1] else []:=by
 unfold gK
 rw [List.range_succ,List.map_append,List.filter_append]
 congr 1
 simp only [List.map_cons,List.map_nil]
 by_cases h : p ((m : Int) + 1) = true
 ·rw [if_pos h,List.filter_cons_of_pos h,List.filter_nil]
 ·rw [if_neg h,List.filter_cons_of_neg h,List.filter_nil]
theorem zk (p : Int → Bool) (m : Nat) : (gK p m).length ≤ m:=by
 unfold gK
 refine Nat.le_trans (List.length_filter_le _ _) ?_
 simp
def n0 (m : Nat) : List Int:=(List.range m).map fun i : Nat=>(i : Int)
theorem xx (m : Nat) : n0 (m + 1) = n0 m ++ [(m : Int)]:=by unfold n0;rw [List.range_succ,List.map_append];rfl
theorem zj (m : Nat) : (n0 m).length = m:=by unfold n0;simp
theorem zJ {a b : List Int} {n : Int} : (a ++ b).contains n = true ↔ (∃ i,i < a.length ∧ ab a i = n) ∨ ∃ i,i < b.length ∧ ab b i = n:=by
 rw [List.contains_iff_mem,List.mem_append]
 constructor
 ·rintro (h | h)
  ·obtain ⟨i,hi,e⟩:=List.mem_iff_getElem.1 h
   exact .inl ⟨i,hi,by rw [aA hi];exact e⟩
  ·obtain ⟨i,hi,e⟩:=List.mem_iff_getElem.1 h
   exact .inr ⟨i,hi,by rw [aA hi];exact e⟩
 ·rintro (⟨i,hi,e⟩ | ⟨i,hi,e⟩)
  ·exact .inl (by rw [← e];exact bc hi)
  ·exact .inr (by rw [← e];exact bc hi)
abbrev se : TypeId:=3
theorem vX {ts : List Ty} {k : adA} {a b : V} {ba bb : Nat} (ha : RepR G ts a k ba) (hb : RepR G ts b k bb) (oa : OfK ts k a) (ob : OfK ts k b) (ht : a.tot ≤ 100000 ∧ b.tot ≤ 100000) (hd : cR a b = true) :
  bB adz 62 [Pt ba 0,Pt bb 0] G (fun v G'=>∃ p c,v = .slice p (be a b).length c ∧ aU G' (.slice p (be a b).length c) 1 (be a b).length (ak cH (be a b))):=by
 have hwh:=wc oa ob
 obtain ⟨tx,a1,c1,a2,c2,hsa,hta,hca⟩:=lZ ha
 obtain ⟨ty,b1,d1,b2,d2,hsb,htb,hcb⟩:=lZ hb
 have kid : (a.what = 91 ∨ a.what = 63) → ∀ c r,k = c :: r → c.toNat ≠ 64 → bB adz 62 [Pt ba 0,Pt bb 0] G (fun v G'=>∃ p c,v = .slice p (be a b).length c ∧ aU G' (.slice p (be a b).length c) 1 (be a b).length (ak cH (be a b))):=fun hw c r hk hc=>by
  subst hk
  have hk0 : bt (c :: r) (Int.toNat 0) = c.toNat:=bj c r
  have hkl : (c :: r).length = r.length + 1:=rfl
  have hlk : 20 * a.kids.length ≤ a.tot:=by
   obtain ⟨w1,x,t,ks⟩:=a
   rw [bA,V.kids]
   have:=di ks
   omega
  have e : be a b = n0 a.kids.length:=by unfold be;rw [if_pos hw];rfl
  rw [e,zj]
  refine jB [(0,_),(1,_)] Tryz.func62 Tryz.ntmps62 fun B hok hB hW=>?_
  repeat' (first | refine jM ?_ | (refine jo ?_;first | refine jF fun _=>?_ | refine jV (aj rfl rfl aS rfl rfl) ?_) | refine ac rfl (ay oM) ?_)
  rename_i y
  refine Nx.blkAcc (m:=0) (sz:=1) .here rfl ?_
  refine aT (ι:=Nat × Option Addr × Nat) (fun i=>i.1 ≤ a.kids.length) (fun i=>[(0,Pt ba 0),(5,.slice i.2.1 i.1 i.2.2),(6,I i.1)]) (fun _=>G) (fun i=>[.acc (.slice i.2.1 i.1 i.2.2) se 1 i.1 (ak cH (n0 i.1))]) (fun i=>a.kids.length - i.1) (0,some ⟨y,0,none⟩,0) ?_ tU rfl a7 (fun i Hi=>?_)
  ·exact Nat.zero_le _
  obtain ⟨i,p,cap⟩:=i
  dsimp only at Hi ⊢
  have hrow : ak cH (n0 (i + 1)) = ak cH (n0 i) ++ [I (i : Nat)]:=by rw [xx];exact bR cH (n0 i) _
  by_cases hi : i < a.kids.length
  ·repeat' (first | refine jM ?_ | (refine jo ?_;first | refine jF fun _=>?_ | refine jV (aj rfl rfl aS rfl rfl) ?_ | refine jV (af rfl) ?_ | refine bD rfl rfl rfl rfl rfl rfl rfl rfl rfl oM fun _ _=>?_) | refine ac rfl (ay oM) ?_)
   rename_i y1 av cv
   exact bh (i + 1,some ⟨av,0,none⟩,cv) (by dsimp only;omega) (by dsimp only;omega) tU rfl (by dsimp only;rw [hrow];repeat (first | exact List.nil_sublist _ | apply List.Sublist.cons_cons))
  ·obtain rfl : i = a.kids.length:=oM
   repeat' (first | refine jR ?_ | (refine jo ?_;first | refine jV (aj rfl rfl aS rfl rfl) ?_ | refine jV (af rfl) ?_) | refine ad rfl (aG oM) ?_)
   refine Nx.sealS (v:=.slice p a.kids.length cap) fun G2 hG2 hsl=>?_
   refine jZ (vs:=[_]) rfl ⟨rfl,trivial⟩ rfl ⟨hG2,rfl,?_⟩
   exact ⟨_,_,rfl,hsl⟩
 rcases hca with ⟨⟨r,rfl⟩,h⟩ | ⟨⟨r,rfl⟩,h⟩ | ⟨⟨r,rfl⟩,h⟩ | ⟨hk,h⟩
 ·have hk0 : bt (64 :: r) (Int.toNat 0) = 64:=bj 64 r
  have hkl : (64 :: r).length = r.length + 1:=rfl
  have ta : im a = dM a:=by
   unfold cR at hd
   unfold im dM
   by_cases h1 : a.what = 82
   ·rw [if_pos h1,if_pos h1]
   ·by_cases h2 : a.what = 85
    ·rw [if_neg h1,if_neg h1,if_pos (.inl h2)]
    ·rw [if_neg h1,if_neg h2,if_neg oM] at hd;cases hd
  have tb2 : im b = dM b:=by
   unfold cR at hd
   unfold im dM
   by_cases h1 : a.what = 82
   ·have h1b:=hwh.symm.trans h1
    rw [if_pos h1b,if_pos h1b]
   ·by_cases h2 : a.what = 85
    ·have h2b:=hwh.symm.trans h2
     have h1b : ¬ b.what = 82:=oM
     rw [if_neg h1b,if_neg h1b,if_pos (.inl h2b)]
    ·rw [if_neg h1,if_neg h2,if_neg oM] at hd;cases hd
  have e : be a b = gK (fun n=>(dM a ++ dM b).contains n) 200:=by unfold be;rw [if_neg oM];rfl
  rw [e]
  have hla : (dM a).length ≤ 100000:=by
   obtain ⟨w1,x,t,ks⟩:=a
   rw [bA] at ht
   have:=di ks
   unfold dM
   rw [V.what,V.kids,V.tag]
   split
   ·rw [List.length_map];omega
   ·simp
  have hlb : (dM b).length ≤ 100000:=by
   obtain ⟨w1,x,t,ks⟩:=b
   rw [bA] at ht
   have:=di ks
   unfold dM
   rw [V.what,V.kids,V.tag]
   split
   ·rw [List.length_map];omega
   ·simp
  rw [ta] at hsa hta
  rw [tb2] at hsb htb
  clear ta tb2 kid e hd
  generalize hTa : dM a = ta at *
  generalize hTb : dM b = tb2 at *
  generalize hP : (fun n=>(ta ++ tb2).contains n) = pp
  have hpy : ∀ n,pp n = true ↔ (∃ i,i < ta.length ∧ ab ta i = n) ∨ ∃ i,i < tb2.length ∧ ab tb2 i = n:=fun n=>by rw [← hP];exact zJ
  refine jB [(0,_),(1,_)] Tryz.func62 Tryz.ntmps62 fun B hok hB hW=>?_
  repeat' (first | refine jM ?_ | (refine jo ?_;first | refine jF fun _=>?_ | refine jV (aj rfl rfl aS rfl rfl) ?_) | refine ad rfl rfl ?_)
  rename_i y
  refine Nx.blkAcc (m:=0) (sz:=1) .here rfl ?_
  refine aT (ι:=Nat × Option Addr × Nat) (fun i=>i.1 ≤ 200) (fun i=>[(0,Pt ba 0),(1,Pt bb 0),(5,.slice i.2.1 (gK pp i.1).length i.2.2),(7,I ((i.1 : Nat) + 1))]) (fun _=>G) (fun i=>[.acc (.slice i.2.1 (gK pp i.1).length i.2.2) se 1 (gK pp i.1).length (ak cH (gK pp i.1))]) (fun i=>200 - i.1) (0,some ⟨y,0,none⟩,0) ?_ tU rfl a7 (fun i Hi=>?_)
  ·exact Nat.zero_le _
  obtain ⟨m,p,cap⟩:=i
  dsimp only at Hi ⊢
  have hml:=zk pp m
  by_cases hm : m < 200
  ·repeat' (first | refine jR ?_ | refine ac rfl (ay oM) ?_)
   refine aT (ι:=Nat) (fun j=>j ≤ ta.length + tb2.length ∧ (∀ i,i < j → i < ta.length → ab ta i ≠ (m : Int) + 1) ∧ ∀ i,ta.length + i < j → ab tb2 i ≠ (m : Int) + 1) (fun j=>[(0,Pt ba 0),(1,Pt bb 0),(5,.slice p (gK pp m).length cap),(7,I ((m : Nat) + 1)),(8,I j)]) (fun _=>G) (fun j=>[.acc (.slice p (gK pp m).length cap) se 1 (gK pp m).length (ak cH (gK pp m))]) (fun j=>ta.length + tb2.length - j) 0 ?_ tU rfl a7 (fun j Hj=>?_)
   ·exact ⟨Nat.zero_le _,fun i h=>absurd h (Nat.not_lt_zero _),fun i h=>absurd h (Nat.not_lt_zero _)⟩
   obtain ⟨hj0,hj1,hj2⟩:=Hj
   have hrow1 : pp ((m : Int) + 1) = true → ak cH (gK pp (m + 1)) = ak cH (gK pp m) ++ [I ((m : Nat) + 1)] ∧ (gK pp (m + 1)).length = (gK pp m).length + 1:=fun h=>by
    rw [r5,if_pos h]
    exact ⟨bR cH (gK pp m) _,by rw [List.length_append];rfl⟩
   have hrow0 : ¬ pp ((m : Int) + 1) = true → gK pp (m + 1) = gK pp m:=fun h=>by rw [r5,if_neg h,List.append_nil]
   by_cases hj : j < ta.length + tb2.length
   ·by_cases h1 : j < ta.length
    ·obtain ⟨xb,xo,xc,e1,hxa⟩:=hta.expl oM
     simp only [Value.slice.injEq] at e1
     obtain ⟨rfl,-,rfl⟩:=e1
     have hti : ab ta j = ab ta j:=rfl
     by_cases h2 : ab ta j = (m : Int) + 1
     ·obtain ⟨f1,f2⟩:=hrow1 ((hpy _).2 (.inl ⟨j,h1,h2⟩))
      repeat' (first | refine jM ?_ | (refine jo ?_;first | refine jF fun _=>?_ | refine bD rfl rfl rfl rfl rfl rfl rfl rfl rfl oM fun _ _=>?_) | (refine ac rfl (by first | rfl | (refine decide_eq_true ?_;(omega))) ?_) | (refine am (ao (id:=12) _ (fun _ h=>h) al ?_);refine jT 6 [0,1,2,3,6,7,8] (aa 13 463) ?_;(refine jG (aa 13 479) 4 rfl (aj rfl rfl aS rfl rfl) ?_);(refine jG (aa 13 511) 5 rfl (af rfl) ?_);(refine jG (aa 13 1023) 9 rfl (aj rfl rfl aS rfl rfl) ?_);(refine jG (aa 13 2047) 10 rfl (af rfl) ?_);refine jW 0 [11,12] (aa 13 8191) ?_;refine jQ ?_) | (refine am (ao (id:=14) _ (fun _ h=>h) al ?_);refine jT 40 [0,1,2,3] (aa 44 15) ?_;(refine jG (aa 44 31) 4 rfl (aj rfl rfl aS rfl rfl) ?_);(refine jG (aa 44 63) 5 rfl (af rfl) ?_);refine jT 36 [6,7] (aa 44 255) ?_;(try ((refine Nx.re (d:=56) (v':=Bo true) rfl (congrArg Value.bool (ay oM)) ?_)));refine jT 31 [8,9,10,12,15] (aa 44 38911) ?_;(refine jG (aa 44 40959) 11 rfl (aj rfl rfl aS rfl rfl) ?_);(refine jG (aa 44 49151) 13 rfl (ag rfl rfl oM) ?_);((refine jG (aa 44 65535) 14 rfl (bW rfl rfl aS ?_ aS rfl) ?_;focus omega));refine jT 27 [16] (aa 44 131071) ?_;(refine jG (aa 44 262143) 17 rfl (bO rfl rfl rfl) ?_);refine jT 25 [18] (aa 44 524287) ?_;(try (refine Nx.re (d:=67) (v':=Bo true) rfl (congrArg Value.bool (ay rfl)) ?_));refine jT 21 [19,20,21,22] (aa 44 8388607) ?_;(refine jN (aa 44 16777215) 23 rfl ?_);(refine jN (aa 44 33554431) 24 rfl ?_);refine jT 17 [25,26] (aa 44 134217727) ?_;(try (fail));refine jT 9 [27,28,29,31,32,33,34,40] (aa 44 1132797624319) ?_;(refine jN (aa 44 1133871366143) 30 rfl ?_);(refine jN (aa 44 1168231104511) 35 rfl ?_);(refine jN (aa 44 1236950581247) 36 rfl ?_);refine jT 5 [37] (aa 44 1374389534719) ?_;(refine jN (aa 44 1649267441663) 38 rfl ?_);(refine jN (aa 44 2199023255551) 39 rfl ?_);refine jT 2 [41] (aa 44 4398046511103) ?_;(refine jN (aa 44 8796093022207) 42 rfl ?_);(refine jG (aa 44 17592186044415) 43 rfl (bO rfl rfl rfl) ?_);refine jQ ?_))
      rename_i y1 b' c'
      exact bh (m + 1,some ⟨b',0,none⟩,c') (by dsimp only;omega) (by dsimp only;omega) (by dsimp only;rw [f2];repeat (first | exact trivial | refine ⟨rfl,?_⟩)) rfl (by dsimp only;rw [f1,f2];repeat (first | exact List.nil_sublist _ | apply List.Sublist.cons_cons))
     ·repeat' (first | refine jM ?_ | refine ac rfl (ay oM) ?_ | refine ad rfl rfl ?_ | (refine am (ao (id:=12) _ (fun _ h=>h) al ?_);refine jT 6 [0,1,2,3,6,7,8] (aa 13 463) ?_;(refine jG (aa 13 479) 4 rfl (aj rfl rfl aS rfl rfl) ?_);(refine jG (aa 13 511) 5 rfl (af rfl) ?_);(refine jG (aa 13 1023) 9 rfl (aj rfl rfl aS rfl rfl) ?_);(refine jG (aa 13 2047) 10 rfl (af rfl) ?_);refine jW 0 [11,12] (aa 13 8191) ?_;refine jQ ?_) | (refine am (ao (id:=14) _ (fun _ h=>h) al ?_);refine jT 40 [0,1,2,3] (aa 44 15) ?_;(refine jG (aa 44 31) 4 rfl (aj rfl rfl aS rfl rfl) ?_);(refine jG (aa 44 63) 5 rfl (af rfl) ?_);refine jT 36 [6,7] (aa 44 255) ?_;(try ((refine Nx.re (d:=56) (v':=Bo true) rfl (congrArg Value.bool (ay oM)) ?_)));refine jT 31 [8,9,10,12,15] (aa 44 38911) ?_;(refine jG (aa 44 40959) 11 rfl (aj rfl rfl aS rfl rfl) ?_);(refine jG (aa 44 49151) 13 rfl (ag rfl rfl oM) ?_);((refine jG (aa 44 65535) 14 rfl (bW rfl rfl aS ?_ aS rfl) ?_;focus omega));refine jT 27 [16] (aa 44 131071) ?_;(refine jG (aa 44 262143) 17 rfl (bO rfl rfl rfl) ?_);refine jT 25 [18] (aa 44 524287) ?_;(try (refine Nx.re (d:=67) (v':=Bo false) rfl (congrArg Value.bool (aG ‹_›)) ?_));refine jT 21 [19,20,21,22] (aa 44 8388607) ?_;(refine jG (aa 44 16777215) 23 rfl (aj rfl rfl aS rfl rfl) ?_);(refine jG (aa 44 33554431) 24 rfl (af rfl) ?_);refine jT 17 [25,26] (aa 44 134217727) ?_;(try ((refine Nx.re (d:=75) (v':=Bo false) rfl (congrArg Value.bool (aG oM)) ?_)));refine jT 9 [27,28,29,31,32,33,34,40] (aa 44 1132797624319) ?_;(refine jN (aa 44 1133871366143) 30 rfl ?_);(refine jN (aa 44 1168231104511) 35 rfl ?_);(refine jN (aa 44 1236950581247) 36 rfl ?_);refine jT 5 [37] (aa 44 1374389534719) ?_;(refine jN (aa 44 1649267441663) 38 rfl ?_);(refine jN (aa 44 2199023255551) 39 rfl ?_);refine jT 2 [41] (aa 44 4398046511103) ?_;(refine jG (aa 44 8796093022207) 42 rfl (bm rfl rfl rfl) ?_);(refine jG (aa 44 17592186044415) 43 rfl (bm rfl rfl rfl) ?_);refine jQ ?_))
      exact bh (j + 1) ⟨oM,fun i hi hi2=>by
       rcases Nat.lt_or_ge i j with h | h
       ·exact hj1 i h hi2
       ·obtain rfl : i = j:=oM
        exact h2,fun i hi=>by omega⟩ oM tU rfl a7
    ·obtain ⟨i,rfl⟩ : ∃ i,j = ta.length + i:=⟨j - ta.length,oM⟩
     obtain ⟨xb,xo,xc,e1,hxb⟩:=htb.expl oM
     simp only [Value.slice.injEq] at e1
     obtain ⟨rfl,-,rfl⟩:=e1
     have hix : (((ta.length + i : Nat) : Int) - (ta.length : Nat)).toNat = i:=oM
     by_cases h2 : ab tb2 (((ta.length + i : Nat) : Int) - ((ta.length : Nat) : Int)).toNat = (m : Int) + 1
     ·obtain ⟨f1,f2⟩:=hrow1 ((hpy _).2 (.inr ⟨i,oM,by rw [← hix];exact h2⟩))
      repeat' (first | refine jM ?_ | (refine jo ?_;first | refine jF fun _=>?_ | refine bD rfl rfl rfl rfl rfl rfl rfl rfl rfl oM fun _ _=>?_) | (refine ac rfl (by refine decide_eq_true ?_;first | rfl | omega) ?_) | (refine am (ao (id:=12) _ (fun _ h=>h) al ?_);refine jT 6 [0,1,2,3,6,7,8] (aa 13 463) ?_;(refine jG (aa 13 479) 4 rfl (aj rfl rfl aS rfl rfl) ?_);(refine jG (aa 13 511) 5 rfl (af rfl) ?_);(refine jG (aa 13 1023) 9 rfl (aj rfl rfl aS rfl rfl) ?_);(refine jG (aa 13 2047) 10 rfl (af rfl) ?_);refine jW 0 [11,12] (aa 13 8191) ?_;refine jQ ?_) | (refine am (ao (id:=14) _ (fun _ h=>h) al ?_);refine jT 40 [0,1,2,3] (aa 44 15) ?_;(refine jG (aa 44 31) 4 rfl (aj rfl rfl aS rfl rfl) ?_);(refine jG (aa 44 63) 5 rfl (af rfl) ?_);refine jT 36 [6,7] (aa 44 255) ?_;(try ((refine Nx.re (d:=56) (v':=Bo false) rfl (congrArg Value.bool (aG oM)) ?_)));refine jT 31 [8,9,10,12,15] (aa 44 38911) ?_;(refine jN (aa 44 40959) 11 rfl ?_);(refine jN (aa 44 49151) 13 rfl ?_);(refine jN (aa 44 65535) 14 rfl ?_);refine jT 27 [16] (aa 44 131071) ?_;(refine jG (aa 44 262143) 17 rfl (bm rfl rfl rfl) ?_);refine jT 25 [18] (aa 44 524287) ?_;(try (refine Nx.re (d:=67) (v':=Bo false) rfl (congrArg Value.bool rfl) ?_));refine jT 21 [19,20,21,22] (aa 44 8388607) ?_;(refine jG (aa 44 16777215) 23 rfl (aj rfl rfl aS rfl rfl) ?_);(refine jG (aa 44 33554431) 24 rfl (af rfl) ?_);refine jT 17 [25,26] (aa 44 134217727) ?_;(try ((refine Nx.re (d:=75) (v':=Bo true) rfl (congrArg Value.bool (ay oM)) ?_)));refine jT 9 [27,28,29,31,32,33,34,40] (aa 44 1132797624319) ?_;(refine jG (aa 44 1133871366143) 30 rfl (aj rfl rfl aS rfl rfl) ?_);(refine jG (aa 44 1168231104511) 35 rfl (aj rfl rfl aS rfl rfl) ?_);(refine jG (aa 44 1236950581247) 36 rfl (af rfl) ?_);refine jW 5 [37] (aa 44 1374389534719) ?_;(refine jG (aa 44 1649267441663) 38 rfl (aN rfl rfl oM) ?_);((refine jG (aa 44 2199023255551) 39 rfl (bW rfl rfl aS ?_ aS rfl) ?_;focus omega));refine jT 2 [41] (aa 44 4398046511103) ?_;(refine jG (aa 44 8796093022207) 42 rfl (bO rfl rfl rfl) ?_);(refine jG (aa 44 17592186044415) 43 rfl (bm rfl rfl rfl) ?_);refine jQ ?_))
      rename_i y1 b' c'
      exact bh (m + 1,some ⟨b',0,none⟩,c') (by dsimp only;omega) (by dsimp only;omega) (by dsimp only;rw [f2];repeat (first | exact trivial | refine ⟨rfl,?_⟩)) rfl (by dsimp only;rw [f1,f2];repeat (first | exact List.nil_sublist _ | apply List.Sublist.cons_cons))
     ·have htj : ab tb2 (((ta.length + i : Nat) : Int) - ((ta.length : Nat) : Int)).toNat = ab tb2 (((ta.length + i : Nat) : Int) - ((ta.length : Nat) : Int)).toNat:=rfl
      repeat' (first | refine jM ?_ | refine ac rfl (ay oM) ?_ | refine ad rfl (aG ‹_›) ?_ | (refine am (ao (id:=12) _ (fun _ h=>h) al ?_);refine jT 6 [0,1,2,3,6,7,8] (aa 13 463) ?_;(refine jG (aa 13 479) 4 rfl (aj rfl rfl aS rfl rfl) ?_);(refine jG (aa 13 511) 5 rfl (af rfl) ?_);(refine jG (aa 13 1023) 9 rfl (aj rfl rfl aS rfl rfl) ?_);(refine jG (aa 13 2047) 10 rfl (af rfl) ?_);refine jW 0 [11,12] (aa 13 8191) ?_;refine jQ ?_) | (refine am (ao (id:=14) _ (fun _ h=>h) al ?_);refine jT 40 [0,1,2,3] (aa 44 15) ?_;(refine jG (aa 44 31) 4 rfl (aj rfl rfl aS rfl rfl) ?_);(refine jG (aa 44 63) 5 rfl (af rfl) ?_);refine jT 36 [6,7] (aa 44 255) ?_;(try ((refine Nx.re (d:=56) (v':=Bo false) rfl (congrArg Value.bool (aG oM)) ?_)));refine jT 31 [8,9,10,12,15] (aa 44 38911) ?_;(refine jN (aa 44 40959) 11 rfl ?_);(refine jN (aa 44 49151) 13 rfl ?_);(refine jN (aa 44 65535) 14 rfl ?_);refine jT 27 [16] (aa 44 131071) ?_;(refine jG (aa 44 262143) 17 rfl (bm rfl rfl rfl) ?_);refine jT 25 [18] (aa 44 524287) ?_;(try (refine Nx.re (d:=67) (v':=Bo false) rfl (congrArg Value.bool rfl) ?_));refine jT 21 [19,20,21,22] (aa 44 8388607) ?_;(refine jG (aa 44 16777215) 23 rfl (aj rfl rfl aS rfl rfl) ?_);(refine jG (aa 44 33554431) 24 rfl (af rfl) ?_);refine jT 17 [25,26] (aa 44 134217727) ?_;(try ((refine Nx.re (d:=75) (v':=Bo true) rfl (congrArg Value.bool (ay oM)) ?_)));refine jT 9 [27,28,29,31,32,33,34,40] (aa 44 1132797624319) ?_;(refine jG (aa 44 1133871366143) 30 rfl (aj rfl rfl aS rfl rfl) ?_);(refine jG (aa 44 1168231104511) 35 rfl (aj rfl rfl aS rfl rfl) ?_);(refine jG (aa 44 1236950581247) 36 rfl (af rfl) ?_);refine jW 5 [37] (aa 44 1374389534719) ?_;(refine jG (aa 44 1649267441663) 38 rfl (aN rfl rfl oM) ?_);((refine jG (aa 44 2199023255551) 39 rfl (bW rfl rfl aS ?_ aS rfl) ?_;focus omega));refine jT 2 [41] (aa 44 4398046511103) ?_;(refine jG (aa 44 8796093022207) 42 rfl (bO rfl rfl rfl) ?_);(refine jG (aa 44 17592186044415) 43 rfl (bm rfl rfl rfl) ?_);refine jQ ?_))
      exact bh (ta.length + i + 1) ⟨oM,fun i2 hi hi2=>hj1 i2 oM hi2,fun i2 hi=>by
       rcases Nat.lt_or_ge i2 i with h | h
       ·exact hj2 i2 oM
       ·obtain rfl : i2 = i:=oM
        rw [← hix];exact h2⟩ oM tU rfl a7
   ·have hno : ¬ pp ((m : Int) + 1) = true:=fun h=>by
     rcases (hpy _).1 h with ⟨i,hi,e⟩ | ⟨i,hi,e⟩
     ·exact hj1 i oM hi e
     ·exact hj2 i oM e
    have f0:=hrow0 hno
    repeat' (first | refine jM ?_ | refine ad rfl (aG oM) ?_ | (refine am (ao (id:=12) _ (fun _ h=>h) al ?_);refine jT 6 [0,1,2,3,6,7,8] (aa 13 463) ?_;(refine jG (aa 13 479) 4 rfl (aj rfl rfl aS rfl rfl) ?_);(refine jG (aa 13 511) 5 rfl (af rfl) ?_);(refine jG (aa 13 1023) 9 rfl (aj rfl rfl aS rfl rfl) ?_);(refine jG (aa 13 2047) 10 rfl (af rfl) ?_);refine jW 0 [11,12] (aa 13 8191) ?_;refine jQ ?_))
    exact bh (m + 1,p,cap) (by dsimp only;omega) (by dsimp only;omega) (by dsimp only;rw [f0];repeat (first | exact trivial | refine ⟨rfl,?_⟩)) rfl (by dsimp only;rw [f0];repeat (exact List.Sublist.refl _))
  ·obtain rfl : m = 200:=oM
   repeat' (first | refine jR ?_ | refine ad rfl rfl ?_)
   refine Nx.sealS (v:=.slice p (gK pp 200).length cap) fun G2 hG2 hsl=>?_
   refine jZ (vs:=[_]) rfl ⟨rfl,trivial⟩ rfl ⟨hG2,rfl,?_⟩
   exact ⟨_,_,rfl,hsl⟩
 ·exact kid (.inl h) _ _ rfl dC
 ·exact kid (.inr h) _ _ rfl dC
 ·exfalso
  unfold cR at hd
  rw [if_neg oM,if_neg oM,if_neg oM] at hd
  cases hd
theorem uR {ts : List Ty} (hw : SchW ts) {k : adA} {v : V} (h : OfK ts k v) (hf : v.deep ≤ 12 ∧ v.out.length ≤ 400) : v.tot ≤ 40000:=by
 have:=gt _ _ _ _ (wr hw h hf.1)
 dsimp only at this
 omega
def stD (ts : List Ty) (n : Nat) (k : adA) (a b : V) (q : List Int) (i : Int) : List (List Int × V):=match aE ts k a i,aE ts k b i with
 | some y,some z=>cA ts n y.1 y.2 z.2 (q ++ [i])
 | _,_=>[]
def ed (ts : List Ty) (n : Nat) (k : adA) (a b : V) (q : List Int) (i : Nat) : List (List Int × V):=((be a b).take i).flatMap (stD ts n k a b q)
theorem zz {ts : List Ty} {n : Nat} {k : adA} {a b : V} {q : List Int} (h1 : ¬ a.out = b.out) (h2 : cR a b = true) : cA ts (n + 1) k a b q = ed ts n k a b q (be a b).length:=by
 rw [cA,if_neg h1,if_pos h2,ed,List.take_length]
 rfl
theorem xM {ts : List Ty} {n : Nat} {k : adA} {a b : V} {q : List Int} {i : Nat} (hi : i < (be a b).length) {k1 : adA} {y z : V} (e1 : aE ts k a (ab (be a b) i) = some (k1,y)) (e2 : aE ts k b (ab (be a b) i) = some (k1,z)) :
  ed ts n k a b q (i + 1) = ed ts n k a b q i ++ cA ts n k1 y z (q ++ [ab (be a b) i]):=by
 unfold ed
 rw [co hi,List.flatMap_append,List.flatMap_singleton]
 congr 1
 unfold stD
 rw [e1,e2]
theorem aaZ {ts : List Ty} {n : Nat} {k : adA} {a b : V} {q : List Int} (i : Nat) : (ed ts n k a b q i).length ≤ (ed ts n k a b q (be a b).length).length:=by
 unfold ed
 rw [List.take_length]
 conv=>rhs;rw [← List.take_append_drop i (be a b),List.flatMap_append,List.length_append]
 omega
theorem wm {ts : List Ty} {k : adA} {a b : V} (ha : OfK ts k a) : (be a b).length ≤ 200:=by
 have hk : (a.what = 91 ∨ a.what = 63) → a.kids.length ≤ 20:=fun hwh=>by
  cases ha with
  | num=>rw [V.what] at hwh;omega
  | txt=>rw [V.what] at hwh;omega
  | flg=>rw [V.what] at hwh;omega
  | lst k ks h1 h2=>exact h1
  | non=>exact Nat.zero_le _
  | opt=>exact (by decide : (1 : Nat) ≤ 20)
  | recd=>rw [V.what] at hwh;omega
  | enm=>rw [V.what] at hwh;omega
  | uni=>rw [V.what] at hwh;omega
 unfold be
 split
 ·rename_i h
  have:=hk h
  simp
  omega
 ·refine Nat.le_trans (List.length_filter_le _ _) ?_
  simp
abbrev lR : TypeId:=48
theorem aas {vs : List cy} (hw : SchW (ah vs)) : ∀ (n : Nat) {G : Gh} {u : Value} (_ : SchR G u vs) {k : adA} {a b : V} {ba bb : Nat} (_ : RepR G (ah vs) a k ba) (_ : RepR G (ah vs) b k bb) (_ : OfK (ah vs) k a) (_ : OfK (ah vs) k b) (_ : aB (ah vs) k = true) (_ : a.deep ≤ 12 ∧ a.out.length ≤ 400) (_ : b.deep ≤ 12 ∧ b.out.length ≤ 400) (_ : lz (ah vs) n k a b)
  {q : List Int} (_ : ∀ n ∈ q,0 ≤ n ∧ n ≤ 999999) (_ : q.length + n ≤ 1000) {p0 : Option Addr} {m cap : Nat} {out : List Ch} (_ : m = out.length) (_ : m + (cA (ah vs) n k a b q).length ≤ 1000000),
  fK adz 37 [u,Pt ba 0,Pt bb 0,S (aR q),.slice p0 m cap] G [.acc (.slice p0 m cap) lR 2 m (ak dO out)]
   (fun r _ L'=>∃ p' cap',r = .slice p' (m + (cA (ah vs) n k a b q).length) cap' ∧ L' = [.acc (.slice p' (m + (cA (ah vs) n k a b q).length) cap') lR 2 (m + (cA (ah vs) n k a b q).length) (ak dO (out ++ (cA (ah vs) n k a b q).map e7))]):=by
 intro n
 induction n with
 | zero =>
  intro G u h k a b ba bb ha hb oa ob hk fa fb hl
  exact hl.elim
 | succ n ih =>
  intro G u h k a b ba bb ha hb oa ob hk fa fb hl q hq hql p0 m cap out hm hmx
  have hu:=h.sl.one
  obtain ⟨ua,uc,rfl⟩:=h.sl.sl
  have hta:=uR hw oa fa
  have htb:=uR hw ob fb
  have hpl:=dK hq
  have hstl:=wm (b:=b) oa
  by_cases ho : a.out = b.out
  ·have e : cA (ah vs) (n + 1) k a b q = []:=by rw [cA,if_pos ho]
   rw [e]
   simp only [List.length_nil,Nat.add_zero,List.map_nil,List.append_nil]
   refine bY [(0,_),(1,_),(2,_),(3,_),(4,_)] Tryz.func37 kR Tryz.ntmps37 rfl rfl tU fun B hB hW=>?_
   have cx_out:=fP hw ha oM
   repeat' (first | refine jR ?_ | (refine jo ?_;refine ae rfl rfl rfl cx_out rfl ?_))
   have cx_out:=fP hw hb oM
   repeat' (first | refine jR ?_ | (refine jo ?_;refine ae rfl rfl rfl cx_out rfl ?_) | refine ac rfl (ay ‹_›) ?_)
   exact aW (vs:=[_]) rfl ⟨rfl,trivial⟩ rfl a7 ⟨Gh.le.refl _,_,_,rfl,rfl⟩
  by_cases hd : cR a b = true
  ·have e:=zz (ts:=ah vs) (n:=n) (k:=k) (q:=q) ho hd
   rw [e] at hmx ⊢
   have cx_dp:=rO ha hb oa ob
   rw [hd] at cx_dp
   have cx_stp:=vX ha hb oa ob oM hd
   have hSq:=h
   have hra:=ha
   have hrb:=hb
   refine bY [(0,_),(1,_),(2,_),(3,_),(4,_)] Tryz.func37 kR Tryz.ntmps37 rfl rfl tU fun B hB hW=>?_
   have cx_out:=fP hw ha oM
   repeat' (first | refine jR ?_ | (refine jo ?_;refine ae rfl rfl rfl cx_out rfl ?_))
   have cx_out:=fP hw hb oM
   repeat' (first | refine jR ?_ | (refine jo ?_;first | refine jV (af rfl) ?_ | refine ae rfl rfl rfl cx_out rfl ?_ | refine ae rfl rfl rfl cx_dp rfl ?_ | (refine an rfl rfl rfl cx_stp rfl ?_;rintro _ G hle ⟨sp,sc,rfl,hst⟩;(try have hSq:=SchR.mono hSq hle);(try have hra:=RepR.mono hle hra);(try have hrb:=RepR.mono hle hrb);(try have hrep1:=RepR.mono hle hrep1);(try have hrepy:=RepR.mono hle hrepy);(try have hgq:=Gh.le.trans hgq hle))) | (refine ad rfl (by first | rfl | (refine decide_eq_false ?_;(assumption))) ?_))
   have hle0:=hle
   rw [show ak dO out = ak dO (out ++ (ed (ah vs) n k a b q 0).map e7) by rw [show ed (ah vs) n k a b q 0 = [] from rfl,List.map_nil,List.append_nil]]
   refine aT (ι:=Nat × Option Addr × Nat × Gh) (fun i=>i.1 ≤ (be a b).length ∧ Gh.le G i.2.2.2) (fun i=>[(0,.slice ua vs.length uc),(1,Pt ba 0),(2,Pt bb 0),(3,S (aR q)),(4,.slice i.2.1 (m + (ed (ah vs) n k a b q i.1).length) i.2.2.1),(36,.slice sp (be a b).length sc),(37,I (be a b).length),(38,I i.1)]) (fun i=>i.2.2.2) (fun i=>[.acc (.slice i.2.1 (m + (ed (ah vs) n k a b q i.1).length) i.2.2.1) lR 2 (m + (ed (ah vs) n k a b q i.1).length) (ak dO (out ++ (ed (ah vs) n k a b q i.1).map e7))]) (fun i=>(be a b).length - i.1) (0,p0,cap,G) ?_ tU rfl a7 (fun i Hi=>?_)
   ·exact ⟨Nat.zero_le _,Gh.le.refl _⟩
   obtain ⟨i,p,cap,Gq⟩:=i
   dsimp only at Hi ⊢
   obtain ⟨hi0,hgq⟩:=Hi
   by_cases hi : i < (be a b).length
   ·have hin:=bc hi
    obtain ⟨k1,y,z,e1,e2⟩:=(iA hw oa ob hk hd).1 _ hin
    have hi0:=mV oa hin
    obtain ⟨y1,y2⟩:=cL hw oa hk hi0.1 e1
    obtain ⟨z1,_⟩:=cL hw ob hk hi0.1 e2
    have fy:=io hw oa hk hi0.1 e1 fa.1 fa.2
    have fz:=io hw ob hk hi0.1 e2 fb.1 fb.2
    have hls : lz (ah vs) n k1 y z:=by
     rcases hl with h | h | h
     ·exact absurd h ho
     ·rw [hd] at h;cases h
     ·exact h _ hin (k1,y) (k1,z) e1 e2
    have hps:=xM (n:=n) (q:=q) hi e1 e2
    have hpe:=aaZ (ts:=ah vs) (n:=n) (k:=k) (a:=a) (b:=b) (q:=q) (i + 1)
    have hN1 : m + (ed (ah vs) n k a b q (i + 1)).length = m + (ed (ah vs) n k a b q i).length + (cA (ah vs) n k1 y z (q ++ [ab (be a b) i])).length:=by rw [hps,List.length_append,Nat.add_assoc]
    have hN2 : out ++ (ed (ah vs) n k a b q (i + 1)).map e7 = out ++ (ed (ah vs) n k a b q i).map e7 ++ (cA (ah vs) n k1 y z (q ++ [ab (be a b) i])).map e7:=by rw [hps,List.map_append,List.append_assoc]
    have hmo : m + (ed (ah vs) n k a b q i).length = (out ++ (ed (ah vs) n k a b q i).map e7).length:=by rw [List.length_append,List.length_map,hm]
    have hq2 : ∀ n ∈ q ++ [ab (be a b) i],0 ≤ n ∧ n ≤ 999999:=ll hq ⟨oM,oM⟩
    have cx_lof : ∀ G' b1 b2,SchR G' (.slice ua vs.length uc) vs → RepR G' (ah vs) y k1 b1 → RepR G' (ah vs) z k1 b2 → fK adz 37 [.slice ua vs.length uc,Pt b1 0,Pt b2 0,S (aR (q ++ [ab (be a b) i])),.slice p (m + (ed (ah vs) n k a b q i).length) cap] G' [.acc (.slice p (m + (ed (ah vs) n k a b q i).length) cap) lR 2 (m + (ed (ah vs) n k a b q i).length) (ak dO (out ++ (ed (ah vs) n k a b q i).map e7))]
      (fun r _ L'=>∃ p' cap',r = .slice p' (m + (ed (ah vs) n k a b q i).length + (cA (ah vs) n k1 y z (q ++ [ab (be a b) i])).length) cap' ∧ L' = [.acc (.slice p' (m + (ed (ah vs) n k a b q i).length + (cA (ah vs) n k1 y z (q ++ [ab (be a b) i])).length) cap') lR 2 (m + (ed (ah vs) n k a b q i).length + (cA (ah vs) n k1 y z (q ++ [ab (be a b) i])).length) (ak dO (out ++ (ed (ah vs) n k a b q i).map e7 ++ (cA (ah vs) n k1 y z (q ++ [ab (be a b) i])).map e7))]):=fun G' b1 b2 g1 g2 g3 =>
     ih g1 g2 g3 y1 z1 y2 fy fz hls hq2 (by rw [List.length_append,List.length_singleton];omega) hmo oM
    have hSq:=hSq.mono hgq
    have hra:=hra.mono hgq
    have hrb:=hrb.mono hgq
    obtain ⟨xb,xo,xc,e,hs1⟩:=(hst.mono hgq).expl oM
    simp only [Value.slice.injEq] at e
    obtain ⟨rfl,-,rfl⟩:=e
    have hti : ab (be a b) i = ab (be a b) i:=rfl
    have cx_sty:=fZ.yes (nX hSq hw hra oa hk (n:=ab (be a b) i) ⟨oM,oM⟩ oM) e1
    repeat' (first | refine jR ?_ | (refine jo ?_;first | refine jV (ag rfl rfl oM) ?_ | (refine jV (bW rfl rfl aS ?_ aS rfl) ?_;focus omega) | (refine an rfl rfl rfl cx_sty rfl ?_;rintro _ G hle ⟨b1,rfl,hrep1⟩;(try have hSq:=SchR.mono hSq hle);(try have hra:=RepR.mono hle hra);(try have hrb:=RepR.mono hle hrb);(try have hrep1:=RepR.mono hle hrep1);(try have hrepy:=RepR.mono hle hrepy);(try have hgq:=Gh.le.trans hgq hle))) | refine ac rfl (ay oM) ?_)
    have hrepy:=hrep1
    have cx_sty:=fZ.yes (nX hSq hw hrb ob hk (n:=ab (be a b) i) ⟨oM,oM⟩ oM) e2
    repeat' (first | refine jM ?_ | (refine jo ?_;first | (refine an rfl rfl rfl cx_sty rfl ?_;rintro _ G hle ⟨b1,rfl,hrep1⟩;(try have hSq:=SchR.mono hSq hle);(try have hra:=RepR.mono hle hra);(try have hrb:=RepR.mono hle hrb);(try have hrep1:=RepR.mono hle hrep1);(try have hrepy:=RepR.mono hle hrepy);(try have hgq:=Gh.le.trans hgq hle)) | refine ae rfl rfl rfl (xf oM oM) rfl ?_ | (refine xl rfl rfl rfl ((cx_lof _ _ _) (by (repeat (assumption));done) (by (repeat (assumption));done) (by (repeat (assumption));done)) rfl ?_;rintro _ G1 _ hle ⟨av,cv,rfl,rfl⟩;dsimp only [zA,fA];(try have hSq:=SchR.mono hSq hle);(try have hra:=RepR.mono hle hra);(try have hrb:=RepR.mono hle hrb);(try have hrep1:=RepR.mono hle hrep1);(try have hrepy:=RepR.mono hle hrepy);(try have hgq:=Gh.le.trans hgq hle))))
    exact bh (i + 1,av,cv,_) ⟨by dsimp only;omega,hgq⟩ (by dsimp only;omega) (by dsimp only;rw [hN1];repeat (first | exact trivial | refine ⟨rfl,?_⟩)) rfl (by dsimp only;rw [hN1,hN2];repeat (exact List.Sublist.refl _))
   ·obtain rfl : i = (be a b).length:=oM
    repeat' (first | refine jR ?_ | refine ad rfl (aG oM) ?_)
    exact aW (vs:=[_]) rfl ⟨rfl,trivial⟩ rfl a7 ⟨hle0.trans hgq,_,_,rfl,rfl⟩
  ·have e : cA (ah vs) (n + 1) k a b q = [(q,b)]:=by rw [cA,if_neg ho,if_neg hd]
   rw [e]
   simp only [List.length_singleton,List.map_cons,List.map_nil]
   have hd2 : cR a b = false:=by simpa using hd
   have cx_dp:=rO ha hb oa ob
   rw [hd2] at cx_dp
   have hrow : ak dO (out ++ [e7 (q,b)]) = ak dO out ++ [S (aR q),S b.out]:=bR dO out (e7 (q,b))
   refine bY [(0,_),(1,_),(2,_),(3,_),(4,_)] Tryz.func37 kR Tryz.ntmps37 rfl rfl tU fun B hB hW=>?_
   have cx_out:=fP hw ha oM
   repeat' (first | refine jR ?_ | (refine jo ?_;refine ae rfl rfl rfl cx_out rfl ?_))
   have cx_out:=fP hw hb oM
   repeat' (first | refine jR ?_ | (refine jo ?_;first | refine jV (ax rfl rfl) ?_ | refine jF fun _=>?_ | refine bD rfl rfl rfl rfl rfl rfl rfl rfl rfl oM fun _ _=>?_ | refine ae rfl rfl rfl cx_out rfl ?_ | refine ae rfl rfl rfl cx_dp rfl ?_) | refine ac rfl rfl ?_ | refine ad rfl (aG ‹_›) ?_)
   rw [hrow]
   exact aW (vs:=[_]) rfl ⟨rfl,trivial⟩ rfl sB ⟨Gh.le.refl _,_,_,rfl,rfl⟩
theorem rT {s k w : adA} {p : Option Addr} {c : Nat} {T : TypeId} {l : List Ch} (h : s.length ≤ 1048576 ∧ k.length ≤ 1048576 ∧ w.length ≤ 1048576) (hn : l.length ≤ 1048576) (hl : ∀ x ∈ l,vl x) :
  dF adz 20 [S s,S k,S w,.slice p l.length c] G [.acc (.slice p l.length c) T 2 l.length (ak dO l)] (fun v L'=>v = na (jt s k w l) ∧ L' = [.acc (.slice p l.length c) T 2 l.length (ak dO l)]):=by
 unfold jt
 have cx_wo:=qd (G:=G) h
 cases ho : kv s k w with
 | false =>
  rw [ho] at cx_wo
  rw [if_neg (by simp)]
  refine jH [(0,_),(1,_),(2,_),(3,_)] Tryz.func20 Tryz.ntmps20 fun B hB hW=>?_
  repeat' (first | refine jR ?_ | (refine jo ?_;refine ae rfl rfl rfl cx_wo rfl ?_) | refine ac rfl rfl ?_)
  all_goals refine aW (vs:=[_,_]) rfl ⟨rfl,rfl,trivial⟩ rfl a7 ⟨rfl,rfl,rfl⟩
 | true =>
  rw [ho] at cx_wo
  rw [if_pos rfl]
  refine jH [(0,_),(1,_),(2,_),(3,_)] Tryz.func20 Tryz.ntmps20 fun B hB hW=>?_
  repeat' (first | refine jR ?_ | (refine jo ?_;refine ae rfl rfl rfl cx_wo rfl ?_) | refine ad rfl rfl ?_)
  refine aT (ι:=Nat × adA) (fun j=>(j.1 ≤ l.length ∧ ee s k w l = ee s k j.2 (l.drop j.1)) ∧ j.2.length ≤ 1048576) (fun j=>[(0,S s),(1,S k),(2,S j.2),(3,.slice p l.length c),(10,I (j.1 : Nat))]) (fun _=>G) (fun j=>[.acc (.slice p l.length c) T 2 l.length (ak dO l)]) (fun j=>l.length - j.1) (0,w) ?_ tU rfl a7 (fun j Hj=>?_)
  ·exact ⟨⟨Nat.zero_le _,rfl⟩,h.2.2⟩
  obtain ⟨i,t⟩:=j
  dsimp only at Hj ⊢
  obtain ⟨⟨hj1,hj2⟩,hj3⟩:=Hj
  by_cases hi : i < l.length
  ·refine Nx.shp (.head _) fun hsh=>?_
   obtain ⟨ba,ca,e⟩:=hsh.pos oM
   simp only [Value.slice.injEq] at e
   obtain ⟨rfl,-,rfl⟩:=e
   have hx:=hl _ (bc hi)
   have cx_ps2:=qf (G:=G) (s:=s) (k:=k) (w:=t) (p:=(ab l i).1) (x:=(ab l i).2) ⟨h.1,h.2.1,hj3,hx.1⟩ hx.2
   rw [fH hi,ee] at hj2
   unfold na at cx_ps2
   cases hp : cF s k t (ab l i).1 (ab l i).2 with
   | none =>
    rw [hp] at cx_ps2 hj2
    dsimp only [Option.getD,Option.isSome] at cx_ps2 hj2
    repeat' (first | refine jR ?_ | (refine jo ?_;refine jV (af rfl) ?_) | (refine ac rfl (by first | rfl | (refine decide_eq_true ?_;(omega))) ?_) | (refine am (ao (id:=6) _ (fun _ h=>h) al ?_);refine jT 12 [0,1,2,3,4,8,9] (aa 19 799) ?_;(refine jG (aa 19 831) 5 rfl (ag rfl rfl oM) ?_);refine jT 10 [6] (aa 19 895) ?_;(refine jG (aa 19 1023) 7 rfl (gg rfl rfl rfl oM rfl rfl) ?_);(refine jG (aa 19 2047) 10 rfl (ag rfl rfl oM) ?_);refine jT 7 [11] (aa 19 4095) ?_;(refine jG (aa 19 8191) 12 rfl (gg rfl rfl rfl oM rfl rfl) ?_);refine jA 13 rfl ?_;(refine ae rfl rfl rfl cx_ps2 rfl ?_);refine jS (aa 19 16383) ?_;refine jT 0 [14,15,16,17,18] (aa 19 524287) ?_;refine jQ ?_))
    all_goals (rw [hj2];refine aW (vs:=[_,_]) rfl ⟨rfl,rfl,trivial⟩ rfl a7 ⟨rfl,rfl,rfl⟩)
   | some z =>
    have hz:=(lu hp).2
    rw [hp] at cx_ps2 hj2
    dsimp only [Option.getD,Option.isSome] at cx_ps2 hj2
    repeat' (first | refine jM ?_ | (refine jo ?_;refine jV (af rfl) ?_) | refine ac rfl (ay oM) ?_ | refine ad rfl rfl ?_ | (refine am (ao (id:=6) _ (fun _ h=>h) al ?_);refine jT 12 [0,1,2,3,4,8,9] (aa 19 799) ?_;(refine jG (aa 19 831) 5 rfl (ag rfl rfl oM) ?_);refine jT 10 [6] (aa 19 895) ?_;(refine jG (aa 19 1023) 7 rfl (gg rfl rfl rfl oM rfl rfl) ?_);(refine jG (aa 19 2047) 10 rfl (ag rfl rfl oM) ?_);refine jT 7 [11] (aa 19 4095) ?_;(refine jG (aa 19 8191) 12 rfl (gg rfl rfl rfl oM rfl rfl) ?_);refine jA 13 rfl ?_;(refine ae rfl rfl rfl cx_ps2 rfl ?_);refine jS (aa 19 16383) ?_;refine jT 0 [14,15,16,17,18] (aa 19 524287) ?_;refine jQ ?_))
    exact bh (i + 1,z) ⟨⟨oM,hj2⟩,by dsimp only;omega⟩ (by dsimp only;omega) tU rfl a7
  ·have ei : i = l.length:=oM
   subst ei
   rw [List.drop_length,ee] at hj2
   repeat' (first | refine jR ?_ | (refine jo ?_;refine jV (af rfl) ?_) | refine ad rfl (aG oM) ?_)
   all_goals (rw [hj2];refine aW (vs:=[_,_]) rfl ⟨rfl,rfl,trivial⟩ rfl a7 ⟨rfl,rfl,rfl⟩)
theorem wT {s k w t : adA} (h : cB s k w = none ∨ cB s k t = none) : ep s k w t = none:=by
 unfold ep
 rcases h with h | h
 ·rw [h];cases aV s <;> rfl
 ·rw [h];cases aV s <;> cases cB s k w <;> rfl
theorem uh {s k w t : adA} {l : List Ch} (h : ep s k w t = some l) : l.length ≤ 30 ∧ ∀ x ∈ l,x.1.length ≤ 91 ∧ x.2.length ≤ 400:=by
 unfold ep at h
 split at h
 ·rename_i ts a b h1 ha hb
  split at h
  ·rename_i hc
   cases h
   refine ⟨hc.1,fun x hx=>?_⟩
   obtain ⟨ts',g1,g2,g3,g4,g5⟩:=cJ ha
   obtain rfl : ts = ts':=Option.some.inj (h1.symm.trans g1)
   obtain ⟨ts',i1,i2,i3,i4,i5⟩:=cJ hb
   obtain rfl : ts = ts':=Option.some.inj (h1.symm.trans i1)
   obtain ⟨a1,a2,a3⟩:=eR g3
   obtain ⟨b1,b2,b3⟩:=eR i3
   obtain ⟨c,hc,rfl⟩:=List.mem_map.1 hx
   have:=nV (n:=13) (q:=[]) (cY h1) (cQ g3) (cQ i3) g2 ⟨a3,by rw [a1];exact a2⟩ ⟨b3,by rw [b1];exact b2⟩ (fun m hm=>by cases hm) c hc
   have h2:=dK this.1
   have h3:=this.2.1
   simp only [List.length_nil,Nat.zero_add] at h3
   exact ⟨by unfold e7;dsimp only;omega,this.2.2⟩
  ·cases h
 ·cases h
theorem aan {s k w : adA} (h : s.length ≤ 1048576 ∧ k.length ≤ 1048576 ∧ w.length ≤ 1048576) : bB adz 36 [S s,S k,S w] G (fun v _=>∃ u q ok,v = Tu [u,.pointer q,Bo ok]):=by
 cases hg : cB s k w with
 | none=>exact (iS h hg).mono fun v G' L' ⟨h1,h2,u,q,h3⟩=>⟨h1,h2,u,q,false,h3⟩
 | some u =>
  obtain ⟨ts,hs,hki,hvo,_⟩:=cJ hg
  exact (j8 h hs hki hvo).mono fun v G' L' ⟨h1,h2,a,c,vs,b,h3,_⟩=>⟨h1,h2,.slice a vs.length c,some ⟨b,0,none⟩,true,h3⟩
theorem tZ {s k w t : adA} (h : s.length ≤ 1048576 ∧ k.length ≤ 1048576 ∧ w.length ≤ 1048576 ∧ t.length ≤ 1048576) :
  fK adz 16 [S s,S k,S w,S t] G [] (fun v _ L'=>∃ p c,v = Tu [.slice p ((ep s k w t).getD []).length c,Bo (ep s k w t).isSome] ∧ L' = [.acc (.slice p ((ep s k w t).getD []).length c) lR 2 ((ep s k w t).getD []).length (ak dO ((ep s k w t).getD []))]):=by
 cases ha : cB s k w with
 | none =>
  have cx_la0:=fun G=>iS (G:=G) (s:=s) (k:=k) (w:=w) ⟨h.1,h.2.1,h.2.2.1⟩ ha
  rw [wT (.inl ha)]
  refine bY [(0,_),(1,_),(2,_),(3,_)] Tryz.func16 kR Tryz.ntmps16 rfl rfl tU fun B hB hW=>?_
  repeat' (first | refine jR ?_ | (refine jo ?_;(refine an rfl rfl rfl (cx_la0 _) rfl ?_;rintro _ G hle ⟨ua,qa,rfl⟩;skip)))
  have hle0:=hle
  refine jo ?_
  refine an rfl rfl rfl (aan ⟨h.1,h.2.1,h.2.2.2⟩) rfl ?_
  rintro _ G2 hle2 ⟨u2,q2,ok2,rfl⟩
  repeat' (first | refine jR ?_ | (refine jo ?_;first | refine aM rfl ?_ | refine jF fun _=>?_) | refine aF rfl rfl rfl ?_ | refine ac rfl rfl ?_)
  rename_i y
  refine Nx.blkAcc (m:=0) (sz:=2) .here rfl ?_
  refine aW (vs:=[_,_]) rfl ⟨rfl,rfl,trivial⟩ rfl a7 ⟨hle0.trans hle2,_,_,rfl,rfl⟩
 | some a =>
  obtain ⟨ts,hs,hki,hvo,hto,hwf⟩:=cJ ha
  have cx_l4x:=j8 (G:=G) (s:=s) (k:=k) (w:=w) ⟨h.1,h.2.1,h.2.2.1⟩ hs hki hvo
  cases hb : cB s k t with
  | none =>
   rw [wT (.inr hb)]
   refine bY [(0,_),(1,_),(2,_),(3,_)] Tryz.func16 kR Tryz.ntmps16 rfl rfl tU fun B hB hW=>?_
   repeat' (first | refine jR ?_ | (refine jo ?_;(refine an rfl rfl rfl cx_l4x rfl ?_;rintro _ G hle ⟨av1,cv1,vs1,b1,rfl,hR1,hT1,hrep⟩;skip)))
   have hle0:=hle
   refine jo ?_
   refine an rfl rfl rfl (iS ⟨h.1,h.2.1,h.2.2.2⟩ hb) rfl ?_
   rintro _ G2 hle2 ⟨u2,q2,rfl⟩
   repeat' (first | refine jR ?_ | (refine jo ?_;first | refine aC rfl ?_ | refine jF fun _=>?_) | refine ar rfl rfl rfl ?_ | refine ac rfl rfl ?_)
   rename_i y
   refine Nx.blkAcc (m:=0) (sz:=2) .here rfl ?_
   refine aW (vs:=[_,_]) rfl ⟨rfl,rfl,trivial⟩ rfl a7 ⟨hle0.trans hle2,_,_,rfl,rfl⟩
  | some b =>
   obtain ⟨ts',i1,_,hvb,htb,_⟩:=cJ hb
   obtain rfl : ts = ts':=Option.some.inj (hs.symm.trans i1)
   have hw:=cY hs
   have oa:=cQ hvo
   have ob:=cQ hvb
   obtain ⟨a1,a2,a3⟩:=eR hvo
   obtain ⟨b1,b2,b3⟩:=eR hvb
   have fa : a.deep ≤ 12 ∧ a.out.length ≤ 400:=⟨a3,by rw [a1];exact a2⟩
   have fb : b.deep ≤ 12 ∧ b.out.length ≤ 400:=⟨b3,by rw [b1];exact b2⟩
   have hlst:=yP hw 12 oa ob hki (Or.inl a3) (Or.inl b3)
   have hdl:=tr (n:=13) (q:=[]) (wa:=40000) (wb:=40000) hw oa ob hki (Or.inl hto) (Or.inl htb) oM
   have hin:=nV (n:=13) (q:=[]) hw oa ob hki fa fb (fun m hm=>by cases hm)
   have hcv : ep s k w t = if (fL ts k a b).length ≤ 30 ∧ (jt s k w (fL ts k a b)).isSome = true then some (fL ts k a b) else none:=by
    unfold ep
    rw [hs,ha,hb]
   have hdn : ∀ {z},jt s k w (fL ts k a b) = some z → z = t ∧ ∀ d ∈ cA ts 13 k a b [],d.1.length ≤ 8:=fun h=>wU hs ha hb h
   refine bY [(0,_),(1,_),(2,_),(3,_)] Tryz.func16 kR Tryz.ntmps16 rfl rfl tU fun B hB hW=>?_
   repeat' (first | refine jR ?_ | (refine jo ?_;(refine an rfl rfl rfl cx_l4x rfl ?_;rintro _ G hle ⟨av1,cv1,vs1,b1,rfl,hR1,hT1,hrep⟩;skip)))
   have hle0:=hle
   subst hT1
   refine jo ?_
   refine an rfl rfl rfl (j8 ⟨h.1,h.2.1,h.2.2.2⟩ hs hki hvb) rfl ?_
   rintro _ G2 hle2 ⟨av2,cv2,vs2,b2',rfl,hR2,hT2,hrepb⟩
   have hR1:=hR1.mono hle2
   have hrep:=hrep.mono hle2
   repeat' (first | refine jR ?_ | (refine jo ?_;first | refine aC rfl ?_ | refine jF fun _=>?_) | refine ar rfl rfl rfl ?_ | refine ad rfl rfl ?_)
   rename_i y
   refine Nx.blkAcc (m:=0) (sz:=2) .here rfl ?_
   have hlof:=aas hw 13 hR1 hrep hrepb oa ob hki fa fb hlst (q:=[]) (fun n hn=>by cases hn) (by simp) (p0:=some ⟨y,0,none⟩) (m:=0) (cap:=0) (out:=[]) rfl oM
   refine jo ?_
   refine xl rfl rfl rfl hlof rfl ?_
   rintro _ G3 _ hle3 ⟨av,cv,rfl,rfl⟩
   dsimp only [zA,fA]
   rw [Nat.zero_add,← List.length_map (f:=e7)]
   have hGa:=hle0.trans (hle2.trans hle3)
   have hxl : ∀ i,i < (fL (ah vs1) k a b).length → ab (fL (ah vs1) k a b) i = e7 (ab (cA (ah vs1) 13 k a b []) i):=fun i hi=>by
    unfold fL at hi ⊢
    rw [aA hi,aA (by simpa using hi)]
    simp
   have hml : (fL (ah vs1) k a b).length = (cA (ah vs1) 13 k a b []).length:=by unfold fL;simp
   have hCh : ∀ x ∈ fL (ah vs1) k a b,vl x:=fun x hx=>by
    obtain ⟨c,hc,rfl⟩:=List.mem_map.1 hx
    have h1:=hin c hc
    have h2:=dK h1.1
    have h3:=h1.2.1
    simp only [List.length_nil,Nat.zero_add] at h3
    exact ⟨by unfold e7;dsimp only;omega,by unfold e7;dsimp only;omega⟩
   rw [show (cA (ah vs1) 13 k a b []).map e7 = fL (ah vs1) k a b from rfl]
   generalize hds : cA (ah vs1) 13 k a b [] = ds at *
   generalize hls : fL (ah vs1) k a b = l at *
   repeat' (refine jR ?_)
   refine aT (ι:=Nat × Gh) (fun i=>(i.1 ≤ l.length ∧ ∀ j,j < i.1 → (ab ds j).1.length ≤ 8) ∧ Gh.le G3 i.2) (fun i=>[(0,S s),(1,S k),(2,S w),(3,S t),(16,.slice av l.length cv),(17,I i.1)]) (fun i=>i.2) (fun i=>[.acc (.slice av l.length cv) lR 2 l.length (ak dO l)]) (fun i=>l.length - i.1) (0,G3) ?_ tU rfl a7 (fun i Hi=>?_)
   ·exact ⟨⟨Nat.zero_le _,fun j hj=>absurd hj (Nat.not_lt_zero _)⟩,Gh.le.refl _⟩
   obtain ⟨i,Gq⟩:=i
   dsimp only at Hi ⊢
   obtain ⟨⟨hi0,hj8⟩,hgq⟩:=Hi
   by_cases hi : i < l.length
   ·refine Nx.shp (.head _) fun hsh=>?_
    obtain ⟨bb0,cc0,e⟩:=hsh.pos oM
    simp only [Value.slice.injEq] at e
    obtain ⟨rfl,-,rfl⟩:=e
    have hpo:=nh (hin _ (bc (show i < ds.length by omega))).1
    have hCi:=hCh _ (bc hi)
    have hx1 : (ab l i).1 = aR (ab ds i).1:=by rw [hxl i hi];rfl
    by_cases h8 : (ab ds i).1.length ≤ 8
    ·rw [if_pos h8,← hx1] at hpo
     have cx_sp:=hO hCi.1 hpo
     repeat' (first | refine jM ?_ | (refine jo ?_;first | refine jV (af rfl) ?_ | refine jV (ag rfl rfl oM) ?_ | refine jV (gg rfl rfl rfl oM rfl rfl) ?_ | (refine an rfl rfl rfl (cx_sp _) rfl ?_;rintro _ G hle ⟨sa,sc,sn,rfl,hsp⟩;skip)) | refine ac rfl (ay oM) ?_ | refine ad rfl rfl ?_)
     exact bh (i + 1,_) ⟨⟨by dsimp only;omega,fun j hj=>by
      rcases Nat.lt_or_ge j i with h | h
      ·exact hj8 j h
      ·obtain rfl : j = i:=by dsimp only at hj;omega
       exact h8⟩,Gh.le.trans hgq aS⟩ (by dsimp only;omega) tU rfl a7
    ·rw [if_neg h8,← hx1] at hpo
     have cx_sp:=iJ hCi.1 hpo
     have hno : ep s k w t = none:=by
      rw [hcv,if_neg]
      rintro ⟨_,h2⟩
      obtain ⟨z,hz⟩:=Option.isSome_iff_exists.1 h2
      exact h8 ((hdn hz).2 _ (bc (show i < ds.length by omega)))
     rw [hno]
     repeat' (first | refine jR ?_ | (refine jo ?_;first | refine jF fun _=>?_ | refine jV (af rfl) ?_ | refine jV (ag rfl rfl oM) ?_ | refine jV (gg rfl rfl rfl oM rfl rfl) ?_ | (refine an rfl rfl rfl (cx_sp _) rfl ?_;rintro _ G hle ⟨sa,sc,sn,rfl,hsp⟩;skip)) | (refine ac rfl (by first | rfl | (refine decide_eq_true ?_;(omega))) ?_))
     rename_i z
     refine Nx.blkAcc (m:=0) (sz:=2) .here rfl ?_
     refine aW (vs:=[_,_]) rfl ⟨rfl,rfl,trivial⟩ rfl sB ⟨hGa.trans (hgq.trans hle),_,_,rfl,rfl⟩
   ·obtain rfl : i = l.length:=oM
    have cx_cdo:=rT (G:=Gq) (p:=av) (c:=cv) (T:=lR) (l:=l) ⟨h.1,h.2.1,h.2.2.1⟩ oM hCh
    unfold na at cx_cdo
    have hGb:=hGa.trans hgq
    cases hz : jt s k w l with
    | none =>
     rw [hz] at cx_cdo hcv
     rw [if_neg (by simp)] at hcv
     rw [hcv]
     dsimp only [Option.getD,Option.isSome] at cx_cdo
     by_cases h30 : l.length ≤ 30
     ·repeat' (first | refine jR ?_ | (refine jo ?_;first | refine aM rfl ?_ | refine aC rfl ?_ | refine jF fun _=>?_ | refine jV (af rfl) ?_ | (refine fB rfl rfl rfl cx_cdo rfl ?_;rintro _ _ ⟨rfl,rfl⟩;dsimp only [zA,fA])) | refine aF rfl rfl rfl ?_ | refine ar rfl rfl (aG oM) ?_ | refine ac rfl rfl ?_ | refine ad rfl (aG oM) ?_)
      all_goals rename_i z
      all_goals refine Nx.blkAcc (m:=0) (sz:=2) .here rfl ?_
      all_goals refine aW (vs:=[_,_]) rfl ⟨rfl,rfl,trivial⟩ rfl sB ⟨hGb,_,_,rfl,rfl⟩
     ·repeat' (first | refine jR ?_ | (refine jo ?_;first | refine aM rfl ?_ | refine jF fun _=>?_ | refine jV (af rfl) ?_ | (refine fB rfl rfl rfl cx_cdo rfl ?_;rintro _ _ ⟨rfl,rfl⟩;dsimp only [zA,fA])) | (refine aF rfl rfl (by first | rfl | (refine decide_eq_true ?_;(omega))) ?_) | refine ac rfl rfl ?_ | refine ad rfl (aG oM) ?_)
      all_goals rename_i z
      all_goals refine Nx.blkAcc (m:=0) (sz:=2) .here rfl ?_
      all_goals refine aW (vs:=[_,_]) rfl ⟨rfl,rfl,trivial⟩ rfl sB ⟨hGb,_,_,rfl,rfl⟩
    | some z =>
     obtain ⟨rfl,_⟩:=hdn hz
     rw [hz] at cx_cdo hcv
     dsimp only [Option.getD,Option.isSome] at cx_cdo
     by_cases h30 : l.length ≤ 30
     ·rw [if_pos ⟨h30,rfl⟩] at hcv
      rw [hcv]
      repeat' (first | refine jR ?_ | (refine jo ?_;first | refine aC rfl ?_ | refine jV (af rfl) ?_ | (refine fB rfl rfl rfl cx_cdo rfl ?_;rintro _ _ ⟨rfl,rfl⟩;dsimp only [zA,fA])) | (refine ar rfl rfl (by first | rfl | (refine decide_eq_false ?_;(omega))) ?_) | (refine ad rfl ?_ ?_;(focus ((first | (refine decide_eq_false ?_;(omega)) | (simp [*];done));done))))
      all_goals refine aW (vs:=[_,_]) rfl ⟨rfl,rfl,trivial⟩ rfl a7 ⟨hGb,_,_,rfl,rfl⟩
     ·rw [if_neg (fun h=>h30 h.1)] at hcv
      rw [hcv]
      repeat' (first | refine jR ?_ | (refine jo ?_;first | refine aM rfl ?_ | refine jF fun _=>?_ | refine jV (af rfl) ?_ | (refine fB rfl rfl rfl cx_cdo rfl ?_;rintro _ _ ⟨rfl,rfl⟩;dsimp only [zA,fA])) | (refine aF rfl rfl (by first | rfl | (refine decide_eq_true ?_;(omega))) ?_) | refine ac rfl rfl ?_ | refine ad rfl (aG oM) ?_)
      all_goals rename_i z
      all_goals refine Nx.blkAcc (m:=0) (sz:=2) .here rfl ?_
      all_goals refine aW (vs:=[_,_]) rfl ⟨rfl,rfl,trivial⟩ rfl sB ⟨hGb,_,_,rfl,rfl⟩
abbrev dv : TypeId:=130
theorem yq {v : Value} {l : adA} (h : aU G v 1 l.length (cr l)) : dF adz 41 [v] G [] (fun v L'=>∃ b code l',v = Pt b 0 ∧ L' = [eC b code 0 dv] ∧ aU G code 1 l'.length (cr l') ∧ l'.length ≤ 2000):=by
 obtain ⟨h1,⟨rfl,h2⟩ | ⟨c,o,cap,rfl,h2,h3⟩⟩:=id h
 ·refine jH [(0,_)] Tryz.func41 Tryz.ntmps41 fun B hB hW=>?_
  repeat' (first | refine jR ?_ | (refine jo ?_;first | refine jV (af rfl) ?_ | refine jV (ax rfl rfl) ?_ | refine jO fun _=>?_) | refine ad rfl rfl ?_)
  refine aW (vs:=[_]) rfl ⟨rfl,trivial⟩ rfl (List.Sublist.refl _) ⟨rfl,_,_,[],rfl,rfl,⟨by simp [cr],.inl ⟨rfl,rfl⟩⟩,by simp⟩
 ·refine jH [(0,_)] Tryz.func41 Tryz.ntmps41 fun B hB hW=>?_
  repeat' (first | refine jR ?_ | (refine jo ?_;first | refine jV (af rfl) ?_ | refine jV (s7 rfl rfl oM) ?_ | refine jV (ax rfl rfl) ?_ | refine jO fun _=>?_) | refine eD rfl (fun _=>?_) (fun _=>?_))
  ·refine aW (vs:=[_]) rfl ⟨rfl,trivial⟩ rfl (List.Sublist.refl _) ⟨rfl,_,_,l.take 2000,rfl,rfl,?_,by simp;omega⟩
   have e : (l.take 2000).length = 2000:=by simp;omega
   rw [e]
   refine ⟨by simp [cr];omega,.inr ⟨c,o,cap,rfl,oM,?_⟩⟩
   have:=h3.take 2000
   simpa [cr] using this
  ·exact aW (vs:=[_]) rfl ⟨rfl,trivial⟩ rfl (List.Sublist.refl _) ⟨rfl,_,_,l,rfl,rfl,h,oM⟩
theorem c7 {b : Nat} {code : Value} {p n : Int} {l : adA} (hp : 0 ≤ p ∧ p ≤ 1000000000000 ∧ n ≤ 1000000000000) (hs : aU G code 1 l.length (cr l)) :
  dF adz 45 [Pt b 0,I n] G [eC b code p dv] (fun v L'=>∃ k,v = I k ∧ L' = [eC b code (p + 1) dv] ∧ 0 ≤ k ∧ (k < n ∨ k = 0)):=by
 obtain ⟨h1,⟨rfl,h2⟩ | ⟨c,o,cap,rfl,h2,h3⟩⟩:=id hs
 ·refine jH [(0,_),(1,_)] Tryz.func45 Tryz.ntmps45 fun B hB hW=>?_
  repeat' (first | (refine run (t:=tb) 400 rfl ?_ ?_;(focus (repeat' (first | exact trivial | apply And.intro | omega)))) | (refine jo ?_;first | refine aD rfl ?_ | refine jD rfl rfl rfl ?_ | refine jV (af rfl) ?_ | refine aM rfl ?_ | refine aC rfl ?_) | refine fp rfl rfl (fun _=>?_) (fun _=>?_) | refine ac rfl rfl ?_)
  all_goals exact aW (vs:=[_]) rfl ⟨rfl,trivial⟩ rfl (List.Sublist.refl _) ⟨rfl,_,rfl,rfl,oM,oM⟩
 ·have b1:=mG l (p + 1 - 1).toNat
  have b2:=mG l ((p + 1 - 1) % (l.length : Int)).toNat
  have b3:=mG l (((p + 1 - 1) * 7 + 3) % (l.length : Int)).toNat
  have e1:=fun h=>Int.emod_nonneg (p + 1 - 1) (b:=(l.length : Int)) h
  have e2:=fun h=>Int.emod_lt_of_pos (p + 1 - 1) (b:=(l.length : Int)) h
  have e3:=fun h=>Int.emod_nonneg ((p + 1 - 1) * 7 + 3) (b:=(l.length : Int)) h
  have e4:=fun h=>Int.emod_lt_of_pos ((p + 1 - 1) * 7 + 3) (b:=(l.length : Int)) h
  have e5:=fun h=>Int.ediv_nonneg (a:=p + 1 - 1) (b:=(l.length : Int)) h oM
  have e6:=fun h=>Int.ediv_le_self (a:=p + 1 - 1) (l.length : Int) h
  refine jH [(0,_),(1,_)] Tryz.func45 Tryz.ntmps45 fun B hB hW=>?_
  repeat' (first | (refine run (t:=tb) 400 rfl ?_ ?_;(focus (repeat' (first | exact trivial | apply And.intro | omega)))) | (refine jo ?_;first | refine aD rfl ?_ | (refine jV (vK rfl aS ?_) ?_;focus omega) | refine jD rfl rfl rfl ?_ | refine jV (af rfl) ?_ | refine aM rfl ?_ | refine aC rfl ?_ | refine jV (aN rfl rfl oM) ?_ | refine jV (aa4 rfl rfl oM) ?_) | refine fp rfl rfl (fun _=>?_) (fun _=>?_) | refine ac rfl rfl ?_ | refine eD rfl (fun _=>?_) (fun _=>?_) | (refine am (ao (id:=7) _ (fun _ h=>h) al ?_);refine jU 24 [0,1,2,4,5,6,7,15,16,17,19,20,21,22,23,24,33,34,36,37,38,39] (aa 46 1056595214583) ?_ ?_;(focus (repeat' (first | exact trivial | apply And.intro | omega)));(refine jG (aa 46 1056595214591) 3 rfl (aX rfl rfl rfl) ?_);(refine jG (aa 46 1056595214847) 8 rfl (aX rfl rfl rfl) ?_);(refine jG (aa 46 1056595215359) 9 rfl (af rfl) ?_);refine jU 20 [10] (aa 46 1056595216383) ?_ ?_;(focus (repeat' (first | exact trivial | apply And.intro | omega)));(refine jG (aa 46 1056595218431) 11 rfl (aN rfl rfl oM) ?_);((refine jG (aa 46 1056595222527) 12 rfl (vK rfl aS ?_) ?_;focus omega));refine jU 16 [13,14] (aa 46 1056595247103) ?_ ?_;(focus (repeat' (first | exact trivial | apply And.intro | omega)));(refine jG (aa 46 1056595509247) 18 rfl (aX rfl rfl rfl) ?_);(refine jG (aa 46 1056629063679) 25 rfl (aX rfl rfl rfl) ?_);(refine jG (aa 46 1056696172543) 26 rfl (af rfl) ?_);refine jU 12 [27] (aa 46 1056830390271) ?_ ?_;(focus (repeat' (first | exact trivial | apply And.intro | omega)));(refine jG (aa 46 1057098825727) 28 rfl (aN rfl rfl oM) ?_);((refine jG (aa 46 1057635696639) 29 rfl (vK rfl aS ?_) ?_;focus omega));refine jU 6 [30,31,32,35] (aa 46 1099511627775) ?_ ?_;(focus (repeat' (first | exact trivial | apply And.intro | omega)));(refine jG (aa 46 2199023255551) 40 rfl (aX rfl rfl rfl) ?_);(refine jG (aa 46 4398046511103) 41 rfl (af rfl) ?_);refine jU 0 [42,43,44,45] (aa 46 70368744177663) ?_ ?_;(focus (repeat' (first | exact trivial | apply And.intro | omega)));refine jQ ?_))
  all_goals (first | exact aW (vs:=[_]) rfl ⟨rfl,trivial⟩ rfl (List.Sublist.refl _) ⟨rfl,_,rfl,rfl,oM,oM⟩ | exact aW (vs:=[_]) rfl ⟨rfl,trivial⟩ rfl (List.Sublist.refl _) ⟨rfl,_,rfl,rfl,Int.emod_nonneg _ oM,.inl (Int.emod_lt_of_pos _ oM)⟩ | exact zg _ _)
theorem rM {r : Nat} {code : Value} {p : Int} {l : adA} (hp : 0 ≤ p ∧ p ≤ 900000000000) (hs : aU G code 1 l.length (cr l)) :
  dF adz 78 [Pt r 0] G [eC r code p dv] (fun v L'=>∃ x q,v = S x ∧ x.length ≤ 400 ∧ L' = [eC r code q dv] ∧ p ≤ q ∧ q ≤ p + 10):=by
 refine jH [(0,_)] Tryz.func78 Tryz.ntmps78 fun B hB hW=>?_
 repeat' (first | refine jR ?_ | (refine jo ?_;first | refine jF fun _=>?_ | refine jV (aN rfl rfl oM) ?_ | (refine eX 64 rfl rfl rfl ?_ rfl (fun xs hxs=>?_);(focus ((simp only [List.length_append,List.length_cons,List.length_nil,List.length_take];omega);done))) | (refine aI rfl rfl rfl (c7 ?_ (by (repeat (assumption));done)) rfl ?_;(focus omega);rintro _ _ ⟨k,rfl,rfl,hk0,hk1⟩;dsimp only [zA,fA])))
 refine aT (ι:=adA × Int × Int) (fun j=>(0 ≤ j.2.1 ∧ j.2.1 ≤ 3) ∧ ((j.1.length : Nat) : Int) ≤ 64 * (4 - j.2.1) ∧ p ≤ j.2.2 ∧ j.2.2 ≤ p + 5 - j.2.1) (fun j=>[(0,Pt r 0),(3,S j.1),(4,I j.2.1)]) (fun _=>G) (fun j=>[eC r code j.2.2 dv]) (fun j=>j.2.1.toNat) (xs,k,p + 1 + 1) ?_ tU rfl sB (fun j Hj=>?_)
 ·dsimp only;omega
 obtain ⟨s,kk,q⟩:=j
 dsimp only at Hj ⊢
 obtain ⟨hk,hsl,hq0,hq1⟩:=Hj
 by_cases h1 : 1 < kk
 ·repeat' (first | refine jM ?_ | (refine jo ?_;first | refine jF fun _=>?_ | refine jV (aN rfl rfl oM) ?_ | (refine eX 64 rfl rfl rfl ?_ rfl (fun xs hxs=>?_);(focus ((simp only [List.length_append,List.length_cons,List.length_nil,List.length_take];omega);done))) | (refine aI rfl rfl rfl (c7 ?_ (by (repeat (assumption));done)) rfl ?_;(focus omega);rintro _ _ ⟨k,rfl,rfl,hk0,hk1⟩;dsimp only [zA,fA])) | refine ac rfl (ay ‹_›) ?_)
  exact bh (xs ++ s,kk - 1,q + 1) (by dsimp only;rw [List.length_append];omega) (by dsimp only;omega) tU rfl sB
 ·repeat' (first | refine jR ?_ | (refine jo ?_;first | refine jF fun _=>?_ | refine jV (aN rfl rfl oM) ?_ | (refine eX 64 rfl rfl rfl ?_ rfl (fun xs hxs=>?_);(focus ((simp only [List.length_append,List.length_cons,List.length_nil,List.length_take];omega);done))) | (refine aI rfl rfl rfl (c7 ?_ (by (repeat (assumption));done)) rfl ?_;(focus omega);rintro _ _ ⟨k,rfl,rfl,hk0,hk1⟩;dsimp only [zA,fA])) | refine ad rfl (aG ‹_›) ?_ | refine eD rfl (fun _=>?_) (fun _=>?_))
  all_goals exact aW (vs:=[_]) rfl ⟨rfl,trivial⟩ rfl sB ⟨rfl,_,_,rfl,oM,rfl,oM,oM⟩
theorem w9 {r : Nat} {code : Value} {p : Int} {l : adA} (hp : 0 ≤ p ∧ p ≤ 900000000000) (hs : aU G code 1 l.length (cr l)) :
  dF adz 112 [Pt r 0] G [eC r code p dv] (fun v L'=>∃ x q,v = S (39 :: (x ++ [39])) ∧ x.length ≤ 64 ∧ L' = [eC r code q dv] ∧ p ≤ q ∧ q ≤ p + 10):=by
 refine jH [(0,_)] Tryz.func112 Tryz.ntmps112 fun B hB hW=>?_
 repeat' (first | refine jX ?_ | (refine jo ?_;first | refine jF fun _=>?_ | refine jV (aN rfl rfl oM) ?_ | (refine eX 64 rfl rfl rfl ?_ rfl (fun xs hxs=>?_);(focus ((simp only [List.length_append,List.length_cons,List.length_nil,List.length_take];omega);done))) | (refine aI rfl rfl rfl (c7 ?_ (by (repeat (assumption));done)) rfl ?_;(focus omega);rintro _ _ ⟨k,rfl,rfl,hk0,hk1⟩;dsimp only [zA,fA])))
 exact aW (vs:=[_]) rfl ⟨rfl,trivial⟩ rfl sB ⟨rfl,xs,_,rfl,oM,rfl,oM,oM⟩
theorem vW {r : Nat} {code : Value} {p tag : Int} {l so nm : adA} (hp : 0 ≤ p ∧ p ≤ 800000000000) (hs : aU G code 1 l.length (cr l)) (ht : 0 ≤ tag ∧ tag ≤ 1000000) (hnm : nm.length ≤ 100) :
  dF adz 111 [Pt r 0,S so,I tag,S nm] G [eC r code p dv] (fun v L'=>∃ x q,v = S x ∧ x.length ≤ 1000 ∧ L' = [eC r code q dv] ∧ p ≤ q ∧ q ≤ p + 20):=by
 have hdl:=g7 (n:=tag) oM
 refine jH [(0,_),(1,_),(2,_),(3,_)] Tryz.func111 Tryz.ntmps111 fun B hB hW=>?_
 repeat' (first | refine jX ?_ | (refine jo ?_;first | refine aM rfl ?_ | refine aC rfl ?_ | refine jF fun _=>?_ | refine jV (aN rfl rfl oM) ?_ | (refine eX 64 rfl rfl rfl ?_ rfl (fun xs hxs=>?_);(focus ((simp only [List.length_append,List.length_cons,List.length_nil,List.length_take];omega);done))) | refine ae rfl rfl rfl (dD oM) rfl ?_ | (refine aI rfl rfl rfl (rM ?_ (by (repeat (assumption));done)) rfl ?_;(focus omega);rintro _ _ ⟨kd,q1,rfl,hkd,rfl,hq1,hq2⟩;dsimp only [zA,fA]) | (refine aI rfl rfl rfl (c7 ?_ (by (repeat (assumption));done)) rfl ?_;(focus omega);rintro _ _ ⟨k,rfl,rfl,hk0,hk1⟩;dsimp only [zA,fA])) | refine fp rfl rfl (fun _=>?_) (fun _=>?_) | refine ad rfl rfl ?_ | refine eD rfl (fun _=>?_) (fun _=>?_))
 all_goals exact aW (vs:=[_]) rfl ⟨rfl,trivial⟩ rfl sB ⟨rfl,_,_,rfl,by simp only [List.length_append,List.length_cons,List.length_nil];omega,rfl,oM,oM⟩
theorem w8 {r : Nat} {code : Value} {p : Int} {l so nm : adA} (hp : 0 ≤ p ∧ p ≤ 700000000000) (hs : aU G code 1 l.length (cr l)) (hso : so.length ≤ 64) (hnm : nm.length ≤ 64) :
  dF adz 76 [Pt r 0,S so,S nm] G [eC r code p dv] (fun v L'=>∃ x q,v = S x ∧ x.length ≤ 6000 ∧ 1 ≤ x.length ∧ L' = [eC r code q dv] ∧ p ≤ q ∧ q ≤ p + 200):=by
 refine jH [(0,_),(1,_),(2,_)] Tryz.func76 Tryz.ntmps76 fun B hB hW=>?_
 repeat' (first | refine jX ?_ | (refine jo ?_;first | refine aM rfl ?_ | refine aC rfl ?_ | (refine aI rfl rfl rfl (c7 ?_ (by (repeat (assumption));done)) rfl ?_;(focus omega);rintro _ _ ⟨k,rfl,rfl,hk0,hk1⟩;dsimp only [zA,fA])) | refine fp rfl rfl (fun _=>?_) (fun _=>?_) | refine ad rfl rfl ?_ | refine eD rfl (fun _=>?_) (fun _=>?_))
 all_goals
  have cx_pk2 : ∀ {p : Int},0 ≤ p ∧ p ≤ 1000000000000 → dF adz 45 [Pt r 0,I 2] G [eC r code p dv] (fun v L'=>L' = [eC r code (p + 1) dv] ∧ (v = I 0 ∨ v = I 1)):=fun {p} hp=>(c7 (b:=r) (p:=p) (n:=2) ⟨hp.1,hp.2,by decide⟩ hs).mono fun v G' L' ⟨h1,k,h2,h3,h4,h5⟩=>⟨h1,h3,by subst h2;rcases (show k = 0 ∨ k = 1 by omega) with rfl | rfl;exact .inl rfl;exact .inr rfl⟩
  refine aT (ι:=adA × Int × Int × Int × Int) (fun j=>(0 ≤ j.2.2.1 ∧ j.2.2.1 ≤ j.2.2.2.1 ∧ j.2.2.2.1 ≤ 4) ∧ (0 ≤ j.2.1 ∧ j.2.1 ≤ 10 * j.2.2.1) ∧ (1 ≤ j.1.length ∧ ((j.1.length : Nat) : Int) ≤ 200 + 1001 * j.2.2.1) ∧ p ≤ j.2.2.2.2 ∧ j.2.2.2.2 ≤ p + 4 + 30 * j.2.2.1) (fun j=>[(0,Pt r 0),(1,S so),(7,S j.1),(8,I j.2.1),(9,I j.2.2.2.1),(10,I j.2.2.1)]) (fun _=>G) (fun j=>[eC r code j.2.2.2.2 dv]) (fun j=>(j.2.2.2.1 - j.2.2.1).toNat) (so ++ nm ++ [61],0,0,_,_) ?_ tU rfl a7 (fun j Hj=>?_)
  ·dsimp only;simp only [List.length_append,List.length_cons,List.length_nil];omega
  obtain ⟨s,tag,kk,n,q⟩:=j
  dsimp only at Hj ⊢
  obtain ⟨hk,htg,hsl,hq0,hq1⟩:=Hj
  by_cases h1 : kk < n
  ·repeat' (first | refine jX ?_ | (refine jo ?_;first | refine jF fun _=>?_ | refine jV (iw rfl rfl (by (repeat (first | exact BL.nil | apply BL.cons));done)) ?_ | (refine aI rfl rfl rfl (cx_pk2 oM) rfl ?_;rintro _ _ ⟨rfl,rfl | rfl⟩ <;> dsimp only [zA,fA]) | (refine aI rfl rfl rfl (c7 ?_ (by (repeat (assumption));done)) rfl ?_;(focus omega);rintro _ _ ⟨k,rfl,rfl,hk0,hk1⟩;dsimp only [zA,fA]) | (refine aI rfl rfl rfl (vW ?_ (by (repeat (assumption));done) ?_ ?_) rfl ?_;(focus omega);(focus omega);(focus ((simp;done);done));rintro _ _ ⟨fd,q1,rfl,hfd,rfl,hq1,hq2⟩;dsimp only [zA,fA])) | refine ac rfl (ay ‹_›) ?_ | refine eD rfl (fun _=>?_) (fun _=>?_))
   all_goals (refine bh (_,_,kk + 1,n,_) ?_ ?_ tU rfl sB)
   all_goals (first | (dsimp only;simp only [List.length_append,List.length_cons,List.length_nil];omega) | (dsimp only;omega))
  ·repeat' (first | refine jX ?_ | refine ad rfl (aG ‹_›) ?_)
   exact aW (vs:=[_]) rfl ⟨rfl,trivial⟩ rfl a7 ⟨rfl,_,_,rfl,by simp only [List.length_append,List.length_cons,List.length_nil];omega,by simp only [List.length_append,List.length_cons,List.length_nil];omega,rfl,oM,oM⟩
def fC (u : Value) (vs : List cy) (k : adA) (deep cp : Int) (ct : Nat) : Prop:=∀ (G : Gh) (r : Nat) (code : Value) (p : Int) (l : adA),SchR G u vs → aU G code 1 l.length (cr l) → 0 ≤ p ∧ p + cp ≤ 600000000000 →
 fK adz 79 [Pt r 0,u,S k,I deep] G [eC r code p dv] (fun v G' L'=>∃ w b q,v = Pt b 0 ∧ RepR G' (ah vs) w k b ∧ w.tot ≤ ct ∧ 1 ≤ w.out.length ∧ L' = [eC r code q dv] ∧ p ≤ q ∧ q ≤ p + cp)
theorem fC.le {u : Value} {vs : List cy} {k : adA} {deep cp cp' : Int} {ct ct' : Nat} (h : fC u vs k deep cp ct) (h1 : cp ≤ cp') (h2 : ct ≤ ct') : fC u vs k deep cp' ct':=fun G r code p l h3 h4 h5 =>
 (h G r code p l h3 h4 ⟨h5.1,oM⟩).mono fun _ _ _ ⟨h6,w,b,q,h7,h8,h9,h10,h11,h12,h13⟩=>⟨h6,w,b,q,h7,h8,oM,h10,h11,h12,oM⟩
theorem qJ {u : Value} {vs : List cy} {deep : Int} : fC u vs [102] deep 15 200:=by
 intro G r code p l hR hs hp
 have cx_pk2 : ∀ {p : Int},0 ≤ p ∧ p ≤ 1000000000000 → dF adz 45 [Pt r 0,I 2] G [eC r code p dv] (fun v L'=>L' = [eC r code (p + 1) dv] ∧ (v = I 0 ∨ v = I 1)):=fun {p} hp=>(c7 (b:=r) (p:=p) (n:=2) ⟨hp.1,hp.2,by decide⟩ hs).mono fun v G' L' ⟨h1,k,h2,h3,h4,h5⟩=>⟨h1,h3,by subst h2;rcases (show k = 0 ∨ k = 1 by omega) with rfl | rfl;exact .inl rfl;exact .inr rfl⟩
 refine bY [(0,_),(1,_),(2,_),(3,_)] Tryz.func79 kR Tryz.ntmps79 rfl rfl tU fun B hB hW=>?_
 repeat' (first | refine jX ?_ | (refine jo ?_;first | refine jV (ax rfl rfl) ?_ | refine jO fun _=>?_ | refine jF fun _=>?_ | refine jV (aN rfl rfl oM) ?_ | refine aD rfl ?_ | refine jD rfl rfl rfl ?_ | (refine aI rfl rfl rfl (cx_pk2 oM) rfl ?_;rintro _ _ ⟨rfl,rfl | rfl⟩ <;> dsimp only [zA,fA])) | refine ac rfl rfl ?_ | refine ad rfl rfl ?_)
 all_goals rename_i y _
 all_goals refine Nx.sealC (b:=y) fun G2 hG2 hsy=>?_
 ·exact aW (vs:=[_]) rfl ⟨rfl,trivial⟩ rfl sB ⟨hG2,.nd 102 [121,101,115] 0 [],y,_,rfl,.leaf 102 _ _ _ y hsy (.inr (.inr ⟨rfl,rfl,rfl,.inl rfl⟩)),by simp [bA,V.tots],by rw [V.out];simp [cW],rfl,oM,oM⟩
 ·exact aW (vs:=[_]) rfl ⟨rfl,trivial⟩ rfl sB ⟨hG2,.nd 102 [110,111] 0 [],y,_,rfl,.leaf 102 _ _ _ y hsy (.inr (.inr ⟨rfl,rfl,rfl,.inr rfl⟩)),by simp [bA,V.tots],by rw [V.out];simp [cW],rfl,oM,oM⟩
abbrev vr : TypeId:=56
theorem abB {m : Int} (h : 0 ≤ m) : ∀ c ∈ bI m,bn c = true:=(ib m.toNat (Nat.le_refl _) h).2
theorem tl {u : Value} {vs : List cy} {deep : Int} : fC u vs [110] deep 15 200:=by
 intro G r code p l hR hs hp
 refine bY [(0,_),(1,_),(2,_),(3,_)] Tryz.func79 kR Tryz.ntmps79 rfl rfl tU fun B hB hW=>?_
 repeat' (first | refine jX ?_ | (refine jo ?_;first | refine jV (ax rfl rfl) ?_ | refine jO fun _=>?_ | refine jF fun _=>?_ | refine jV (aN rfl rfl oM) ?_ | (refine abS 999999 rfl rfl rfl ?_ ?_ (fun iz hz0 hz1=>?_);(focus ((simp only [List.length_append,List.length_cons,List.length_nil,List.length_take];omega);done));(focus ((repeat' (first | exact vI | refine uf ⟨oM,oM⟩ ?_));done))) | refine jD rfl rfl rfl ?_ | (refine aI rfl rfl rfl (c7 ?_ (by (repeat (assumption));done)) rfl ?_;(focus omega);rintro _ _ ⟨k,rfl,rfl,hk0,hk1⟩;dsimp only [zA,fA]) | refine ae rfl rfl rfl (dD oM) rfl ?_) | refine ac rfl rfl ?_)
 rename_i y _ _ _ _
 have hdl:=g7 (n:=iz) oM
 have hdp:=gy iz
 refine Nx.sealC (b:=y) fun G2 hG2 hsy=>?_
 exact aW (vs:=[_]) rfl ⟨rfl,trivial⟩ rfl sB ⟨hG2,.nd 110 (bI iz) 0 [],y,_,rfl,.leaf 110 _ _ _ y hsy (.inl ⟨rfl,rfl,rfl,abB hz0⟩),by rw [bA,V.tots];omega,by rw [V.out];exact hdp,rfl,oM,oM⟩
theorem th {u : Value} {vs : List cy} {deep : Int} : fC u vs [116] deep 15 200:=by
 intro G r code p l hR hs hp
 refine bY [(0,_),(1,_),(2,_),(3,_)] Tryz.func79 kR Tryz.ntmps79 rfl rfl tU fun B hB hW=>?_
 repeat' (first | refine jX ?_ | (refine jo ?_;first | refine jV (ax rfl rfl) ?_ | refine jO fun _=>?_ | refine jD rfl rfl rfl ?_ | (refine aI rfl rfl rfl (w9 ?_ (by (repeat (assumption));done)) rfl ?_;(focus omega);rintro _ _ ⟨tx,q1,rfl,htx,rfl,hq1,hq2⟩;dsimp only [zA,fA])) | refine ac rfl rfl ?_ | refine ad rfl rfl ?_)
 rename_i y
 refine Nx.sealC (b:=y) fun G2 hG2 hsy=>?_
 exact aW (vs:=[_]) rfl ⟨rfl,trivial⟩ rfl a7 ⟨hG2,.nd 116 tx 0 [],y,_,rfl,.leaf 116 _ _ _ y hsy (.inr (.inl ⟨rfl,rfl,rfl⟩)),by rw [bA,V.tots];omega,by rw [V.out];simp [cW],rfl,oM,oM⟩
theorem vC {ts : List Ty} {k : adA} {ks : List V} {bs : List Nat} {w : V} {b : Nat} (hl : bs.length = ks.length) (h : ∀ i,i < ks.length → RepR G ts (ab ks i) k (ab bs i)) (hw : RepR G ts w k b) : ∀ i,i < (ks ++ [w]).length → RepR G ts (ab (ks ++ [w]) i) k (ab (bs ++ [b]) i):=fun i hi=>by
 by_cases h1 : i < ks.length
 ·have e1 : ab (ks ++ [w]) i = ab ks i:=by rw [aA hi,aA h1,List.getElem_append_left h1]
  have e2 : ab (bs ++ [b]) i = ab bs i:=by rw [aA (by simp;omega),aA oM,List.getElem_append_left oM]
  rw [e1,e2];exact h i h1
 ·have h2 : i = ks.length:=by simp at hi;omega
  have e1 : ab (ks ++ [w]) i = w:=by rw [aA hi];simp [h2]
  have e2 : ab (bs ++ [b]) i = b:=by rw [aA (by simp;omega)];simp [h2,hl]
  rw [e1,e2];exact hw
theorem qI {u : Value} {vs : List cy} {kd : adA} {deep cp : Int} {ct : Nat} (hcp : 0 ≤ cp ∧ cp ≤ 100000000) (hct : ct ≤ 100000000) (hD : 0 < deep → fC u vs kd (deep - 1) cp ct) (hu : u.oneCell' = true) (hkl : kd.length ≤ 1000) (hd : -1000 ≤ deep ∧ deep ≤ 1000) : fC u vs (91 :: kd) deep (3 * cp + 10) (3 * ct + 200):=by
 intro G r code p l hR hs hp
 have hkd0 : bt (91 :: kd) (Int.toNat 0) = 91:=bj 91 kd
 have hkl2 : (91 :: kd).length = kd.length + 1:=rfl
 refine bY [(0,_),(1,_),(2,_),(3,_)] Tryz.func79 kR Tryz.ntmps79 rfl rfl tU fun B hB hW=>?_
 repeat' (first | refine jM ?_ | (refine jo ?_;first | refine jV (ax rfl rfl) ?_ | refine jO fun _=>?_ | (refine aI rfl rfl rfl (c7 ?_ (by (repeat (assumption));done)) rfl ?_;(focus omega);rintro _ _ ⟨k,rfl,rfl,hk0,hk1⟩;dsimp only [zA,fA])) | refine ac rfl rfl ?_ | refine ad rfl rfl ?_)
 rename_i y
 refine Nx.addNil vr 1 ?_
 refine aT (ι:=List V × List Nat × Option Addr × Nat × Int × Int × Gh) (fun j=>((j.2.1.length = j.1.length ∧ ∀ i,i < j.1.length → RepR j.2.2.2.2.2.2 (ah vs) (ab j.1 i) kd (ab j.2.1 i)) ∧ Gh.le G j.2.2.2.2.2.2) ∧ (0 ≤ j.2.2.2.2.1 ∧ ((j.1.length : Nat) : Int) + j.2.2.2.2.1 ≤ 3) ∧ V.tots j.1 ≤ ct * j.1.length ∧ p ≤ j.2.2.2.2.2.1 ∧ j.2.2.2.2.2.1 ≤ p + 1 + cp * ((j.1.length : Nat) : Int)) (fun j=>[(0,Pt r 0),(1,u),(2,S (91 :: kd)),(3,I deep),(9,Pt y 0),(10,I j.2.2.2.2.1)]) (fun j=>j.2.2.2.2.2.2) (fun j=>[.acc (.slice j.2.2.1 j.1.length j.2.2.2.1) vr 1 j.1.length (ak dw j.2.1),eC r code j.2.2.2.2.2.1 dv,.blk y (.cells (List.toArray [S (91 :: kd),S [],aQ,.slice j.2.2.1 j.1.length j.2.2.2.1]) n7 (0,0))]) (fun j=>j.2.2.2.2.1.toNat) ([],[],none,0,k,p + 1,G) ?_ tU rfl a7 (fun j Hj=>?_)
 ·refine ⟨⟨⟨rfl,fun i hi=>absurd hi (by simp)⟩,Gh.le.refl _⟩,?_,?_,?_,?_⟩
  ·dsimp only;simp only [List.length_nil];omega
  ·simp [V.tots]
  ·dsimp only;omega
  ·dsimp only;simp
 obtain ⟨ks,bs,a,c,kk,q,Gq⟩:=j
 dsimp only at Hj ⊢
 obtain ⟨⟨⟨hbl,hreps⟩,hgq⟩,hk,htt,hq0,hq1⟩:=Hj
 have hcl : cp * ((ks.length : Nat) : Int) ≤ cp * 3:=Int.mul_le_mul_of_nonneg_left oM hcp.1
 have hcl0 : 0 ≤ cp * ((ks.length : Nat) : Int):=Int.mul_nonneg hcp.1 oM
 have htl : ct * ks.length ≤ ct * 3:=Nat.mul_le_mul_left _ oM
 by_cases hgo : 0 < kk ∧ 0 < deep
 ·obtain ⟨hk0,hd0⟩:=hgo
  have hcl3 : cp * ((ks.length : Nat) : Int) + cp ≤ cp * 3:=by
   have:=Int.mul_le_mul_of_nonneg_left (show ((ks.length : Nat) : Int) + 1 ≤ 3 by omega) hcp.1
   rwa [Int.mul_add,Int.mul_one] at this
  have cx_dv:=fun {p : Int} (hp : 0 ≤ p ∧ p + cp ≤ 600000000000)=>hD hd0 Gq r code p l (hR.mono hgq) (hs.mono hgq) hp
  repeat' (first | refine jR ?_ | (refine jo ?_;refine aM rfl ?_) | refine aF rfl rfl (ay ‹_›) ?_ | refine ac rfl (ay ‹_›) ?_)
  (refine am (ao (id:=16) [] (fun _ h=>absurd h (by simp)) al ?_);refine jW 7 [0,1,2,3,5,6,7,8,9,10] (aa 17 2031) ?_;refine b8 [4,11] kR dC ⟨?_,?_,trivial⟩;(focus (refine aO rfl rfl ?_;(refine aD rfl ?_);refine jK (aa 17 2047) ?_;refine jA 11 rfl ?_;((refine eH rfl rfl rfl (cx_dv ?_) rfl ?_;(focus omega);rintro _ G1 _ hle ⟨w1,b1,q1,rfl,hrep,htot,hone,rfl,hq1,hq2⟩;dsimp only [zA,fA];skip));refine jK (aa 17 4095) ?_;refine jA 12 rfl ?_;(refine jF fun _=>?_);refine jK (aa 17 8191) ?_;refine jA 13 rfl ?_;((refine bD rfl rfl rfl rfl rfl rfl rfl rfl rfl ?_ fun _ _=>?_;focus omega));refine jK (aa 17 16383) ?_;refine jW 1 [14,15] (aa 17 65535) ?_;refine jA 16 rfl ?_;(refine jD rfl rfl rfl ?_);refine jK (aa 17 131071) ?_;refine jQ ?_));rotate_left 1;(focus (refine aO rfl rfl ?_;((refine eH rfl rfl rfl (cx_dv ?_) rfl ?_;(focus omega);rintro _ G1 _ hle ⟨w1,b1,q1,rfl,hrep,htot,hone,rfl,hq1,hq2⟩;dsimp only [zA,fA];skip));refine jK (aa 17 4079) ?_;refine b8 [4,12] kR dC ⟨?_,?_,trivial⟩;(focus (refine aO rfl rfl ?_;(refine aD rfl ?_);refine jK (aa 17 4095) ?_;refine jA 12 rfl ?_;(refine jF fun _=>?_);refine jK (aa 17 8191) ?_;refine jA 13 rfl ?_;((refine bD rfl rfl rfl rfl rfl rfl rfl rfl rfl ?_ fun _ _=>?_;focus omega));refine jK (aa 17 16383) ?_;refine jW 1 [14,15] (aa 17 65535) ?_;refine jA 16 rfl ?_;(refine jD rfl rfl rfl ?_);refine jK (aa 17 131071) ?_;refine jQ ?_));rotate_left 1;(focus (refine aO rfl rfl ?_;(refine jF fun _=>?_);refine jK (aa 17 8175) ?_;refine jA 4 rfl ?_;(refine aD rfl ?_);refine jK (aa 17 8191) ?_;refine jA 13 rfl ?_;((refine bD rfl rfl rfl rfl rfl rfl rfl rfl rfl ?_ fun _ _=>?_;focus omega));refine jK (aa 17 16383) ?_;refine jW 1 [14,15] (aa 17 65535) ?_;refine jA 16 rfl ?_;(refine jD rfl rfl rfl ?_);refine jK (aa 17 131071) ?_;refine jQ ?_));rotate_left 1));rotate_left 2)
  all_goals repeat' (refine jM ?_)
  all_goals
   rename_i _ y1 yc
   have hl1 : (ks ++ [w1]).length = ks.length + 1:=by simp
   have hms : ct * (ks.length + 1) = ct * ks.length + ct:=Nat.mul_succ _ _
   have hts : V.tots (ks ++ [w1]) = V.tots ks + w1.tot:=by simp [dY,V.tots]
   rw [show ak dw bs ++ [Pt b1 0] = ak dw (bs ++ [b1]) from (bR dw bs b1).symm]
   exact bh (ks ++ [w1],bs ++ [b1],some ⟨y1,0,none⟩,yc,kk - 1,q1,G1) ⟨⟨⟨by simp [hbl],vC hbl (fun i hi=>(hreps i hi).mono hle) hrep⟩,hgq.trans hle⟩,by dsimp only;rw [hl1];omega,by dsimp only;rw [hl1,hms,hts];omega,by dsimp only;omega,by dsimp only;rw [hl1,Int.natCast_succ,Int.mul_add,Int.mul_one];omega⟩ (by dsimp only;omega) tU rfl (by rw [hl1];repeat (first | exact List.Sublist.refl _ | apply List.Sublist.cons_cons | apply List.Sublist.cons))
 ·have : kk = 0 ∨ deep ≤ 0:=oM
  repeat' (first | refine jR ?_ | (refine jo ?_;first | refine aM rfl ?_ | refine aC rfl ?_) | refine fp rfl rfl (fun _=>?_) (fun _=>?_) | (refine ad rfl (by first | rfl | (refine decide_eq_false ?_;(omega))) ?_))
  all_goals
   refine Nx.sealS (v:=.slice a ks.length c) fun G2 hG2 hsl=>?_
   refine Nx.sealC (b:=y) fun G3 hG3 hsg=>?_
   exact aW (vs:=[_]) rfl ⟨rfl,trivial⟩ rfl a7 ⟨hgq.trans (hG2.trans hG3),.nd 91 [] 0 ks,y,q,rfl,.lst kd y ks bs a c hsg (hsl.mono hG3) hbl (fun i hi=>(hreps i hi).mono (hG2.trans hG3)),by rw [bA];simp only [List.length_nil];omega,by rw [V.out];simp [cW],rfl,oM,oM⟩
theorem tj {u : Value} {vs : List cy} {kd : adA} {deep cp : Int} {ct : Nat} (hcp : 0 ≤ cp ∧ cp ≤ 100000000) (hct : ct ≤ 100000000) (hD : 0 < deep → fC u vs kd (deep - 1) cp ct) (hu : u.oneCell' = true) (hkl : kd.length ≤ 1000) (hd : -1000 ≤ deep ∧ deep ≤ 1000) : fC u vs (63 :: kd) deep (cp + 10) (ct + 200):=by
 intro G r code p l hR hs hp
 have hkd0 : bt (63 :: kd) (Int.toNat 0) = 63:=bj 63 kd
 have hkl2 : (63 :: kd).length = kd.length + 1:=rfl
 by_cases h0 : 0 < deep
 ·have cx_dv:=fun {p : Int} (hp : 0 ≤ p ∧ p + cp ≤ 600000000000)=>hD h0 G r code p l hR hs hp
  refine bY [(0,_),(1,_),(2,_),(3,_)] Tryz.func79 kR Tryz.ntmps79 rfl rfl tU fun B hB hW=>?_
  repeat' (first | refine jM ?_ | (refine jo ?_;first | refine jV (ax rfl rfl) ?_ | refine jO fun _=>?_ | refine aM rfl ?_ | (refine aI rfl rfl rfl (c7 ?_ (by (repeat (assumption));done)) rfl ?_;(focus omega);rintro _ _ ⟨k,rfl,rfl,hk0,hk1⟩;dsimp only [zA,fA])) | refine aF rfl rfl (ay ‹_›) ?_ | refine ac rfl rfl ?_ | refine ad rfl rfl ?_ | refine eD rfl (fun _=>?_) (fun _=>?_))
  ·refine Nx.addNil vr 1 ?_
   (refine am (ao (id:=20) [] (fun _ h=>absurd h (by simp)) al ?_);refine jW 7 [0,1,2,3,5,6,7,8,9,10] (aa 17 2031) ?_;refine b8 [4,11] kR dC ⟨?_,?_,trivial⟩;(focus (refine aO rfl rfl ?_;(refine aD rfl ?_);refine jK (aa 17 2047) ?_;refine jA 11 rfl ?_;((refine eH rfl rfl rfl (cx_dv ?_) rfl ?_;(focus omega);rintro _ G1 _ hle ⟨w1,b1,q1,rfl,hrep,htot,hone,rfl,hq1,hq2⟩;dsimp only [zA,fA];skip));refine jK (aa 17 4095) ?_;refine jA 12 rfl ?_;(refine jF fun _=>?_);refine jK (aa 17 8191) ?_;refine jA 13 rfl ?_;((refine bD rfl rfl rfl rfl rfl rfl rfl rfl rfl ?_ fun _ _=>?_;focus omega));refine jK (aa 17 16383) ?_;refine jW 1 [14,15] (aa 17 65535) ?_;refine jA 16 rfl ?_;(refine jD rfl rfl rfl ?_);refine jK (aa 17 131071) ?_;refine jQ ?_));rotate_left 1;(focus (refine aO rfl rfl ?_;((refine eH rfl rfl rfl (cx_dv ?_) rfl ?_;(focus omega);rintro _ G1 _ hle ⟨w1,b1,q1,rfl,hrep,htot,hone,rfl,hq1,hq2⟩;dsimp only [zA,fA];skip));refine jK (aa 17 4079) ?_;refine b8 [4,12] kR dC ⟨?_,?_,trivial⟩;(focus (refine aO rfl rfl ?_;(refine aD rfl ?_);refine jK (aa 17 4095) ?_;refine jA 12 rfl ?_;(refine jF fun _=>?_);refine jK (aa 17 8191) ?_;refine jA 13 rfl ?_;((refine bD rfl rfl rfl rfl rfl rfl rfl rfl rfl ?_ fun _ _=>?_;focus omega));refine jK (aa 17 16383) ?_;refine jW 1 [14,15] (aa 17 65535) ?_;refine jA 16 rfl ?_;(refine jD rfl rfl rfl ?_);refine jK (aa 17 131071) ?_;refine jQ ?_));rotate_left 1;(focus (refine aO rfl rfl ?_;(refine jF fun _=>?_);refine jK (aa 17 8175) ?_;refine jA 4 rfl ?_;(refine aD rfl ?_);refine jK (aa 17 8191) ?_;refine jA 13 rfl ?_;((refine bD rfl rfl rfl rfl rfl rfl rfl rfl rfl ?_ fun _ _=>?_;focus omega));refine jK (aa 17 16383) ?_;refine jW 1 [14,15] (aa 17 65535) ?_;refine jA 16 rfl ?_;(refine jD rfl rfl rfl ?_);refine jK (aa 17 131071) ?_;refine jQ ?_));rotate_left 1));rotate_left 2)
   all_goals repeat' (refine jR ?_)
   all_goals
    rename_i y _ _ y1 yc
    refine Nx.sealS (v:=.slice (some ⟨y1,0,none⟩) (0 + 1) yc) fun G2 hG2 hsl=>?_
    refine Nx.sealC (b:=y) fun G3 hG3 hsg=>?_
    obtain ⟨_,⟨h,_⟩ | ⟨b2,o2,c2,e,hc2,hs2⟩⟩:=hsl
    ·cases h
    simp only [Value.slice.injEq,Option.some.injEq,Addr.mk.injEq,and_true] at e
    obtain ⟨⟨rfl,rfl⟩,-,rfl⟩:=e
    exact aW (vs:=[_]) rfl ⟨rfl,trivial⟩ rfl sB ⟨hle.trans (hG2.trans hG3),.nd 63 [] 0 [w1],y,q1,rfl,.opt kd y y1 b1 yc w1 oM hsg (hs2.mono hG3) (hrep.mono (hG2.trans hG3)),by simp only [bA,V.tots,List.length_nil];omega,by rw [V.out];simp [cW],rfl,oM,oM⟩
  ·rename_i y _
   refine Nx.sealC (b:=y) fun G2 hG2 hsy=>?_
   exact aW (vs:=[_]) rfl ⟨rfl,trivial⟩ rfl a7 ⟨hG2,.nd 63 [] 0 [],y,_,rfl,.non kd y hsy,by simp [bA,V.tots],by rw [V.out];simp [cW],rfl,oM,oM⟩
 ·refine bY [(0,_),(1,_),(2,_),(3,_)] Tryz.func79 kR Tryz.ntmps79 rfl rfl tU fun B hB hW=>?_
  repeat' (first | refine jM ?_ | (refine jo ?_;first | refine jV (ax rfl rfl) ?_ | refine jO fun _=>?_ | refine aC rfl ?_) | refine ar rfl rfl (aG ‹_›) ?_ | refine ac rfl rfl ?_ | refine ad rfl rfl ?_)
  rename_i y
  refine Nx.sealC (b:=y) fun G2 hG2 hsy=>?_
  exact aW (vs:=[_]) rfl ⟨rfl,trivial⟩ rfl a7 ⟨hG2,.nd 63 [] 0 [],y,_,rfl,.non kd y hsy,by simp [bA,V.tots],by rw [V.out];simp [cW],rfl,oM,oM⟩
abbrev oL : TypeId:=155
abbrev yD : TypeId:=56
abbrev yG : TypeId:=3
def qm (u : Value) (vs : List cy) (k : adA) (deep cp : Int) (ct : Nat) : Prop:=∀ (G : Gh) (r : Nat) (code : Value) (p : Int) (l : adA),SchR G u vs → aU G code 1 l.length (cr l) → 0 ≤ p ∧ p + cp ≤ 600000000000 →
 fK adz 113 [Pt r 0,u,S k,I deep] G [eC r code p dv] (fun v G' L'=>∃ w b q,v = Pt b 0 ∧ RepR G' (ah vs) w k b ∧ w.tot ≤ ct ∧ 1 ≤ w.out.length ∧ L' = [eC r code q dv] ∧ p ≤ q ∧ q ≤ p + cp)
theorem tf {u : Value} {vs : List cy} {k : adA} {deep cp : Int} {ct : Nat} (hD : qm u vs (64 :: k) deep cp ct) (hkl : k.length ≤ 1000) : fC u vs (64 :: k) deep cp ct:=by
 intro G r code p l hR hs hp
 have hkd0 : bt (64 :: k) (Int.toNat 0) = 64:=bj 64 k
 have hkl2 : (64 :: k).length = k.length + 1:=rfl
 have cx_dt:=fun {p : Int} (hp : 0 ≤ p ∧ p + cp ≤ 600000000000)=>hD G r code p l hR hs hp
 refine bY [(0,_),(1,_),(2,_),(3,_)] Tryz.func79 kR Tryz.ntmps79 rfl rfl tU fun B hB hW=>?_
 repeat' (first | refine jM ?_ | (refine jo ?_;first | refine jV (ax rfl rfl) ?_ | refine jO fun _=>?_ | (refine eH rfl rfl rfl (cx_dt ‹_›) rfl ?_;rintro _ G1 _ hle ⟨w1,b1,q1,rfl,hrep,htot,hone,rfl,hq1,hq2⟩;dsimp only [zA,fA];skip)) | refine ad rfl rfl ?_)
 exact aW (vs:=[_]) rfl ⟨rfl,trivial⟩ rfl sB ⟨hle,w1,b1,q1,rfl,hrep,htot,hone,rfl,hq1,hq2⟩
section
variable {u : Value} {vs : List cy} {kd nm : adA} {fs : List Fld} {a : Option Addr} {ca : Nat} {deep cp : Int} {ct : Nat}
theorem wM (hr : fc vs kd = some ((a,ca),⟨69,nm,fs⟩)) (hvl : vs.length ≤ 1000000) (hk : eV kd = true) (hkl : kd.length ≤ 1000) (h0 : 0 < fs.length) (h8 : fs.length ≤ 8) (hw : SchW (ah vs)) : qm u vs kd deep 10 300:=by
 intro G r code p l hR hs hp
 have href:=ff vs kd
 rw [hr] at href
 have cx_rf:=i8 (G:=G) (k:=kd) hR hvl hk oM
 rw [hr] at cx_rf
 have htm:=br href.symm
 obtain ⟨bf,of,cf,ef,hsf⟩:=(hR.fl _ (gq hr)).expl h0
 simp only [gn,Value.slice.injEq] at ef
 obtain ⟨rfl,-,rfl⟩:=ef
 dsimp only at hsf
 have cx_rf : a9 adz 116 [u,S kd] G (· = Tu [Ag [U8 (69 : Nat),S nm,.slice (some ⟨bf,of,none⟩) fs.length ca],Bo true]):=cx_rf
 refine bY [(0,_),(1,_),(2,_),(3,_)] Tryz.func113 kR Tryz.ntmps113 rfl rfl tU fun B hB hW=>?_
 repeat' (first | refine jR ?_ | (refine jo ?_;first | refine jL fun _=>?_ | refine jC rfl rfl rfl ?_ | refine aD rfl ?_ | refine jF fun _=>?_ | refine jV (iw rfl rfl (by (repeat (first | exact BL.nil | apply BL.lit rfl));done)) ?_ | refine jV (ax rfl rfl) ?_ | refine jO fun _=>?_ | refine ae rfl rfl rfl cx_rf rfl ?_) | refine ac rfl rfl ?_)
 rename_i y9 _ y11
 (refine am (ao (id:=5) [.blk y9 (.cells (List.toArray [U8 (69 : Nat),S nm,.slice (some ⟨bf,of,none⟩) fs.length ca]) oL (0,0))] (by intro y hy;simp only [List.mem_cons,List.not_mem_nil,or_false] at hy ⊢;simp [hy]) al ?_);refine jW 11 [0,1,3,4] (aa 15 27) ?_;(refine jG (aa 15 31) 2 rfl (aX rfl rfl rfl) ?_);(refine jG (aa 15 63) 5 rfl (aX rfl rfl rfl) ?_);(refine jG (aa 15 127) 6 rfl (af rfl) ?_);refine jA 7 rfl ?_;((refine aI rfl rfl rfl (c7 ?_ (by (repeat (assumption));done)) rfl ?_;(focus omega);rintro _ _ ⟨k,rfl,rfl,hk0,hk1⟩;dsimp only [zA,fA]));refine jK (aa 15 255) ?_;((refine jG (aa 15 511) 8 rfl (aN rfl rfl ?_) ?_;focus omega));refine jW 5 [9] (aa 15 1023) ?_;((refine jG (aa 15 2047) 10 rfl (bQ rfl rfl aS ?_ rfl rfl) ?_;focus omega));refine jA 11 rfl ?_;(refine jF fun _=>?_);refine jK (aa 15 4095) ?_;refine jW 1 [12,13] (aa 15 16383) ?_;refine jA 14 rfl ?_;(refine jD rfl rfl rfl ?_);refine jK (aa 15 32767) ?_;refine jQ ?_)
 all_goals repeat' (refine jR ?_)
 all_goals
  rename_i y1
  refine Nx.sealC (b:=y1) fun G2 hG2 hsy=>?_
  refine Nx.sealC (b:=y11) fun G3 hG3 hsg=>?_
  have hdm : ab fs k.toNat ∈ fs:=bc oM
  exact aW (vs:=[_]) rfl ⟨rfl,trivial⟩ rfl sB ⟨hG2.trans hG3,.nd 69 [] (ab fs k.toNat).tag [],y11,_,rfl,.enm kd y11 y1 ⟨69,nm,fs⟩ (ab fs k.toNat) ⟨href.symm,rfl⟩ hdm hsg (hsy.mono hG3),by simp [bA,V.tots],by rw [V.out];simp [cW],rfl,oM,oM⟩
theorem wL (hr : fc vs kd = some ((a,ca),⟨85,nm,fs⟩)) (hvl : vs.length ≤ 1000000) (hk : eV kd = true) (hkl : kd.length ≤ 1000) (h0 : 0 < fs.length) (h8 : fs.length ≤ 8) (hw : SchW (ah vs)) (hcp : 0 ≤ cp ∧ cp ≤ 100000000) (hct : ct ≤ 100000000)
  (hD : ∀ d ∈ fs,(0 < deep ∨ d = ab fs 0) → fC u vs d.kind (deep - 1) cp ct) (hd : -1000 ≤ deep ∧ deep ≤ 1000) : qm u vs kd deep (cp + 10) (ct + 20):=by
 intro G r code p l hR hs hp
 have href:=ff vs kd
 rw [hr] at href
 have cx_rf:=i8 (G:=G) (k:=kd) hR hvl hk oM
 rw [hr] at cx_rf
 have htm:=br href.symm
 obtain ⟨bf,of,cf,ef,hsf⟩:=(hR.fl _ (gq hr)).expl h0
 simp only [gn,Value.slice.injEq] at ef
 obtain ⟨rfl,-,rfl⟩:=ef
 dsimp only at hsf
 have cx_rf : a9 adz 116 [u,S kd] G (· = Tu [Ag [U8 (85 : Nat),S nm,.slice (some ⟨bf,of,none⟩) fs.length ca],Bo true]):=cx_rf
 refine bY [(0,_),(1,_),(2,_),(3,_)] Tryz.func113 kR Tryz.ntmps113 rfl rfl tU fun B hB hW=>?_
 repeat' (first | refine jM ?_ | (refine jo ?_;first | refine jL fun _=>?_ | refine jD rfl rfl rfl ?_ | refine jC rfl rfl rfl ?_ | refine aD rfl ?_ | (refine jV (dt rfl rfl aS ?_) ?_;focus omega) | refine jF fun _=>?_ | refine jV (iw rfl rfl (by (repeat (first | exact BL.nil | apply BL.lit rfl));done)) ?_ | refine jV (ax rfl rfl) ?_ | refine jO fun _=>?_ | refine jV (ag rfl rfl oM) ?_ | refine ae rfl rfl rfl cx_rf rfl ?_) | refine ac rfl rfl ?_ | refine ad rfl rfl ?_ | refine eD rfl (fun _=>?_) (fun _=>?_))
 ·rename_i y9 _ y11 y12 hd0
  (refine am (ao (id:=10) [.blk y9 (.cells (List.toArray [U8 (85 : Nat),S nm,.slice (some ⟨bf,of,none⟩) fs.length ca]) oL (0,0))] (by intro y hy;simp only [List.mem_cons,List.not_mem_nil,or_false] at hy ⊢;simp [hy]) al ?_);refine jW 7 [0,2,3] (aa 10 13) ?_;(refine jG (aa 10 15) 1 rfl (aX rfl rfl rfl) ?_);(refine jG (aa 10 31) 4 rfl (aX rfl rfl rfl) ?_);(refine jG (aa 10 63) 5 rfl (af rfl) ?_);refine jA 6 rfl ?_;((refine aI rfl rfl rfl (c7 ?_ (by (repeat (assumption));done)) rfl ?_;(focus omega);rintro _ _ ⟨k,rfl,rfl,hk0,hk1⟩;dsimp only [zA,fA]));refine jK (aa 10 127) ?_;((refine jG (aa 10 255) 7 rfl (aN rfl rfl ?_) ?_;focus omega));((refine jG (aa 10 511) 8 rfl (dt rfl rfl aS ?_) ?_;focus omega));refine jA 9 rfl ?_;(refine jC rfl rfl rfl ?_);refine jK (aa 10 1023) ?_;refine jQ ?_)
  all_goals have hdm : ab fs k.toNat ∈ fs:=bc oM
  all_goals have cx_dv:=fun {p : Int} (hp : 0 ≤ p ∧ p + cp ≤ 600000000000)=>hD (ab fs k.toNat) hdm (.inl hd0) G r code p l hR hs hp
  all_goals repeat' (first | refine jM ?_ | (refine jo ?_;first | refine jD rfl rfl rfl ?_ | refine aD rfl ?_ | refine jF fun _=>?_ | (refine eH rfl rfl rfl (cx_dv oM) rfl ?_;rintro _ G1 _ hle ⟨w1,b1,q1,rfl,hrep,htot,hone,rfl,hq1,hq2⟩;dsimp only [zA,fA];skip)))
  all_goals
   rename_i y1 y2
   refine Nx.sealC (b:=y1) fun G2 hG2 hs1=>?_
   refine Nx.sealC (b:=y2) fun G3 hG3 hs2=>?_
   refine Nx.sealC (b:=y11) fun G4 hG4 hsg=>?_
   exact aW (vs:=[_]) rfl ⟨rfl,trivial⟩ rfl sB ⟨((hle.trans hG2).trans hG3).trans hG4,.nd 85 [] (ab fs k.toNat).tag [w1],y11,_,rfl,.uni kd y11 y1 y2 b1 1 ⟨85,nm,fs⟩ (ab fs k.toNat) w1 (Nat.le_refl _) ⟨href.symm,rfl⟩ hdm hsg (hs1.mono (hG3.trans hG4)) (hs2.mono hG4) (hrep.mono ((hG2.trans hG3).trans hG4)),by simp only [bA,V.tots,List.length_nil];omega,by rw [V.out];simp [cW],rfl,oM,oM⟩
 ·have cx_dv:=fun {p : Int} (hp : 0 ≤ p ∧ p + cp ≤ 600000000000)=>hD (ab fs 0) (bc h0) (.inr rfl) G r code p l hR hs hp
  repeat' (first | refine jR ?_ | (refine jo ?_;first | refine jD rfl rfl rfl ?_ | refine jF fun _=>?_ | (refine eH rfl rfl rfl (cx_dv oM) rfl ?_;rintro _ G1 _ hle ⟨w1,b1,q1,rfl,hrep,htot,hone,rfl,hq1,hq2⟩;dsimp only [zA,fA];skip)))
  all_goals
   rename_i y9 _ y11 y12 _ y1 y2
   refine Nx.sealC (b:=y1) fun G2 hG2 hs1=>?_
   refine Nx.sealC (b:=y2) fun G3 hG3 hs2=>?_
   refine Nx.sealC (b:=y11) fun G4 hG4 hsg=>?_
   exact aW (vs:=[_]) rfl ⟨rfl,trivial⟩ rfl sB ⟨((hle.trans hG2).trans hG3).trans hG4,.nd 85 [] (ab fs 0).tag [w1],y11,_,rfl,.uni kd y11 y1 y2 b1 1 ⟨85,nm,fs⟩ (ab fs 0) w1 (Nat.le_refl _) ⟨href.symm,rfl⟩ (bc h0) hsg (hs1.mono (hG3.trans hG4)) (hs2.mono hG4) (hrep.mono ((hG2.trans hG3).trans hG4)),by simp only [bA,V.tots,List.length_nil];omega,by rw [V.out];simp [cW],rfl,oM,oM⟩
theorem z4 (hr : fc vs kd = some ((a,ca),⟨82,nm,fs⟩)) (hvl : vs.length ≤ 1000000) (hk : eV kd = true) (hkl : kd.length ≤ 1000) (h8 : fs.length ≤ 8) (hd : -1000 ≤ deep ∧ deep ≤ 0) : qm u vs kd deep 10 100:=by
 intro G r code p l hR hs hp
 have href:=ff vs kd
 rw [hr] at href
 have cx_rf:=i8 (G:=G) (k:=kd) hR hvl hk oM
 rw [hr] at cx_rf
 have cx_rf : a9 adz 116 [u,S kd] G (· = Tu [Ag [U8 (82 : Nat),S nm,.slice a fs.length ca],Bo true]):=cx_rf
 refine bY [(0,_),(1,_),(2,_),(3,_)] Tryz.func113 kR Tryz.ntmps113 rfl rfl tU fun B hB hW=>?_
 repeat' (first | refine jR ?_ | (refine jo ?_;first | refine jL fun _=>?_ | refine jC rfl rfl rfl ?_ | refine aD rfl ?_ | refine jF fun _=>?_ | refine jV (iw rfl rfl (by (repeat (first | exact BL.nil | apply BL.lit rfl));done)) ?_ | refine jV (ax rfl rfl) ?_ | refine jO fun _=>?_ | refine ae rfl rfl rfl cx_rf rfl ?_) | refine ad rfl rfl ?_)
 rename_i y9 _ y11
 refine aT (ι:=Unit) (fun i=>True) (fun i=>[(0,Pt r 0),(1,u),(2,S kd),(3,I deep),(9,Pt y9 0),(11,Pt y11 0),(13,I 0)]) (fun _=>G) (fun i=>[.blk y11 (.cells (List.toArray [S kd,S [82],aQ,aQ]) n7 (0,0)),.blk y9 (.cells (List.toArray [U8 (82 : Nat),S nm,.slice a fs.length ca]) oL (0,0)),eC r code p dv]) (fun i=>0) () ?_ tU rfl sB (fun i Hi=>?_)
 ·trivial
 by_cases h0 : 0 < fs.length
 all_goals repeat' (first | refine jR ?_ | (refine jo ?_;first | refine aD rfl ?_ | refine jV (af rfl) ?_ | refine aM rfl ?_ | refine aC rfl ?_) | refine aF rfl rfl (ay oM) ?_ | refine ar rfl rfl (aG oM) ?_ | (refine ad rfl (by first | rfl | (refine decide_eq_false ?_;(omega))) ?_))
 all_goals
  refine Nx.sealC (b:=y11) fun G2 hG2 hsg=>?_
  exact aW (vs:=[_]) rfl ⟨rfl,trivial⟩ rfl sB ⟨hG2,.nd 82 [] 0 [],y11,p,rfl,.recd kd y11 ⟨82,nm,fs⟩ [] [] none none 0 0 ⟨href.symm,rfl⟩ hsg ⟨rfl,.inl ⟨rfl,rfl⟩⟩ ⟨rfl,.inl ⟨rfl,rfl⟩⟩ rfl (fun i hi=>absurd hi (by simp)) (fun i hi=>absurd hi (by simp)),by simp [bA,V.tots],by rw [V.out];simp [cW],rfl,oM,oM⟩
theorem abz (hr : fc vs kd = some ((a,ca),⟨82,nm,fs⟩)) (hvl : vs.length ≤ 1000000) (hk : eV kd = true) (hkl : kd.length ≤ 1000) (h8 : fs.length ≤ 8) (hw : SchW (ah vs)) (hcp : 0 ≤ cp ∧ cp ≤ 100000000) (hct : ct ≤ 100000000)
  (hD : ∀ d ∈ fs,fC u vs d.kind (deep - 1) cp ct) (hd : 0 < deep ∧ deep ≤ 1000) : qm u vs kd deep (8 * cp + 20) (8 * ct + 200):=by
 intro G r code p l hR hs hp
 have href:=ff vs kd
 rw [hr] at href
 have cx_rf:=i8 (G:=G) (k:=kd) hR hvl hk oM
 rw [hr] at cx_rf
 have htm:=br href.symm
 have cx_rf : a9 adz 116 [u,S kd] G (· = Tu [Ag [U8 (82 : Nat),S nm,.slice a fs.length ca],Bo true]):=cx_rf
 refine bY [(0,_),(1,_),(2,_),(3,_)] Tryz.func113 kR Tryz.ntmps113 rfl rfl tU fun B hB hW=>?_
 repeat' (first | refine jR ?_ | (refine jo ?_;first | refine jL fun _=>?_ | refine jC rfl rfl rfl ?_ | refine aD rfl ?_ | refine jF fun _=>?_ | refine jV (iw rfl rfl (by (repeat (first | exact BL.nil | apply BL.lit rfl));done)) ?_ | refine jV (ax rfl rfl) ?_ | refine jO fun _=>?_ | refine ae rfl rfl rfl cx_rf rfl ?_) | refine ad rfl rfl ?_)
 rename_i y9 _ y11
 refine Nx.addNil yG 1 (Nx.addNil yD 1 ?_)
 refine Nx.perm (((List.perm_append_comm (l₁:=[_,_,_]) (l₂:=[_])).cons _).cons _) ?_
 dsimp only [zA,fA]
 refine aT (ι:=List (Fld × V) × List Nat × Option Addr × Nat × Option Addr × Nat × Nat × Int × Gh) (fun j=>((j.2.1.length = j.1.length ∧ (∀ i,i < j.1.length → (ab j.1 i).1 ∈ fs) ∧ ∀ i,i < j.1.length → RepR j.2.2.2.2.2.2.2.2 (ah vs) (ab j.1 i).2 (ab j.1 i).1.kind (ab j.2.1 i)) ∧ Gh.le G j.2.2.2.2.2.2.2.2) ∧ (j.1.length ≤ j.2.2.2.2.2.2.1 ∧ j.2.2.2.2.2.2.1 ≤ fs.length) ∧ V.tots (ir j.1) ≤ (ct + 20) * j.1.length ∧ p ≤ j.2.2.2.2.2.2.2.1 ∧ j.2.2.2.2.2.2.2.1 ≤ p + (cp + 1) * ((j.2.2.2.2.2.2.1 : Nat) : Int)) (fun j=>[(0,Pt r 0),(1,u),(2,S kd),(3,I deep),(9,Pt y9 0),(11,Pt y11 0),(13,I ((j.2.2.2.2.2.2.1 : Nat) : Int))]) (fun j=>j.2.2.2.2.2.2.2.2) (fun j=>[.acc (.slice j.2.2.2.2.1 j.1.length j.2.2.2.2.2.1) yD 1 j.1.length (ak dw j.2.1),.acc (.slice j.2.2.1 j.1.length j.2.2.2.1) yG 1 j.1.length (ak cH (j.1.map fun p=>p.1.tag)),eC r code j.2.2.2.2.2.2.2.1 dv,.blk y11 (.cells (List.toArray [S kd,S [82],.slice j.2.2.1 j.1.length j.2.2.2.1,.slice j.2.2.2.2.1 j.1.length j.2.2.2.2.2.1]) n7 (0,0)),.blk y9 (.cells (List.toArray [U8 (82 : Nat),S nm,.slice a fs.length ca]) oL (0,0))]) (fun j=>fs.length - j.2.2.2.2.2.2.1) ([],[],none,0,none,0,0,p,G) ?_ tU rfl sB (fun j Hj=>?_)
 ·refine ⟨⟨⟨rfl,fun i hi=>absurd hi (by simp),fun i hi=>absurd hi (by simp)⟩,Gh.le.refl _⟩,?_,?_,?_,?_⟩
  ·exact ⟨Nat.le_refl _,Nat.zero_le _⟩
  ·simp [ir,V.tots]
  ·dsimp only;omega
  ·dsimp only;simp
 obtain ⟨gs,bs,a1,c1,a2,c2,i,q,Gq⟩:=j
 dsimp only at Hj ⊢
 obtain ⟨⟨⟨hbl,hfm,hreps⟩,hgq⟩,hil,htt,hq0,hq1⟩:=Hj
 have hcl : (cp + 1) * ((i : Nat) : Int) ≤ (cp + 1) * 8:=Int.mul_le_mul_of_nonneg_left oM oM
 have hcl0 : 0 ≤ (cp + 1) * ((i : Nat) : Int):=Int.mul_nonneg oM oM
 have htl : (ct + 20) * gs.length ≤ (ct + 20) * 8:=Nat.mul_le_mul_left _ oM
 by_cases hgo : i < fs.length
 ·have hcl3 : (cp + 1) * ((i : Nat) : Int) + (cp + 1) ≤ (cp + 1) * 8:=by
   have:=Int.mul_le_mul_of_nonneg_left (show ((i : Nat) : Int) + 1 ≤ 8 by omega) (show 0 ≤ cp + 1 by omega)
   rwa [Int.mul_add,Int.mul_one] at this
  obtain ⟨bf,of,cf,ef,hsf⟩:=(hR.fl _ (gq hr)).expl (by dsimp only;omega)
  simp only [gn,Value.slice.injEq] at ef
  obtain ⟨rfl,-,rfl⟩:=ef
  dsimp only at hsf
  have hdm : ab fs i ∈ fs:=bc hgo
  have hdk : aB (ah vs) (ab fs i).kind = true:=dT hw htm (by simp) hdm
  have cx_dv:=fun {p : Int} (hp : 0 ≤ p ∧ p + cp ≤ 600000000000)=>hD (ab fs i) hdm Gq r code p l (hR.mono hgq) (hs.mono hgq) hp
  have hsf:=hsf.mono hgq
  repeat' (first | refine jM ?_ | (refine jo ?_;first | refine aD rfl ?_ | (refine jV (bQ rfl rfl aS ?_ rfl rfl) ?_;focus omega) | refine jV (af rfl) ?_ | refine jV (ag rfl rfl oM) ?_ | refine aM rfl ?_ | (refine eH rfl rfl rfl (cx_dv oM) rfl ?_;rintro _ G1 _ hle ⟨w1,b1,q1,rfl,hrep,htot,hone,rfl,hq1,hq2⟩;dsimp only [zA,fA];(try have hsf:=hsf.mono hle))) | refine aF rfl rfl (ay oM) ?_ | refine ac rfl (ay oM) ?_)
  have hgl:=hgq.trans hle
  have cx_pk3 : ∀ {p : Int},0 ≤ p ∧ p ≤ 1000000000000 → dF adz 45 [Pt r 0,I 3] G1 [eC r code p dv] (fun v L'=>L' = [eC r code (p + 1) dv] ∧ (v = I 0 ∨ ∃ k,v = I k ∧ 0 < k)):=fun {p} hp=>(c7 (b:=r) (p:=p) (n:=3) ⟨hp.1,hp.2,by decide⟩ (hs.mono hgl)).mono fun v G' L' ⟨h1,k,h2,h3,h4,h5⟩=>⟨h1,h3,by subst h2;rcases (show k = 0 ∨ 0 < k by omega) with rfl | h;exact .inl rfl;exact .inr ⟨k,rfl,h⟩⟩
  have cx_out:=fP hw hrep oM
  have cx_sta:=my (f:=ab fs i) (hR.mono hgl) hw hdk
  have hms : (cp + 1) * ((i + 1 : Nat) : Int) = (cp + 1) * ((i : Nat) : Int) + (cp + 1):=by rw [Int.natCast_succ,Int.mul_add,Int.mul_one]
  by_cases heq : w1.out = bT (ah vs) (ab fs i)
  ·(refine am (ao (id:=18) [.blk y9 (.cells (List.toArray [U8 (82 : Nat),S nm,.slice (some ⟨bf,of,none⟩) fs.length ca]) oL (0,0))] (by intro y hy;simp only [List.mem_cons,List.not_mem_nil,or_false] at hy ⊢;simp [hy]) al ?_);refine jW 14 [0] (aa 15 1) ?_;refine b8 [1] kR dC ⟨?_,trivial⟩;(refine aO rfl rfl ?_;(refine aI rfl rfl rfl (cx_pk3 oM) rfl ?_;rintro _ _ ⟨rfl,rfl | ⟨k,rfl,hk0⟩⟩ <;> dsimp only [zA,fA])) <;> (refine jS (aa 15 3) ?_;refine jT 11 [2,3] (aa 15 15) ?_;(try (first | (refine Nx.re (d:=107) (v':=Bo true) rfl (congrArg Value.bool (ay ‹_›)) ?_) | refine Nx.re (d:=107) (v':=Bo false) rfl (congrArg Value.bool rfl) ?_));refine jT 7 [4,6,7,9] (aa 15 735) ?_;(first | refine jG (aa 15 991) 8 rfl (aX rfl rfl rfl) ?_ | refine jN (aa 15 991) 8 rfl ?_);(first | refine jG (aa 15 2015) 10 rfl (ag rfl rfl oM) ?_ | refine jN (aa 15 2015) 10 rfl ?_);(first | (refine jG (aa 15 4063) 11 rfl (dt rfl rfl aS ?_) ?_;focus omega) | refine jN (aa 15 4063) 11 rfl ?_);(first | refine jN (aa 15 4095) 5 rfl ?_ | (refine jA 5 rfl ?_;(refine ae rfl rfl rfl cx_out rfl ?_);refine jS (aa 15 4095) ?_));(first | refine jN (aa 15 8191) 12 rfl ?_ | (refine jA 12 rfl ?_;(refine ae rfl rfl rfl cx_sta rfl ?_);refine jS (aa 15 8191) ?_));refine jT 1 [13] (aa 15 16383) ?_;(first | refine jG (aa 15 32767) 14 rfl (bO rfl rfl rfl) ?_ | refine jG (aa 15 32767) 14 rfl (bm rfl rfl rfl) ?_);refine jQ ?_))
   all_goals repeat' (first | refine jM ?_ | (refine ad rfl ?_ ?_;(focus ((first | rfl | (simp [*];done));done))))
   all_goals
    refine Nx.perm ((List.Perm.swap _ _ _).trans ((List.Perm.swap _ _ _).cons _)) ?_
    exact bh (gs,bs,a1,c1,a2,c2,i + 1,q1 + 1,G1) ⟨⟨⟨hbl,hfm,fun i hi=>(hreps i hi).mono hle⟩,hgl⟩,⟨by dsimp only;omega,by dsimp only;omega⟩,htt,by dsimp only;omega,by dsimp only;rw [hms];omega⟩ (by dsimp only;omega) tU rfl a7
  ·(refine am (ao (id:=18) [.blk y9 (.cells (List.toArray [U8 (82 : Nat),S nm,.slice (some ⟨bf,of,none⟩) fs.length ca]) oL (0,0))] (by intro y hy;simp only [List.mem_cons,List.not_mem_nil,or_false] at hy ⊢;simp [hy]) al ?_);refine jW 14 [0] (aa 15 1) ?_;refine b8 [1] kR dC ⟨?_,trivial⟩;(refine aO rfl rfl ?_;(refine aI rfl rfl rfl (cx_pk3 oM) rfl ?_;rintro _ _ ⟨rfl,rfl | ⟨k,rfl,hk0⟩⟩ <;> dsimp only [zA,fA])) <;> (refine jS (aa 15 3) ?_;refine jT 11 [2,3] (aa 15 15) ?_;(try (first | (refine Nx.re (d:=107) (v':=Bo true) rfl (congrArg Value.bool (ay ‹_›)) ?_) | refine Nx.re (d:=107) (v':=Bo false) rfl (congrArg Value.bool rfl) ?_));refine jT 7 [4,6,7,9] (aa 15 735) ?_;(first | refine jG (aa 15 991) 8 rfl (aX rfl rfl rfl) ?_ | refine jN (aa 15 991) 8 rfl ?_);(first | refine jG (aa 15 2015) 10 rfl (ag rfl rfl oM) ?_ | refine jN (aa 15 2015) 10 rfl ?_);(first | (refine jG (aa 15 4063) 11 rfl (dt rfl rfl aS ?_) ?_;focus omega) | refine jN (aa 15 4063) 11 rfl ?_);(first | refine jN (aa 15 4095) 5 rfl ?_ | (refine jA 5 rfl ?_;(refine ae rfl rfl rfl cx_out rfl ?_);refine jS (aa 15 4095) ?_));(first | refine jN (aa 15 8191) 12 rfl ?_ | (refine jA 12 rfl ?_;(refine ae rfl rfl rfl cx_sta rfl ?_);refine jS (aa 15 8191) ?_));refine jT 1 [13] (aa 15 16383) ?_;(first | refine jG (aa 15 32767) 14 rfl (bO rfl rfl rfl) ?_ | refine jG (aa 15 32767) 14 rfl (bm rfl rfl rfl) ?_);refine jQ ?_))
   ·repeat' (first | refine jM ?_ | refine ad rfl rfl ?_)
    refine Nx.perm ((List.Perm.swap _ _ _).trans ((List.Perm.swap _ _ _).cons _)) ?_
    exact bh (gs,bs,a1,c1,a2,c2,i + 1,q1 + 1,G1) ⟨⟨⟨hbl,hfm,fun i hi=>(hreps i hi).mono hle⟩,hgl⟩,⟨by dsimp only;omega,by dsimp only;omega⟩,htt,by dsimp only;omega,by dsimp only;rw [hms];omega⟩ (by dsimp only;omega) tU rfl a7
   ·repeat' (first | refine jR ?_ | refine ac rfl (ay ‹_›) ?_)
    have hl' : (gs ++ [(ab fs i,w1)]).length = gs.length + 1:=by simp
    have hbl' : (bs ++ [b1]).length = (gs ++ [(ab fs i,w1)]).length:=by simp [hbl]
    have hnth : ∀ j,j < (gs ++ [(ab fs i,w1)]).length → (j < gs.length ∧ ab (gs ++ [(ab fs i,w1)]) j = ab gs j ∧ ab (bs ++ [b1]) j = ab bs j) ∨ (ab (gs ++ [(ab fs i,w1)]) j = (ab fs i,w1) ∧ ab (bs ++ [b1]) j = b1):=fun j hj=>by
     by_cases h1 : j < gs.length
     ·exact .inl ⟨h1,by rw [aA hj,aA h1,List.getElem_append_left h1],by rw [aA oM,aA oM,List.getElem_append_left oM]⟩
     ·have h2 : j = gs.length:=oM
      exact .inr ⟨by rw [aA hj];simp [h2],by rw [aA oM];simp [h2,hbl]⟩
    have hfm' : ∀ j,j < (gs ++ [(ab fs i,w1)]).length → (ab (gs ++ [(ab fs i,w1)]) j).1 ∈ fs:=fun j hj=>by
     rcases hnth j hj with ⟨h1,h2,_⟩ | ⟨h2,_⟩
     ·rw [h2];exact hfm j h1
     ·rw [h2];exact hdm
    have hreps' : ∀ j,j < (gs ++ [(ab fs i,w1)]).length → RepR G1 (ah vs) (ab (gs ++ [(ab fs i,w1)]) j).2 (ab (gs ++ [(ab fs i,w1)]) j).1.kind (ab (bs ++ [b1]) j):=fun j hj=>by
     rcases hnth j hj with ⟨h1,h2,h3⟩ | ⟨h2,h3⟩
     ·rw [h2,h3];exact (hreps j h1).mono hle
     ·rw [h2,h3];exact hrep
    have hrow1 : ak cH (gs.map fun p=>p.1.tag) ++ [I (ab fs i).tag] = ak cH ((gs ++ [(ab fs i,w1)]).map fun p=>p.1.tag):=by rw [List.map_append];exact (bR cH _ (ab fs i).tag).symm
    have hrow2 : ak dw bs ++ [Pt b1 0] = ak dw (bs ++ [b1]):=(bR dw bs b1).symm
    have hnd : V.tots (ir (gs ++ [(ab fs i,w1)])) = V.tots (ir gs) + (20 + w1.tot):=by simp [ir,dY,V.tots,bA]
    have hmt : (ct + 20) * (gs.length + 1) = (ct + 20) * gs.length + (ct + 20):=Nat.mul_succ _ _
    (refine am (ao (id:=19) [.blk y9 (.cells (List.toArray [U8 (82 : Nat),S nm,.slice (some ⟨bf,of,none⟩) fs.length ca]) oL (0,0))] (by intro y hy;simp only [List.mem_cons,List.not_mem_nil,or_false] at hy ⊢;simp [hy]) al ?_);refine jW 10 [0,1,2,3,5,7] (aa 16 175) ?_;(refine jG (aa 16 239) 6 rfl (aX rfl rfl rfl) ?_);((refine jG (aa 16 495) 8 rfl (ag rfl rfl ?_) ?_;focus omega));refine jW 7 [9] (aa 16 1007) ?_;((refine jG (aa 16 2031) 10 rfl (bQ rfl rfl aS ?_ rfl rfl) ?_;focus omega));refine b8 [4,11] kR dC ⟨?_,?_,trivial⟩;(focus (refine aO rfl rfl ?_;(refine aD rfl ?_);refine jK (aa 16 2047) ?_;refine jA 11 rfl ?_;(refine jF fun _=>?_);refine jK (aa 16 4095) ?_;refine jA 12 rfl ?_;((refine bD rfl rfl rfl rfl rfl rfl rfl rfl rfl ?_ fun _ _=>?_;focus omega));refine jK (aa 16 8191) ?_;refine jW 1 [13,14] (aa 16 32767) ?_;refine jA 15 rfl ?_;(refine jD rfl rfl rfl ?_);refine jK (aa 16 65535) ?_;refine jQ ?_));rotate_left 1;(focus (refine aO rfl rfl ?_;(refine jF fun _=>?_);refine jK (aa 16 4079) ?_;refine jA 4 rfl ?_;(refine aD rfl ?_);refine jK (aa 16 4095) ?_;refine jA 12 rfl ?_;((refine bD rfl rfl rfl rfl rfl rfl rfl rfl rfl ?_ fun _ _=>?_;focus omega));refine jK (aa 16 8191) ?_;refine jW 1 [13,14] (aa 16 32767) ?_;refine jA 15 rfl ?_;(refine jD rfl rfl rfl ?_);refine jK (aa 16 65535) ?_;refine jQ ?_));rotate_left 1)
    all_goals repeat' (first | refine jM ?_ | (refine jo ?_;first | refine jD rfl rfl rfl ?_ | refine aD rfl ?_ | refine jF fun _=>?_ | refine bD rfl rfl rfl rfl rfl rfl rfl rfl rfl oM fun _ _=>?_))
    all_goals
     rename_i _ y1 yc1 _ y2 yc2
     rw [hrow1,hrow2]
     exact bh (gs ++ [(ab fs i,w1)],bs ++ [b1],some ⟨y1,0,none⟩,yc1,some ⟨y2,0,none⟩,yc2,i + 1,q1 + 1,G1) ⟨⟨⟨hbl',hfm',hreps'⟩,hgl⟩,⟨by dsimp only;rw [hl'];omega,by dsimp only;omega⟩,by dsimp only;rw [hl',hmt,hnd];omega,by dsimp only;omega,by dsimp only;rw [hms];omega⟩ (by dsimp only;omega) tU rfl (by rw [hl'];repeat (first | exact List.Sublist.refl _ | apply List.Sublist.cons_cons | apply List.Sublist.cons))
 ·repeat' (first | refine jR ?_ | (refine jo ?_;first | refine aD rfl ?_ | refine jV (af rfl) ?_ | refine aC rfl ?_) | refine ar rfl rfl (aG oM) ?_ | refine ad rfl rfl ?_)
  refine Nx.sealS (v:=.slice a2 gs.length c2) fun G2 hG2 hs1=>?_
  refine Nx.sealS (v:=.slice a1 gs.length c1) fun G3 hG3 hs2=>?_
  refine Nx.sealC (b:=y11) fun G4 hG4 hsg=>?_
  exact aW (vs:=[_]) rfl ⟨rfl,trivial⟩ rfl sB ⟨hgq.trans ((hG2.trans hG3).trans hG4),.nd 82 [] 0 (ir gs),y11,q,rfl,.recd kd y11 ⟨82,nm,fs⟩ gs bs a1 a2 c1 c2 ⟨href.symm,rfl⟩ hsg (hs2.mono hG4) (hs1.mono (hG3.trans hG4)) hbl hfm (fun i hi=>(hreps i hi).mono ((hG2.trans hG3).trans hG4)),by rw [bA];simp only [List.length_nil];omega,by rw [V.out];simp [cW],rfl,oM,oM⟩
end
theorem oV {ts : List Ty} {k : adA} (h : aB ts k = true) : ∃ c r,k = c :: r:=by
 cases k with
 | nil=>unfold aB bU eV at h;simp at h
 | cons c r=>exact ⟨c,r,rfl⟩
def oz : Nat → Int
 | 0=>105
 | d + 1=>8 * oz d + 40
def nC : Nat → Nat
 | 0=>480
 | d + 1=>8 * nC d + 400
theorem wS : ∀ d,d ≤ 4 → 0 ≤ oz d ∧ oz d ≤ 500000 ∧ nC d ≤ 3000000 ∧ 105 ≤ oz d ∧ 480 ≤ nC d:=by decide
theorem acy {u : Value} {vs : List cy} (hw : SchW (ah vs)) (hu : u.oneCell' = true) : ∀ (n : Nat) {k : adA} {deep : Int},n ≤ 9 → deep ≤ 0 → (n : Int) - 900 ≤ deep → aB (ah vs) k = true → (∀ t,a8 (ah vs) k = some t → ci (ah vs) n t = true) → fC u vs k deep (15 + 10 * n) (300 + 20 * n):=by
 have hvl : vs.length ≤ 8:=by have:=hw.len;unfold ah at this;simpa using this
 intro n
 induction n with
 | zero =>
  intro k deep _ hd hd2 hk he
  obtain ⟨c,r,rfl⟩:=oV hk
  have hkk:=cV (dh hk)
  simp only [List.length_cons] at hkk
  by_cases h1 : c.toNat = 91
  ·obtain rfl:=bX h1 dC
   exact (qI (cp:=0) (ct:=0) oM oM (fun h=>absurd h oM) hu oM oM).le oM oM
  by_cases h2 : c.toNat = 63
  ·obtain rfl:=bX h2 dC
   exact (tj (cp:=0) (ct:=0) oM oM (fun h=>absurd h oM) hu oM oM).le oM oM
  have h91 : ¬ (c.toNat = 91 ∨ c.toNat = 63):=fun h=>by rcases h with h | h <;> omega
  cases hr : a8 (ah vs) (c :: r) with
  | some t=>have:=he t hr;simp [ci] at this
  | none =>
   rcases dX hk h91 hr with e1 | e1 | e1
   ·rw [e1];exact tl.le oM oM
   ·rw [e1];exact th.le oM oM
   ·rw [e1];exact qJ.le oM oM
 | succ n ih =>
  intro k deep hn hd hd2 hk he
  obtain ⟨c,r,rfl⟩:=oV hk
  have hkk:=cV (dh hk)
  have hkk1:=hkk.1
  simp only [List.length_cons] at hkk
  by_cases h1 : c.toNat = 91
  ·obtain rfl:=bX h1 dC
   exact (qI (cp:=0) (ct:=0) oM oM (fun h=>absurd h oM) hu oM oM).le oM oM
  by_cases h2 : c.toNat = 63
  ·obtain rfl:=bX h2 dC
   exact (tj (cp:=0) (ct:=0) oM oM (fun h=>absurd h oM) hu oM oM).le oM oM
  have h91 : ¬ (c.toNat = 91 ∨ c.toNat = 63):=fun h=>by rcases h with h | h <;> omega
  cases hr : a8 (ah vs) (c :: r) with
  | none =>
   rcases dX hk h91 hr with e1 | e1 | e1
   ·rw [e1];exact tl.le oM oM
   ·rw [e1];exact th.le oM oM
   ·rw [e1];exact qJ.le oM oM
  | some t =>
   obtain ⟨r',e⟩:=dn hr
   simp only [List.cons.injEq] at e
   obtain ⟨rfl,rfl⟩:=e
   have href:=ff vs (64 :: r)
   rw [hr] at href
   rcases hrv : fc vs (64 :: r) with _ | ⟨⟨a,ca⟩,⟨so,nm,fs⟩⟩
   ·rw [hrv] at href;cases href
   rw [hrv] at href
   obtain rfl:=(Option.some.inj href).symm
   dsimp only at hr he
   have hTW:=hw.ty _ (br hr)
   have h8 : fs.length ≤ 8:=hTW.len
   refine tf ?_ oM
   rcases hTW.sort with h3 | h3 | h3 <;> dsimp only at h3 <;> subst h3
   ·exact fun G r code p l g1 g2 g3=>((z4 hrv oM hkk1 (by simp only [List.length_cons];omega) h8 oM) G r code p l g1 g2 ⟨g3.1,oM⟩).mono fun _ _ _ ⟨h6,w,b,q,h7,h8,h9,h10,h11,h12,h13⟩=>⟨h6,w,b,q,h7,h8,oM,h10,h11,h12,oM⟩
   ·have h0 : 0 < fs.length:=List.length_pos_iff.2 (hTW.ne (by simp))
    refine fun G r code p l g1 g2 g3=>((wL (cp:=15 + 10 * n) (ct:=300 + 20 * n) hrv oM hkk1 (by simp only [List.length_cons];omega) h0 h8 hw oM oM (fun d hdm hc=>?_) oM) G r code p l g1 g2 ⟨g3.1,oM⟩).mono fun _ _ _ ⟨h6,w,b,q,h7,h8,h9,h10,h11,h12,h13⟩=>⟨h6,w,b,q,h7,h8,oM,h10,h11,h12,oM⟩
    rcases hc with hc | rfl
    ·omega
    refine ih oM oM oM (dT hw (br hr) (by simp) hdm) fun t' ht'=>?_
    have:=he _ hr
    rw [ci,if_neg (by simp),jh] at this
    dsimp only at this
    rw [ht'] at this
    exact this
   ·have h0 : 0 < fs.length:=List.length_pos_iff.2 (hTW.ne (by simp))
    exact fun G r code p l g1 g2 g3=>((wM hrv oM hkk1 (by simp only [List.length_cons];omega) h0 h8 hw) G r code p l g1 g2 ⟨g3.1,oM⟩).mono fun _ _ _ ⟨h6,w,b,q,h7,h8,h9,h10,h11,h12,h13⟩=>⟨h6,w,b,q,h7,h8,oM,h10,h11,h12,oM⟩
theorem tm {u : Value} {vs : List cy} (hw : SchW (ah vs)) (hu : u.oneCell' = true) : ∀ (m : Nat) {k : adA} {deep : Int},m ≤ 4 → deep ≤ m → -800 ≤ deep → aB (ah vs) k = true → fC u vs k deep (oz m) (nC m):=by
 have hvl : vs.length ≤ 8:=by have:=hw.len;unfold ah at this;simpa using this
 have hz : ∀ {k : adA} {deep : Int},deep ≤ 0 → -800 ≤ deep → aB (ah vs) k = true → fC u vs k deep 105 480:=fun {k deep} h1 h2 h3=>(acy hw hu ((ah vs).length + 1) (by have:=hw.len;omega) h1 (by have:=hw.len;omega) h3 (fun t ht=>qH hw t ht)).le (by have:=hw.len;omega) (by have:=hw.len;omega)
 intro m
 induction m with
 | zero=>intro k deep _ hd hd2 hk;exact hz hd hd2 hk
 | succ m ih =>
  intro k deep hm hd hd2 hk
  have hcm:=wS m oM
  have e1 : oz (m + 1) = 8 * oz m + 40:=rfl
  have e2 : nC (m + 1) = 8 * nC m + 400:=rfl
  by_cases hd0 : deep ≤ 0
  ·exact (hz hd0 hd2 hk).le oM oM
  have hD : ∀ {k : adA},aB (ah vs) k = true → fC u vs k (deep - 1) (oz m) (nC m):=fun {k} hk=>ih oM oM oM hk
  obtain ⟨c,r,rfl⟩:=oV hk
  have hkk:=cV (dh hk)
  have hkk1:=hkk.1
  simp only [List.length_cons] at hkk
  by_cases h1 : c.toNat = 91
  ·obtain rfl:=bX h1 dC
   exact (qI oM oM (fun _=>hD (fG (.inl rfl) hk)) hu oM oM).le oM oM
  by_cases h2 : c.toNat = 63
  ·obtain rfl:=bX h2 dC
   exact (tj oM oM (fun _=>hD (fG (.inr rfl) hk)) hu oM oM).le oM oM
  have h91 : ¬ (c.toNat = 91 ∨ c.toNat = 63):=fun h=>by rcases h with h | h <;> omega
  cases hr : a8 (ah vs) (c :: r) with
  | none =>
   rcases dX hk h91 hr with e1 | e1 | e1
   ·rw [e1];exact tl.le oM oM
   ·rw [e1];exact th.le oM oM
   ·rw [e1];exact qJ.le oM oM
  | some t =>
   obtain ⟨r',e⟩:=dn hr
   simp only [List.cons.injEq] at e
   obtain ⟨rfl,rfl⟩:=e
   have href:=ff vs (64 :: r)
   rw [hr] at href
   rcases hrv : fc vs (64 :: r) with _ | ⟨⟨a,ca⟩,⟨so,nm,fs⟩⟩
   ·rw [hrv] at href;cases href
   rw [hrv] at href
   obtain rfl:=(Option.some.inj href).symm
   dsimp only at hr
   have hTW:=hw.ty _ (br hr)
   have h8 : fs.length ≤ 8:=hTW.len
   refine tf ?_ oM
   rcases hTW.sort with h3 | h3 | h3 <;> dsimp only at h3 <;> subst h3
   ·exact fun G r code p l g1 g2 g3=>((abz hrv oM hkk1 (by simp only [List.length_cons];omega) h8 hw oM oM (fun d hdm=>hD (dT hw (br hr) (by simp) hdm)) oM) G r code p l g1 g2 ⟨g3.1,oM⟩).mono fun _ _ _ ⟨h6,w,b,q,h7,h8,h9,h10,h11,h12,h13⟩=>⟨h6,w,b,q,h7,h8,oM,h10,h11,h12,oM⟩
   ·have h0 : 0 < fs.length:=List.length_pos_iff.2 (hTW.ne (by simp))
    exact fun G r code p l g1 g2 g3=>((wL hrv oM hkk1 (by simp only [List.length_cons];omega) h0 h8 hw oM oM (fun d hdm _=>hD (dT hw (br hr) (by simp) hdm)) oM) G r code p l g1 g2 ⟨g3.1,oM⟩).mono fun _ _ _ ⟨h6,w,b,q,h7,h8,h9,h10,h11,h12,h13⟩=>⟨h6,w,b,q,h7,h8,oM,h10,h11,h12,oM⟩
   ·have h0 : 0 < fs.length:=List.length_pos_iff.2 (hTW.ne (by simp))
    exact fun G r code p l g1 g2 g3=>((wM hrv oM hkk1 (by simp only [List.length_cons];omega) h0 h8 hw) G r code p l g1 g2 ⟨g3.1,oM⟩).mono fun _ _ _ ⟨h6,w,b,q,h7,h8,h9,h10,h11,h12,h13⟩=>⟨h6,w,b,q,h7,h8,oM,h10,h11,h12,oM⟩
theorem ul {r : Nat} {code : Value} {p : Int} {l : adA} (hp : 0 ≤ p ∧ p ≤ 600000000000) (hs : aU G code 1 l.length (cr l)) :
  dF adz 42 [Pt r 0] G [eC r code p dv] (fun v L'=>∃ x q,v = S x ∧ x.length ≤ 20000 ∧ L' = [eC r code q dv] ∧ p ≤ q ∧ q ≤ p + 700):=by
 refine jH [(0,_)] Tryz.func42 Tryz.ntmps42 fun B hB hW=>?_
 repeat' (first | refine jX ?_ | (refine jo ?_;first | refine jF fun _=>?_ | refine jV (aN rfl rfl oM) ?_ | (refine eX 64 rfl rfl rfl ?_ rfl (fun xs hxs=>?_);(focus ((simp only [List.length_append,List.length_cons,List.length_nil,List.length_take];omega);done))) | refine aM rfl ?_ | refine aC rfl ?_ | (refine aI rfl rfl rfl (w8 ?_ (by (repeat (assumption));done) ?_ ?_) rfl ?_;(focus omega);(focus ((first | assumption | (simp;done));done));(focus ((simp;done);done));rintro _ _ ⟨ty,q1,rfl,hty,hty1,rfl,hq1,hq2⟩;dsimp only [zA,fA]) | (refine aI rfl rfl rfl (c7 ?_ (by (repeat (assumption));done)) rfl ?_;(focus ((first | omega | (simp;omega));done));rintro _ _ ⟨k,rfl,rfl,hk0,hk1⟩;dsimp only [zA,fA]) | (refine ae rfl rfl rfl (um ?_) rfl ?_;(focus ((simp;omega);done)))) | refine nr rfl rfl (fun _=>?_) (fun _=>?_) | refine ad rfl rfl ?_ | refine eD rfl (fun _=>?_) (fun _=>?_))
 all_goals (first | exact aW (vs:=[_]) rfl ⟨rfl,trivial⟩ rfl sB ⟨rfl,_,_,rfl,by (simp only [List.length_append,List.length_cons,List.length_nil,List.length_take,List.length_drop];omega),rfl,oM,oM⟩ | skip)
 all_goals simp only [List.length_append,List.length_cons,List.length_nil] at hk1
 all_goals (refine am (ao (id:=6) [] (fun _ h=>absurd h (by simp)) al ?_);refine jW 7 [0,1,2,4,9,10,11,12] (aa 15 7703) ?_;refine b8 [3,5] kR dC ⟨?_,?_,trivial⟩;(focus (refine aO rfl rfl ?_;(refine jF fun _=>?_);refine jK (aa 15 7711) ?_;refine jA 5 rfl ?_;((refine aI rfl rfl rfl (c7 ?_ (by (repeat (assumption));done)) rfl ?_;(focus omega);rintro _ _ ⟨k,rfl,rfl,hk0,hk1⟩;dsimp only [zA,fA]));refine jK (aa 15 7743) ?_;((refine jG (aa 15 7807) 6 rfl (aN rfl rfl ?_) ?_;focus omega));refine jA 7 rfl ?_;((refine eX 64 rfl rfl rfl ?_ rfl (fun xs hxs=>?_);(focus ((simp only [List.length_append,List.length_cons,List.length_nil,List.length_take];omega);done))));refine jK (aa 15 7935) ?_;refine jW 0 [8,13,14] (aa 15 32767) ?_;refine jQ ?_));rotate_left 1;(focus (refine aO rfl rfl ?_;((refine aI rfl rfl rfl (c7 ?_ (by (repeat (assumption));done)) rfl ?_;(focus omega);rintro _ _ ⟨k,rfl,rfl,hk0,hk1⟩;dsimp only [zA,fA]));refine jK (aa 15 7735) ?_;refine jA 3 rfl ?_;(refine jF fun _=>?_);refine jK (aa 15 7743) ?_;((refine jG (aa 15 7807) 6 rfl (aN rfl rfl ?_) ?_;focus omega));refine jA 7 rfl ?_;((refine eX 64 rfl rfl rfl ?_ rfl (fun xs hxs=>?_);(focus ((simp only [List.length_append,List.length_cons,List.length_nil,List.length_take];omega);done))));refine jK (aa 15 7935) ?_;refine jW 0 [8,13,14] (aa 15 32767) ?_;refine jQ ?_));rotate_left 1)
 all_goals repeat' (refine jR ?_)
 all_goals exact aW (vs:=[_]) rfl ⟨rfl,trivial⟩ rfl sB ⟨rfl,_,_,rfl,by (simp only [List.length_append,List.length_cons,List.length_nil,List.length_take,List.length_drop];omega),rfl,oM,oM⟩
theorem xa {r : Nat} {code : Value} {p : Int} {l s : adA} (hp : 0 ≤ p ∧ p ≤ 600000000000) (hs : aU G code 1 l.length (cr l)) (hsl : s.length ≤ 10000000) :
  dF adz 43 [Pt r 0,S s] G [eC r code p dv] (fun v L'=>∃ x q,v = S x ∧ x.length ≤ 400 ∧ L' = [eC r code q dv] ∧ p ≤ q ∧ q ≤ p + 20):=by
 have cx_lkg : ∀ {k : adA} (G : Gh),k.length ≤ 1000 → bB adz 60 [S s,S k] G (fun v _=>∃ u b,v = Tu [u,Bo b]):=fun {k} G h=>(g9 (G:=G) (s:=s) (k:=k) oM oM).mono fun v G' L' ⟨h1,h2,u,vs,h3,_⟩=>⟨h1,h2,u,_,h3⟩
 refine jB (Post:=fun v G' L'=>G' = G ∧ _) [(0,_),(1,_)] Tryz.func43 Tryz.ntmps43 fun B hok hB hW=>?_
 repeat' (first | refine jR ?_ | (refine jo ?_;first | refine jF fun _=>?_ | refine jV (aN rfl rfl oM) ?_ | (refine eX 64 rfl rfl rfl ?_ rfl (fun xs hxs=>?_);(focus ((simp only [List.length_append,List.length_cons,List.length_nil,List.length_take];omega);done))) | (refine aI rfl rfl rfl (c7 ?_ (by (repeat (assumption));done)) rfl ?_;(focus omega);rintro _ _ ⟨k,rfl,rfl,hk0,hk1⟩;dsimp only [zA,fA]) | (refine aI rfl rfl rfl (rM ?_ (by (repeat (assumption));done)) rfl ?_;(focus omega);rintro _ _ ⟨kd,q1,rfl,hkd,rfl,hq1,hq2⟩;dsimp only [zA,fA]) | (refine an rfl rfl rfl ((cx_lkg _) oM) rfl ?_;rintro _ G hle ⟨u1,b1,rfl⟩;skip)) | refine eD rfl (fun _=>?_) (fun _=>?_) | refine qC rfl (fun _=>?_) (fun _=>?_))
 all_goals refine Nx.base hok hB ?_
 all_goals exact aW (vs:=[_]) rfl ⟨rfl,trivial⟩ rfl sB ⟨rfl,_,_,rfl,by (first | omega | (simp only [List.length_append,List.length_cons,List.length_nil,List.length_take,List.length_drop];omega)),rfl,oM,oM⟩
theorem aam {r : Nat} {code : Value} {p : Int} {l s k : adA} (hp : 0 ≤ p ∧ p ≤ 500000000000) (hs : aU G code 1 l.length (cr l)) (hsl : s.length ≤ 10000000) (hkl : k.length ≤ 1000) :
  dF adz 44 [Pt r 0,S s,S k] G [eC r code p dv] (fun v L'=>∃ x q,v = S x ∧ x.length ≤ 20000 ∧ L' = [eC r code q dv] ∧ p ≤ q ∧ q ≤ p + 3000000):=by
 by_cases hk : dq s k = true
 case neg =>
  have hk2 : dq s k = false:=by simpa using hk
  have cx_lk1 : ∀ G,bB adz 60 [S s,S k] G (fun v _=>∃ u,v = Tu [u,Bo false]):=fun G=>by
   refine (g9 (G:=G) (s:=s) (k:=k) oM oM).mono ?_
   rintro v G' L' ⟨h1,h2,u,vs,rfl,_⟩
   exact ⟨h1,h2,u,by rw [hk2]⟩
  refine jB (Post:=fun v G' L'=>G' = G ∧ _) [(0,_),(1,_),(2,_)] Tryz.func44 Tryz.ntmps44 fun B hok hB hW=>?_
  repeat' (first | refine jR ?_ | (refine jo ?_;(refine an rfl rfl rfl (cx_lk1 _) rfl ?_;rintro _ G hle ⟨u1,rfl⟩;skip)) | refine ac rfl rfl ?_)
  all_goals refine Nx.base hok hB ?_
  all_goals exact aW (vs:=[_]) rfl ⟨rfl,trivial⟩ rfl a7 ⟨rfl,_,_,rfl,by (simp only [List.length_append,List.length_cons,List.length_nil,List.length_take,List.length_drop];omega),rfl,oM,oM⟩
 obtain ⟨ts,hsc,hki,hw⟩:=li hk
 have cx_lka : ∀ G,bB adz 60 [S s,S k] G (fun v G'=>∃ a c vs,v = Tu [.slice a vs.length c,Bo true] ∧ SchR G' (.slice a vs.length c) vs ∧ ah vs = ts):=fun G=>by
  refine (g9 (G:=G) (s:=s) (k:=k) oM oM).mono ?_
  rintro v G' L' ⟨h1,h2,u,vs,rfl,h4,_,h6⟩
  obtain ⟨_,⟨rfl,h0⟩ | ⟨b,o,cap,rfl,_,_⟩⟩:=h4.sl
  ·exact ⟨h1,h2,none,0,vs,by rw [hk,h0],by rw [h0];exact h4,h6 ts hsc hki⟩
  ·exact ⟨h1,h2,_,cap,vs,by rw [hk],h4,h6 ts hsc hki⟩
 refine jB (Post:=fun v G' L'=>G' = G ∧ _) [(0,_),(1,_),(2,_)] Tryz.func44 Tryz.ntmps44 fun B hok hB hW=>?_
 repeat' (first | refine jR ?_ | (refine jo ?_;(refine an rfl rfl rfl (cx_lka _) rfl ?_;rintro _ G hle ⟨av1,cv1,vs1,rfl,hR1,hT1⟩;skip)) | refine ad rfl rfl ?_)
 subst hT1
 have hg0:=hle
 have hu1:=hR1.sl.one
 have cx_dv:=fun {p : Int} (hp : 0 ≤ p ∧ p + oz 4 ≤ 600000000000)=>tm hw hu1 4 (k:=k) (deep:=4) oM oM oM hki G r code p l hR1 (hs.mono hle) hp
 have hc4 : oz 4 = 453480:=by decide
 have ht4 : nC 4 = 2200080:=by decide
 rw [hc4,ht4] at cx_dv
 repeat' ((refine jo ?_;(refine eH rfl rfl rfl (cx_dv oM) rfl ?_;rintro _ G1 _ hle ⟨w1,b1,q1,rfl,hrep,htot,hone,rfl,hq1,hq2⟩;dsimp only [zA,fA];skip)))
 have hg1:=hle
 have hob:=l9 hw hrep
 unfold iE at hob
 have cx_out:=fP hw hrep oM
 repeat' (first | refine jR ?_ | (refine jo ?_;refine ae rfl rfl rfl cx_out rfl ?_))
 refine aT (ι:=adA × Int × Int × Gh) (fun j=>Gh.le G1 j.2.2.2 ∧ (0 ≤ j.2.1 ∧ j.2.1 ≤ 3) ∧ (1 ≤ j.1.length ∧ j.1.length ≤ 2 * nC (j.2.1.toNat + 1)) ∧ p ≤ j.2.2.1 ∧ j.2.2.1 ≤ p + 500000 * (4 - j.2.1)) (fun j=>[(0,Pt r 0),(2,S k),(7,.slice av1 vs1.length cv1),(9,S j.1),(10,I j.2.1)]) (fun j=>j.2.2.2) (fun j=>[eC r code j.2.2.1 dv]) (fun j=>j.2.1.toNat) (w1.out,3,q1,G1) ?_ tU rfl a7 (fun j Hj=>?_)
 ·refine ⟨Gh.le.refl _,by dsimp only;omega,⟨hone,?_⟩,by dsimp only;omega,by dsimp only;omega⟩
  show w1.out.length ≤ 2 * nC 4
  omega
 obtain ⟨t,d,q,Gq⟩:=j
 dsimp only at Hj ⊢
 obtain ⟨hgq,hd,⟨ht1,ht2⟩,hq3,hq4⟩:=Hj
 have hs2:=hs.mono ((hg0.trans hg1).trans hgq)
 clear cx_dv cx_out hrep
 by_cases hgo : 150 < t.length ∧ 0 < d
 ·obtain ⟨hgo1,hgo2⟩:=hgo
  have hcm:=wS d.toNat oM
  have cx_dv:=fun {p : Int} (hp : 0 ≤ p ∧ p + 500000 ≤ 600000000000)=>((tm hw hu1 d.toNat (k:=k) (deep:=d) oM oM oM hki).le hcm.2.1 (Nat.le_refl _)) Gq r code p l (hR1.mono (hg1.trans hgq)) hs2 hp
  repeat' (first | refine jR ?_ | (refine jo ?_;first | refine aM rfl ?_ | (refine eH rfl rfl rfl (cx_dv oM) rfl ?_;rintro _ G1 _ hle ⟨w1,b1,q1,rfl,hrep,htot,hone,rfl,hq1,hq2⟩;dsimp only [zA,fA];skip)) | refine aF rfl rfl (ay oM) ?_ | refine ac rfl (ay ‹_›) ?_)
  have hob:=l9 hw hrep
  unfold iE at hob
  have cx_out:=fP hw hrep oM
  have e : (d - 1).toNat + 1 = d.toNat:=oM
  repeat' (first | refine jM ?_ | (refine jo ?_;refine ae rfl rfl rfl cx_out rfl ?_))
  exact bh (w1.out,d - 1,q1,G1) ⟨hgq.trans hle,by dsimp only;omega,⟨hone,by dsimp only;rw [e];omega⟩,by dsimp only;omega,by dsimp only;omega⟩ (by dsimp only;omega) tU rfl a7
 ·have hx : t.length ≤ 150 ∨ d ≤ 0:=oM
  have hl : t.length ≤ 8480:=by
   rcases hx with hx | hx
   ·omega
   ·have e : d = 0:=oM
    subst e
    have : nC (Int.toNat 0 + 1) = 4240:=by decide
    omega
  repeat' (first | refine jR ?_ | (refine jo ?_;first | refine aM rfl ?_ | refine aC rfl ?_ | (refine aI rfl rfl rfl (c7 ?_ (by (repeat (assumption));done)) rfl ?_;(focus omega);rintro _ _ ⟨k,rfl,rfl,hk0,hk1⟩;dsimp only [zA,fA])) | refine fp rfl rfl (fun _=>?_) (fun _=>?_) | (refine ad rfl (by first | rfl | (refine decide_eq_false ?_;(omega))) ?_) | refine eD rfl (fun _=>?_) (fun _=>?_))
  all_goals refine Nx.base hok hB ?_
  all_goals (first | exact aW (vs:=[_]) rfl ⟨rfl,trivial⟩ rfl a7 ⟨rfl,_,_,rfl,by (omega),rfl,oM,oM⟩ | skip)
  all_goals (refine am (ao (id:=11) [] (fun _ h=>absurd h (by simp)) al ?_);refine jW 7 [0,1,2,4,9,10,11,12] (aa 15 7703) ?_;refine b8 [3,5] kR dC ⟨?_,?_,trivial⟩;(focus (refine aO rfl rfl ?_;(refine jF fun _=>?_);refine jK (aa 15 7711) ?_;refine jA 5 rfl ?_;((refine aI rfl rfl rfl (c7 ?_ (by (repeat (assumption));done)) rfl ?_;(focus omega);rintro _ _ ⟨k,rfl,rfl,hk0,hk1⟩;dsimp only [zA,fA]));refine jK (aa 15 7743) ?_;((refine jG (aa 15 7807) 6 rfl (aN rfl rfl ?_) ?_;focus omega));refine jA 7 rfl ?_;((refine eX 64 rfl rfl rfl ?_ rfl (fun xs hxs=>?_);(focus ((simp only [List.length_append,List.length_cons,List.length_nil,List.length_take];omega);done))));refine jK (aa 15 7935) ?_;refine jW 0 [8,13,14] (aa 15 32767) ?_;refine jQ ?_));rotate_left 1;(focus (refine aO rfl rfl ?_;((refine aI rfl rfl rfl (c7 ?_ (by (repeat (assumption));done)) rfl ?_;(focus omega);rintro _ _ ⟨k,rfl,rfl,hk0,hk1⟩;dsimp only [zA,fA]));refine jK (aa 15 7735) ?_;refine jA 3 rfl ?_;(refine jF fun _=>?_);refine jK (aa 15 7743) ?_;((refine jG (aa 15 7807) 6 rfl (aN rfl rfl ?_) ?_;focus omega));refine jA 7 rfl ?_;((refine eX 64 rfl rfl rfl ?_ rfl (fun xs hxs=>?_);(focus ((simp only [List.length_append,List.length_cons,List.length_nil,List.length_take];omega);done))));refine jK (aa 15 7935) ?_;refine jW 0 [8,13,14] (aa 15 32767) ?_;refine jQ ?_));rotate_left 1)
  all_goals repeat' (refine jR ?_)
  all_goals exact aW (vs:=[_]) rfl ⟨rfl,trivial⟩ rfl sB ⟨rfl,_,_,rfl,by (simp only [List.length_append,List.length_cons,List.length_nil,List.length_take,List.length_drop];omega),rfl,oM,oM⟩
abbrev mR : TypeId:=9
def LvC (G : Gh) (b : Nat) (v : V) : Prop:=∀ (q : List Int) (a : Option Addr) (m cap : Nat) (out : List adA),m = out.length → m + v.tot ≤ 100000 → (∀ n ∈ q,0 ≤ n ∧ n ≤ 999999) → q.length + v.tot ≤ 100000 →
 dF adz 114 [Pt b 0,S (aR q),.slice a m cap] G [.acc (.slice a m cap) mR 1 m (ak cn out)]
  (fun r L'=>∃ a' cap',r = .slice a' (m + v.size) cap' ∧ L' = [.acc (.slice a' (m + v.size) cap') mR 1 (m + v.size) (ak cn (out ++ gj q v))])
theorem w7 {ts : List Ty} (hw : SchW ts) {v : V} {k : adA} {b : Nat} (h : RepR G ts v k b) : LvC G b v:=by
 induction h with
 | leaf w x k tx b h1 h2 =>
  intro q a m cap out hm hto hqn hql
  have hn82 : ¬ tx = [82]:=by
   rcases h2 with ⟨_,_,rfl,h⟩ | ⟨_,_,rfl⟩ | ⟨_,_,rfl,h⟩
   ·rintro rfl;exact absurd (h 82 (by simp)) dC
   ·simp
   ·rcases h with rfl | rfl <;> decide
  have hrow : ak cn out ++ [S (aR q)] = ak cn (out ++ [aR q]):=(bR cn out (aR q)).symm
  have key : dF adz 114 [Pt b 0,S (aR q),.slice a m cap] G [.acc (.slice a m cap) mR 1 m (ak cn out)]
    (fun r L'=>∃ a' cap',r = .slice a' (m + 1) cap' ∧ L' = [.acc (.slice a' (m + 1) cap') mR 1 (m + 1) (ak cn (out ++ [aR q]))]):=by
   rcases h2 with ⟨rfl,rfl,_⟩ | ⟨rfl,rfl,_⟩ | ⟨rfl,rfl,_⟩
   all_goals
    refine jH [(0,_),(1,_),(2,_)] Tryz.func114 Tryz.ntmps114 fun B hB hW=>?_
    repeat' (first | refine jX ?_ | (refine jo ?_;first | refine jV (aj rfl rfl aS rfl rfl) ?_ | refine jV (af rfl) ?_ | refine aC rfl ?_ | refine jF fun _=>?_ | refine bD rfl rfl rfl rfl rfl rfl rfl rfl rfl oM fun _ _=>?_) | (refine ar rfl rfl (by first | rfl | (refine decide_eq_false ?_;(assumption))) ?_) | refine ac rfl rfl ?_ | refine ad rfl rfl ?_)
    rw [hrow]
    refine aW (vs:=[_]) rfl ⟨rfl,trivial⟩ rfl sB ⟨rfl,_,_,rfl,rfl⟩
  have hwl : cX w true = true:=by rcases h2 with ⟨rfl,_⟩ | ⟨rfl,_⟩ | ⟨rfl,_⟩ <;> rfl
  have hsz : V.size (.nd w x 0 []) = 1:=m2 hwl
  rw [hsz,oU hwl]
  exact key
 | lst k b ks bs a' c h1 h2 h3 hk ih =>
  intro q a m cap out hm hto hqn hql
  rw [bA] at hto hql
  have hsz : V.size (.nd 91 [] 0 ks) = V.sizes ks:=by rw [V.size,if_neg (by unfold cX;simp)]
  have hst:=fj ks
  have hkl:=di ks
  rw [hsz,pP (sR) dC]
  have hk0 : bt (91 :: k) (Int.toNat 0) = 91:=bj 91 k
  have hkl2 : (91 :: k).length = k.length + 1:=rfl
  by_cases hne : ks.length = 0
  ·obtain rfl : ks = []:=List.length_eq_zero_iff.1 hne
   rw [j4,List.append_nil]
   refine jH [(0,_),(1,_),(2,_)] Tryz.func114 Tryz.ntmps114 fun B hB hW=>?_
   repeat' (first | refine jM ?_ | (refine jo ?_;first | refine jV (aj rfl rfl aS rfl rfl) ?_ | refine jV (af rfl) ?_ | refine aM rfl ?_) | refine aF rfl rfl rfl ?_ | refine ac rfl rfl ?_)
   refine aW (vs:=[_]) rfl ⟨rfl,trivial⟩ rfl a7 ⟨rfl,_,_,rfl,rfl⟩
  obtain ⟨kb,ko,kc,e,hs⟩:=h2.expl oM
  simp only [Value.slice.injEq] at e
  obtain ⟨rfl,-,rfl⟩:=e
  refine jH [(0,_),(1,_),(2,_)] Tryz.func114 Tryz.ntmps114 fun B hB hW=>?_
  repeat' (first | refine jR ?_ | (refine jo ?_;first | refine jV (aj rfl rfl aS rfl rfl) ?_ | refine jV (af rfl) ?_) | refine ad rfl (aG oM) ?_)
  rw [show ak cn out = ak cn (out ++ fk q (ks.take 0) 91 0) by rw [List.take_zero,j4,List.append_nil]]
  refine aT (ι:=Nat × Option Addr × Nat) (fun i=>i.1 ≤ ks.length) (fun i=>[(0,Pt b 0),(1,S (aR q)),(2,.slice i.2.1 (m + V.sizes (ks.take i.1)) i.2.2),(7,I i.1)]) (fun _=>G) (fun i=>[.acc (.slice i.2.1 (m + V.sizes (ks.take i.1)) i.2.2) mR 1 (m + V.sizes (ks.take i.1)) (ak cn (out ++ fk q (ks.take i.1) 91 0))]) (fun i=>ks.length - i.1) (0,a,cap) ?_ tU rfl a7 (fun i Hi=>?_)
  ·exact Nat.zero_le _
  obtain ⟨i,a,cap⟩:=i
  dsimp only at Hi ⊢
  by_cases hi : i < ks.length
  ·have hti:=gB (ks:=ks) hi
   have hsn : m + V.sizes (ks.take (i + 1)) = m + V.sizes (ks.take i) + (ab ks i).size:=by rw [co oM,gM,Nat.add_assoc]
   have hls : out ++ fk q (ks.take (i + 1)) 91 0 = out ++ fk q (ks.take i) 91 0 ++ gj (q ++ [(i : Int)]) (ab ks i):=by rw [co oM,mc,show eJ 91 0 (ks.take i).length (ab ks i) = (i : Int) by rw [List.length_take,Nat.min_eq_left oM];rfl,List.append_assoc]
   have hlen : m + V.sizes (ks.take i) = (out ++ fk q (ks.take i) 91 0).length:=by rw [List.length_append,nU,hm]
   have hs1:=fj (ks.take i)
   have htk:=fg ks i
   have htk1:=fg ks (i + 1)
   rw [co (by (omega)),dY] at htk1
   simp only [V.tots] at htk1
   have hxi : ab bs i = ab bs i:=rfl
   have hpl:=dK hqn
   have hq2 : ∀ n ∈ q ++ [(i : Int)],0 ≤ n ∧ n ≤ 999999:=ll hqn ⟨oM,oM⟩
   have hdl:=gO (hq2 (i : Int) (by simp)).2
   have cx_lv:=ih i hi (q ++ [(i : Int)]) a (m + V.sizes (ks.take i)) cap _ hlen oM hq2 (by simp only [List.length_append,List.length_singleton];omega)
   by_cases hq : q = []
   ·have hp : aR q = []:=fW.2 hq
    rw [show aR (q ++ [(i : Int)]) = bI (i : Int) by rw [hq];rfl] at cx_lv
    clear hq
    repeat' (first | refine jM ?_ | (refine jo ?_;first | refine jV (aj rfl rfl aS rfl rfl) ?_ | (refine jV (bW rfl rfl aS ?_ aS rfl) ?_;focus omega) | refine jV (af rfl) ?_ | refine jV (ag rfl rfl oM) ?_ | refine ae rfl rfl rfl (dD oM) rfl ?_ | (refine fB rfl rfl rfl cx_lv rfl ?_;rintro _ _ ⟨av,cv,rfl,rfl⟩;dsimp only [zA,fA])) | refine ac rfl (ay oM) ?_ | (refine ad rfl ?_ ?_;(focus ((first | rfl | (simp [*];done));done))))
    exact bh (i + 1,av,cv) (by dsimp only;omega) (by dsimp only;omega) (by dsimp only;rw [hsn];repeat (first | exact trivial | refine ⟨rfl,?_⟩)) rfl (by dsimp only;rw [hsn,hls];repeat (exact List.Sublist.refl _))
   ·have hp : aR q ≠ []:=fun h=>hq (fW.1 h)
    rw [← jg hq] at cx_lv
    clear hq
    repeat' (first | refine jX ?_ | (refine jo ?_;first | refine jV (aj rfl rfl aS rfl rfl) ?_ | (refine jV (bW rfl rfl aS ?_ aS rfl) ?_;focus omega) | refine jV (af rfl) ?_ | refine jV (ag rfl rfl oM) ?_ | refine ae rfl rfl rfl (dD oM) rfl ?_ | (refine fB rfl rfl rfl cx_lv rfl ?_;rintro _ _ ⟨av,cv,rfl,rfl⟩;dsimp only [zA,fA])) | (refine ac rfl (by refine decide_eq_true ?_;first | assumption | omega) ?_) | refine ad rfl rfl ?_)
    exact bh (i + 1,av,cv) (by dsimp only;omega) (by dsimp only;omega) (by dsimp only;rw [hsn];repeat (first | exact trivial | refine ⟨rfl,?_⟩)) rfl (by dsimp only;rw [hsn,hls];repeat (exact List.Sublist.refl _))
  ·obtain rfl : i = ks.length:=oM
   rw [show ks.take (ks.length) = ks from List.take_of_length_le oM]
   repeat' (first | refine jR ?_ | (refine jo ?_;first | refine jV (aj rfl rfl aS rfl rfl) ?_ | refine jV (af rfl) ?_) | refine ad rfl (aG oM) ?_)
   refine aW (vs:=[_]) rfl ⟨rfl,trivial⟩ rfl a7 ⟨rfl,_,_,rfl,rfl⟩
 | non k b h1 =>
  intro q a m cap out hm hto hqn hql
  have hk0 : bt (63 :: k) (Int.toNat 0) = 63:=bj 63 k
  have hkl2 : (63 :: k).length = k.length + 1:=rfl
  have hrow : ak cn out ++ [S (aR q)] = ak cn (out ++ [aR q]):=(bR cn out (aR q)).symm
  have hsz : V.size (.nd 63 [] 0 []) = 1:=m2 rfl
  rw [bA] at hto hql
  rw [hsz,oU rfl]
  refine jH [(0,_),(1,_),(2,_)] Tryz.func114 Tryz.ntmps114 fun B hB hW=>?_
  repeat' (first | refine jM ?_ | (refine jo ?_;first | refine jV (aj rfl rfl aS rfl rfl) ?_ | refine jV (af rfl) ?_ | refine aC rfl ?_ | refine jF fun _=>?_ | refine bD rfl rfl rfl rfl rfl rfl rfl rfl rfl oM fun _ _=>?_) | refine ar rfl rfl rfl ?_ | refine ac rfl rfl ?_ | refine ad rfl rfl ?_)
  rw [hrow]
  refine aW (vs:=[_]) rfl ⟨rfl,trivial⟩ rfl sB ⟨rfl,_,_,rfl,rfl⟩
 | opt k b kb b' cc v h0 h1 h2 h3 ih =>
  intro q a m cap out hm hto hqn hql
  simp only [bA,V.tots] at hto hql
  have hk0 : bt (63 :: k) (Int.toNat 0) = 63:=bj 63 k
  have hkl2 : (63 :: k).length = k.length + 1:=rfl
  have hsz : V.size (.nd 63 [] 0 [v]) = V.sizes [v]:=by rw [V.size,if_neg (by unfold cX;simp)]
  rw [hsz,pP (by simp [cX]) dC]
  refine jH [(0,_),(1,_),(2,_)] Tryz.func114 Tryz.ntmps114 fun B hB hW=>?_
  repeat' (first | refine jR ?_ | (refine jo ?_;first | refine jV (aj rfl rfl aS rfl rfl) ?_ | refine jV (af rfl) ?_) | refine ad rfl rfl ?_)
  rw [show ak cn out = ak cn (out ++ fk q ([v].take 0) 63 0) by rw [List.take_zero,j4,List.append_nil]]
  refine aT (ι:=Nat × Option Addr × Nat) (fun i=>i.1 ≤ 1) (fun i=>[(0,Pt b 0),(1,S (aR q)),(2,.slice i.2.1 (m + V.sizes ([v].take i.1)) i.2.2),(7,I i.1)]) (fun _=>G) (fun i=>[.acc (.slice i.2.1 (m + V.sizes ([v].take i.1)) i.2.2) mR 1 (m + V.sizes ([v].take i.1)) (ak cn (out ++ fk q ([v].take i.1) 63 0))]) (fun i=>1 - i.1) (0,a,cap) ?_ tU rfl a7 (fun i Hi=>?_)
  ·exact Nat.zero_le _
  obtain ⟨i,a,cap⟩:=i
  dsimp only at Hi ⊢
  by_cases hi : i < 1
  ·obtain rfl : i = 0:=oM
   have hsn : m + V.sizes ([v].take (0 + 1)) = m + V.sizes ([v].take 0) + (v).size:=by rw [co oM,gM,show ab [v] 0 = v from rfl,Nat.add_assoc]
   have hls : out ++ fk q ([v].take (0 + 1)) 63 0 = out ++ fk q ([v].take 0) 63 0 ++ gj (q ++ [((0 : Nat) : Int)]) (v):=by rw [co oM,mc,show eJ 63 0 (List.take 0 [v]).length (ab [v] 0) = ((0 : Nat) : Int) from rfl,show ab [v] 0 = v from rfl,List.append_assoc]
   have hlen : m + V.sizes ([v].take 0) = (out ++ fk q ([v].take 0) 63 0).length:=by rw [List.length_append,nU,hm]
   have hs1:=fj ([v].take 0)
   have htk:=fg [v] 0
   have htk1:=fg [v] (0 + 1)
   rw [co (by (omega)),dY] at htk1
   simp only [V.tots] at htk1
   have hnv : (ab [v] 0).tot = v.tot:=rfl
   have htv : V.tots [v] = v.tot:=by simp [V.tots]
   have hpl:=dK hqn
   have hq2 : ∀ n ∈ q ++ [((0 : Nat) : Int)],0 ≤ n ∧ n ≤ 999999:=ll hqn ⟨oM,oM⟩
   have hdl:=gO (hq2 ((0 : Nat) : Int) (by simp)).2
   have cx_lv:=ih (q ++ [((0 : Nat) : Int)]) a (m + V.sizes ([v].take 0)) cap _ hlen oM hq2 (by simp only [List.length_append,List.length_singleton];omega)
   by_cases hq : q = []
   ·have hp : aR q = []:=fW.2 hq
    rw [show aR (q ++ [((0 : Nat) : Int)]) = bI ((0 : Nat) : Int) by rw [hq];rfl] at cx_lv
    clear hq
    repeat' (first | refine jM ?_ | (refine jo ?_;first | refine jV (aj rfl rfl aS rfl rfl) ?_ | refine jV (af rfl) ?_ | refine jV (ag rfl rfl oM) ?_ | refine ae rfl rfl rfl (dD oM) rfl ?_ | (refine fB rfl rfl rfl cx_lv rfl ?_;rintro _ _ ⟨av,cv,rfl,rfl⟩;dsimp only [zA,fA])) | refine ac rfl rfl ?_ | (refine ad rfl ?_ ?_;(focus ((first | rfl | (simp [*];done));done))))
    exact bh (0 + 1,av,cv) (by dsimp only;omega) (by dsimp only;omega) (by dsimp only;rw [hsn];repeat (first | exact trivial | refine ⟨rfl,?_⟩)) rfl (by dsimp only;rw [hsn,hls];repeat (exact List.Sublist.refl _))
   ·have hp : aR q ≠ []:=fun h=>hq (fW.1 h)
    rw [← jg hq] at cx_lv
    clear hq
    repeat' (first | refine jX ?_ | (refine jo ?_;first | refine jV (aj rfl rfl aS rfl rfl) ?_ | refine jV (af rfl) ?_ | refine jV (ag rfl rfl oM) ?_ | refine ae rfl rfl rfl (dD oM) rfl ?_ | (refine fB rfl rfl rfl cx_lv rfl ?_;rintro _ _ ⟨av,cv,rfl,rfl⟩;dsimp only [zA,fA])) | (refine ac rfl (by first | rfl | (refine decide_eq_true ?_;(assumption))) ?_) | refine ad rfl rfl ?_)
    exact bh (0 + 1,av,cv) (by dsimp only;omega) (by dsimp only;omega) (by dsimp only;rw [hsn];repeat (first | exact trivial | refine ⟨rfl,?_⟩)) rfl (by dsimp only;rw [hsn,hls];repeat (exact List.Sublist.refl _))
  ·obtain rfl : i = 1:=oM
   rw [show [v].take (1) = [v] from List.take_of_length_le (by simp)]
   repeat' (first | refine jR ?_ | (refine jo ?_;first | refine jV (aj rfl rfl aS rfl rfl) ?_ | refine jV (af rfl) ?_) | refine ad rfl rfl ?_)
   refine aW (vs:=[_]) rfl ⟨rfl,trivial⟩ rfl a7 ⟨rfl,_,_,rfl,rfl⟩
 | recd k b t fs bs a1 a2 c c2 h0 h1 h2 h3 h4 h5 hk ih =>
  intro q a m cap out hm hto hqn hql
  obtain ⟨r,rfl⟩:=dn h0.1
  rw [bA] at hto hql
  have hml : (fs.map (fun p : Fld × V=>V.nd 61 [] p.1.tag [p.2])).length = fs.length:=by simp
  have hnt : ∀ i,i < fs.length → ab (fs.map (fun p : Fld × V=>V.nd 61 [] p.1.tag [p.2])) i = V.nd 61 [] (ab fs i).1.tag [(ab fs i).2]:=fun i hi=>by rw [aA (by simpa using hi),aA hi];simp
  generalize hKS : fs.map (fun p : Fld × V=>V.nd 61 [] p.1.tag [p.2]) = KS at *
  have hsz : V.size (.nd 82 [] 0 KS) = V.sizes KS:=by rw [V.size,if_neg (by unfold cX;simp)]
  rw [hsz,pP sT dC]
  have hk0 : bt (64 :: r) (Int.toNat 0) = 64:=bj 64 r
  have hkl2 : (64 :: r).length = r.length + 1:=rfl
  have hst:=fj KS
  have hkl:=di KS
  by_cases hne : fs.length = 0
  ·obtain rfl : KS = []:=List.length_eq_zero_iff.1 oM
   rw [j4,List.append_nil]
   refine jH [(0,_),(1,_),(2,_)] Tryz.func114 Tryz.ntmps114 fun B hB hW=>?_
   repeat' (first | refine jM ?_ | (refine jo ?_;first | refine jV (aj rfl rfl aS rfl rfl) ?_ | refine jV (af rfl) ?_ | refine aM rfl ?_ | refine aC rfl ?_) | refine aF rfl rfl rfl ?_ | refine ar rfl rfl rfl ?_ | (refine ac rfl (by first | rfl | (refine decide_eq_true ?_;(omega))) ?_))
   refine aW (vs:=[_]) rfl ⟨rfl,trivial⟩ rfl a7 ⟨rfl,_,_,rfl,rfl⟩
  obtain ⟨kb,ko,kc,e,hs⟩:=h3.expl oM
  simp only [Value.slice.injEq] at e
  obtain ⟨rfl,-,rfl⟩:=e
  obtain ⟨tb2,to,tc,e,hts⟩:=h2.expl oM
  simp only [Value.slice.injEq] at e
  obtain ⟨rfl,-,rfl⟩:=e
  have hmt : (fs.map fun p : Fld × V=>p.1.tag).length = fs.length:=by simp
  have hnm : ∀ i,i < fs.length → ab (fs.map fun p : Fld × V=>p.1.tag) i = (ab fs i).1.tag:=fun i hi=>by rw [aA (by simpa using hi),aA hi];simp
  refine jH [(0,_),(1,_),(2,_)] Tryz.func114 Tryz.ntmps114 fun B hB hW=>?_
  repeat' (first | refine jR ?_ | (refine jo ?_;first | refine jV (aj rfl rfl aS rfl rfl) ?_ | refine jV (af rfl) ?_) | refine ad rfl (aG oM) ?_)
  rw [show ak cn out = ak cn (out ++ fk q (KS.take 0) 82 0) by rw [List.take_zero,j4,List.append_nil]]
  refine aT (ι:=Nat × Option Addr × Nat) (fun i=>i.1 ≤ fs.length) (fun i=>[(0,Pt b 0),(1,S (aR q)),(2,.slice i.2.1 (m + V.sizes (KS.take i.1)) i.2.2),(7,I i.1)]) (fun _=>G) (fun i=>[.acc (.slice i.2.1 (m + V.sizes (KS.take i.1)) i.2.2) mR 1 (m + V.sizes (KS.take i.1)) (ak cn (out ++ fk q (KS.take i.1) 82 0))]) (fun i=>fs.length - i.1) (0,a,cap) ?_ tU rfl a7 (fun i Hi=>?_)
  ·exact Nat.zero_le _
  obtain ⟨i,a,cap⟩:=i
  dsimp only at Hi ⊢
  by_cases hi : i < fs.length
  ·have hti:=gB (ks:=KS) (i:=i) oM
   have hxt:=hnm i hi
   have hti2 : (ab KS i).tot = 20 + (ab fs i).2.tot:=by rw [hnt i hi];simp [bA,V.tots]
   have hsk : (ab KS i).size = (ab fs i).2.size:=by rw [hnt i hi,V.size,if_neg (by unfold cX;simp),V.sizes,V.sizes];rfl
   have htg:=((hw.ty t (br h0.1)).fld _ (h5 i hi)).tag
   have hsn : m + V.sizes (KS.take (i + 1)) = m + V.sizes (KS.take i) + ((ab fs i).2).size:=by rw [co oM,gM,hsk,Nat.add_assoc]
   have hls : out ++ fk q (KS.take (i + 1)) 82 0 = out ++ fk q (KS.take i) 82 0 ++ gj (q ++ [(ab fs i).1.tag]) ((ab fs i).2):=by rw [co oM,mc,show eJ 82 0 (KS.take i).length (ab KS i) = (ab fs i).1.tag by rw [hnt i hi];rfl,hnt i hi,zE,List.append_assoc]
   have hlen : m + V.sizes (KS.take i) = (out ++ fk q (KS.take i) 82 0).length:=by rw [List.length_append,nU,hm]
   have hs1:=fj (KS.take i)
   have htk:=fg KS i
   have htk1:=fg KS (i + 1)
   rw [co (by (omega)),dY] at htk1
   simp only [V.tots] at htk1
   have hxi : ab bs i = ab bs i:=rfl
   have hpl:=dK hqn
   have hq2 : ∀ n ∈ q ++ [(ab fs i).1.tag],0 ≤ n ∧ n ≤ 999999:=ll hqn ⟨oM,oM⟩
   have hdl:=gO (hq2 ((ab fs i).1.tag) (by simp)).2
   have cx_lv:=ih i hi (q ++ [(ab fs i).1.tag]) a (m + V.sizes (KS.take i)) cap _ hlen oM hq2 (by simp only [List.length_append,List.length_singleton];omega)
   by_cases hq : q = []
   ·have hp : aR q = []:=fW.2 hq
    rw [show aR (q ++ [(ab fs i).1.tag]) = bI ((ab fs i).1.tag) by rw [hq];rfl] at cx_lv
    clear hq
    repeat' (first | refine jM ?_ | (refine jo ?_;first | refine jV (aj rfl rfl aS rfl rfl) ?_ | (refine jV (bW rfl rfl aS ?_ aS rfl) ?_;focus omega) | refine jV (af rfl) ?_ | refine jV (ag rfl rfl oM) ?_ | refine ae rfl rfl rfl (dD oM) rfl ?_ | (refine fB rfl rfl rfl cx_lv rfl ?_;rintro _ _ ⟨av,cv,rfl,rfl⟩;dsimp only [zA,fA])) | (refine ac rfl (by first | rfl | (refine decide_eq_true ?_;(omega))) ?_) | (refine ad rfl ?_ ?_;(focus ((simp [*];done);done))))
    exact bh (i + 1,av,cv) (by dsimp only;omega) (by dsimp only;omega) (by dsimp only;rw [hsn];repeat (first | exact trivial | refine ⟨rfl,?_⟩)) rfl (by dsimp only;rw [hsn,hls];repeat (exact List.Sublist.refl _))
   ·have hp : aR q ≠ []:=fun h=>hq (fW.1 h)
    rw [← jg hq] at cx_lv
    clear hq
    repeat' (first | refine jX ?_ | (refine jo ?_;first | refine jV (aj rfl rfl aS rfl rfl) ?_ | (refine jV (bW rfl rfl aS ?_ aS rfl) ?_;focus omega) | refine jV (af rfl) ?_ | refine jV (ag rfl rfl oM) ?_ | refine ae rfl rfl rfl (dD oM) rfl ?_ | (refine fB rfl rfl rfl cx_lv rfl ?_;rintro _ _ ⟨av,cv,rfl,rfl⟩;dsimp only [zA,fA])) | (refine ac rfl (by first | rfl | (refine decide_eq_true ?_;first | assumption | omega)) ?_))
    exact bh (i + 1,av,cv) (by dsimp only;omega) (by dsimp only;omega) (by dsimp only;rw [hsn];repeat (first | exact trivial | refine ⟨rfl,?_⟩)) rfl (by dsimp only;rw [hsn,hls];repeat (exact List.Sublist.refl _))
  ·obtain rfl : i = fs.length:=oM
   rw [show KS.take (fs.length) = KS from List.take_of_length_le oM]
   repeat' (first | refine jR ?_ | (refine jo ?_;first | refine jV (aj rfl rfl aS rfl rfl) ?_ | refine jV (af rfl) ?_) | refine ad rfl (aG oM) ?_)
   refine aW (vs:=[_]) rfl ⟨rfl,trivial⟩ rfl a7 ⟨rfl,_,_,rfl,rfl⟩
 | enm k b tgb t d h0 h1 h2 h3 =>
  intro q a m cap out hm hto hqn hql
  obtain ⟨r,rfl⟩:=dn h0.1
  have hk0 : bt (64 :: r) (Int.toNat 0) = 64:=bj 64 r
  have hkl2 : (64 :: r).length = r.length + 1:=rfl
  have hrow : ak cn out ++ [S (aR q)] = ak cn (out ++ [aR q]):=(bR cn out (aR q)).symm
  have hsz : V.size (.nd 69 [] d.tag []) = 1:=m2 rfl
  rw [bA] at hto hql
  rw [hsz,oU rfl]
  refine jH [(0,_),(1,_),(2,_)] Tryz.func114 Tryz.ntmps114 fun B hB hW=>?_
  repeat' (first | refine jM ?_ | (refine jo ?_;first | refine jV (aj rfl rfl aS rfl rfl) ?_ | refine jV (af rfl) ?_ | refine aC rfl ?_ | refine jF fun _=>?_ | refine bD rfl rfl rfl rfl rfl rfl rfl rfl rfl oM fun _ _=>?_) | refine ar rfl rfl rfl ?_ | refine ac rfl rfl ?_ | refine ad rfl rfl ?_)
  rw [hrow]
  refine aW (vs:=[_]) rfl ⟨rfl,trivial⟩ rfl sB ⟨rfl,_,_,rfl,rfl⟩
 | uni k b tgb kb b' cc t d v hcc h0 h1 h2 h3 h4 hk ih =>
  intro q a m cap out hm hto hqn hql
  obtain ⟨r,rfl⟩:=dn h0.1
  simp only [bA,V.tots] at hto hql
  have hk0 : bt (64 :: r) (Int.toNat 0) = 64:=bj 64 r
  have hkl2 : (64 :: r).length = r.length + 1:=rfl
  have htg:=((hw.ty t (br h0.1)).fld _ h1).tag
  have hsz : V.size (.nd 85 [] d.tag [v]) = V.sizes [v]:=by rw [V.size,if_neg (by unfold cX;simp)]
  rw [hsz,pP sS dC]
  refine jH [(0,_),(1,_),(2,_)] Tryz.func114 Tryz.ntmps114 fun B hB hW=>?_
  repeat' (first | refine jR ?_ | (refine jo ?_;first | refine jV (aj rfl rfl aS rfl rfl) ?_ | refine jV (af rfl) ?_) | refine ad rfl rfl ?_)
  rw [show ak cn out = ak cn (out ++ fk q ([v].take 0) 85 d.tag) by rw [List.take_zero,j4,List.append_nil]]
  refine aT (ι:=Nat × Option Addr × Nat) (fun i=>i.1 ≤ 1) (fun i=>[(0,Pt b 0),(1,S (aR q)),(2,.slice i.2.1 (m + V.sizes ([v].take i.1)) i.2.2),(7,I i.1)]) (fun _=>G) (fun i=>[.acc (.slice i.2.1 (m + V.sizes ([v].take i.1)) i.2.2) mR 1 (m + V.sizes ([v].take i.1)) (ak cn (out ++ fk q ([v].take i.1) 85 d.tag))]) (fun i=>1 - i.1) (0,a,cap) ?_ tU rfl a7 (fun i Hi=>?_)
  ·exact Nat.zero_le _
  obtain ⟨i,a,cap⟩:=i
  dsimp only at Hi ⊢
  by_cases hi : i < 1
  ·obtain rfl : i = 0:=oM
   have hsn : m + V.sizes ([v].take (0 + 1)) = m + V.sizes ([v].take 0) + (v).size:=by rw [co oM,gM,show ab [v] 0 = v from rfl,Nat.add_assoc]
   have hls : out ++ fk q ([v].take (0 + 1)) 85 d.tag = out ++ fk q ([v].take 0) 85 d.tag ++ gj (q ++ [d.tag]) (v):=by rw [co oM,mc,show eJ 85 d.tag (List.take 0 [v]).length (ab [v] 0) = d.tag from rfl,show ab [v] 0 = v from rfl,List.append_assoc]
   have hlen : m + V.sizes ([v].take 0) = (out ++ fk q ([v].take 0) 85 d.tag).length:=by rw [List.length_append,nU,hm]
   have hs1:=fj ([v].take 0)
   have htk:=fg [v] 0
   have htk1:=fg [v] (0 + 1)
   rw [co (by (omega)),dY] at htk1
   simp only [V.tots] at htk1
   have hnv : (ab [v] 0).tot = v.tot:=rfl
   have htv : V.tots [v] = v.tot:=by simp [V.tots]
   have hpl:=dK hqn
   have hq2 : ∀ n ∈ q ++ [d.tag],0 ≤ n ∧ n ≤ 999999:=ll hqn ⟨oM,oM⟩
   have hdl:=gO (hq2 (d.tag) (by simp)).2
   have cx_lv:=ih (q ++ [d.tag]) a (m + V.sizes ([v].take 0)) cap _ hlen oM hq2 (by simp only [List.length_append,List.length_singleton];omega)
   by_cases hq : q = []
   ·have hp : aR q = []:=fW.2 hq
    rw [show aR (q ++ [d.tag]) = bI (d.tag) by rw [hq];rfl] at cx_lv
    clear hq
    repeat' (first | refine jM ?_ | (refine jo ?_;first | refine jV (aj rfl rfl aS rfl rfl) ?_ | refine jV (af rfl) ?_ | refine jV (ag rfl rfl oM) ?_ | refine ae rfl rfl rfl (dD oM) rfl ?_ | (refine fB rfl rfl rfl cx_lv rfl ?_;rintro _ _ ⟨av,cv,rfl,rfl⟩;dsimp only [zA,fA])) | refine ac rfl rfl ?_ | (refine ad rfl ?_ ?_;(focus ((simp [*];done);done))))
    exact bh (0 + 1,av,cv) (by dsimp only;omega) (by dsimp only;omega) (by dsimp only;rw [hsn];repeat (first | exact trivial | refine ⟨rfl,?_⟩)) rfl (by dsimp only;rw [hsn,hls];repeat (exact List.Sublist.refl _))
   ·have hp : aR q ≠ []:=fun h=>hq (fW.1 h)
    rw [← jg hq] at cx_lv
    clear hq
    repeat' (first | refine jX ?_ | (refine jo ?_;first | refine jV (aj rfl rfl aS rfl rfl) ?_ | refine jV (af rfl) ?_ | refine jV (ag rfl rfl oM) ?_ | refine ae rfl rfl rfl (dD oM) rfl ?_ | (refine fB rfl rfl rfl cx_lv rfl ?_;rintro _ _ ⟨av,cv,rfl,rfl⟩;dsimp only [zA,fA])) | (refine ac rfl (by first | rfl | (refine decide_eq_true ?_;(assumption))) ?_))
    exact bh (0 + 1,av,cv) (by dsimp only;omega) (by dsimp only;omega) (by dsimp only;rw [hsn];repeat (first | exact trivial | refine ⟨rfl,?_⟩)) rfl (by dsimp only;rw [hsn,hls];repeat (exact List.Sublist.refl _))
  ·obtain rfl : i = 1:=oM
   rw [show [v].take (1) = [v] from List.take_of_length_le (by simp)]
   repeat' (first | refine jR ?_ | (refine jo ?_;first | refine jV (aj rfl rfl aS rfl rfl) ?_ | refine jV (af rfl) ?_) | refine ad rfl rfl ?_)
   refine aW (vs:=[_]) rfl ⟨rfl,trivial⟩ rfl a7 ⟨rfl,_,_,rfl,rfl⟩
def gH (s k w : adA) : Option (List adA):=match cB s k w with
 | some u=>if (u.leaves.all fun r=>decide (r.length ≤ 8)) = true then some (gj [] u) else none
 | none=>none
theorem lh : ∀ (n : Nat) (v : V),v.tot ≤ n → ∀ r ∈ v.leaves,r.length ≤ n
 | 0,v,h,_,_=>by have:=hC v;omega
 | n + 1,.nd w x t ks,h,r,hr=>by
  rw [bA] at h
  rw [V.leaves] at hr
  split at hr
  ·simp only [List.mem_singleton] at hr;subst hr;simp
  ·split at hr
   ·have : ∀ (ks : List V),V.tots ks ≤ n → r ∈ V.leavesF ks → r.length ≤ n:=fun ks=>by
     induction ks with
     | nil=>intro _ hr;rw [V.leavesF] at hr;cases hr
     | cons v ks ih =>
      intro ht hr
      rw [V.tots] at ht
      rw [V.leavesF] at hr
      rcases List.mem_append.1 hr with hr | hr
      ·exact lh n v oM r hr
      ·exact ih oM hr
    have:=this ks oM hr
    omega
   ·obtain ⟨j,q,h1,rfl,h3⟩:=ge hr
    have:=gB h1
    have:=lh n (ab ks j) oM q h3
    simp only [List.length_cons];omega
theorem qB {u : V} {i : Nat} (h : i < u.leaves.length) : ab (gj [] u) i = aR (ab u.leaves i):=by
 unfold gj
 rw [aA (by simpa using h),aA h];simp
theorem jp {s k w : adA} (h : s.length ≤ 1048576 ∧ k.length ≤ 1048576 ∧ w.length ≤ 1048576) : bB adz 80 [S s,S k,S w] G (fun v G'=>∃ a c ls,v = Tu [.slice a ls.length c,Bo (gH s k w).isSome] ∧ aU G' (.slice a ls.length c) 1 ls.length (ak cn ls) ∧ (∀ l,gH s k w = some l → ls = l) ∧ (gH s k w = none → ls = [])):=by
 unfold gH
 cases hg : cB s k w with
 | none =>
  have cx_l40:=iS (G:=G) h hg
  refine jB [(0,_),(1,_),(2,_)] Tryz.func80 Tryz.ntmps80 fun B hok hB hW=>?_
  repeat' (first | refine jR ?_ | (refine jo ?_;first | refine jF fun _=>?_ | (refine an rfl rfl rfl cx_l40 rfl ?_;rintro _ G hle ⟨uu,q1,rfl⟩;skip)) | refine ac rfl rfl ?_)
  rename_i x
  refine Nx.blkAcc (m:=0) (sz:=1) .here rfl ?_
  refine Nx.sealS (v:=.slice (some ⟨x,0,none⟩) 0 0) fun G2 hG2 hsl=>?_
  refine jZ (vs:=[_,_]) rfl ⟨rfl,rfl,trivial⟩ rfl ⟨(Gh.le.trans aS hG2),rfl,?_⟩
  exact ⟨_,_,[],rfl,hsl,fun l h=>(by cases h),fun _=>rfl⟩
 | some u =>
  obtain ⟨ts,hs,hki,hvo,hto,hwf⟩:=cJ hg
  have hw:=cY hs
  have cx_l4x:=j8 (G:=G) (s:=s) (k:=k) (w:=w) h hs hki hvo
  have hok:=rp hw (cQ hvo)
  have hdp:=lh u.tot u (Nat.le_refl _)
  have hll : (gj [] u).length = u.size:=uJ
  have hl2 : u.leaves.length = u.size:=(iY u).symm
  have hsz:=mY u
  dsimp only
  refine jB [(0,_),(1,_),(2,_)] Tryz.func80 Tryz.ntmps80 fun B hok hB hW=>?_
  repeat' (first | refine jR ?_ | (refine jo ?_;first | refine jF fun _=>?_ | (refine an rfl rfl rfl cx_l4x rfl ?_;rintro _ G hle ⟨av1,cv1,vs1,b1,rfl,hR1,hT1,hrep⟩;skip)) | refine ad rfl rfl ?_)
  rename_i y
  subst hT1
  refine Nx.blkAcc (m:=0) (sz:=1) .here rfl ?_
  have cx_lv:=w7 hw hrep [] (some ⟨y,0,none⟩) 0 0 [] rfl oM (by simp) (by simp only [List.length_nil];omega)
  repeat' (first | refine jR ?_ | (refine jo ?_;(refine fB rfl rfl rfl cx_lv rfl ?_;rintro _ _ ⟨av,cv,rfl,rfl⟩;dsimp only [zA,fA])))
  rw [Nat.zero_add]
  have hle0:=hle
  refine Nx.sealS (v:=.slice av u.size cv) fun G2 hG2 hsl=>?_
  have hok8 : ∀ i,i < u.leaves.length → cG (ab (gj [] u) i) = if (ab u.leaves i).length ≤ 8 then some (ab u.leaves i) else none:=fun i hi=>by
   rw [qB hi];exact nh (hok _ (bc hi)).1
  have hxl : ∀ i,i < u.leaves.length → (ab (gj [] u) i).length ≤ 1048576:=fun i hi=>by
   rw [qB hi]
   have h1:=dK (hok _ (bc hi)).1
   have h2:=hdp _ (bc hi)
   omega
  have hall : (∀ i,i < u.leaves.length → (ab u.leaves i).length ≤ 8) → (u.leaves.all fun r=>decide (r.length ≤ 8)) = true:=fun h=>by
   rw [List.all_eq_true]
   intro r hr
   obtain ⟨i,hi,rfl⟩:=List.mem_iff_getElem.1 hr
   have:=h i hi
   rw [aA hi] at this
   exact decide_eq_true this
  have hex : ∀ i,i < u.leaves.length → ¬ (ab u.leaves i).length ≤ 8 → (u.leaves.all fun r=>decide (r.length ≤ 8)) = false:=fun i hi h=>by
   cases hb : u.leaves.all fun r=>decide (r.length ≤ 8) with
   | false=>rfl
   | true =>
    rw [List.all_eq_true] at hb
    exact absurd (of_decide_eq_true (hb _ (bc hi))) h
  clear cx_lv hok hdp
  generalize gj [] u = xs at *
  generalize u.leaves = ls at *
  obtain ⟨obv,hob⟩ : ∃ b,(ls.all fun r=>decide (r.length ≤ 8)) = b:=⟨_,rfl⟩
  rw [hob]
  rw [hob] at hall
  rw [← hll] at hsl ⊢
  refine aT (ι:=Nat × Gh) (fun i=>(i.1 ≤ xs.length ∧ ∀ j,j < i.1 → (ab ls j).length ≤ 8) ∧ Gh.le G i.2 ∧ aU i.2 (.slice av xs.length cv) 1 xs.length (ak cn xs)) (fun i=>[(11,.slice av xs.length cv),(12,I i.1)]) (fun i=>i.2) (fun i=>[]) (fun i=>xs.length - i.1) (0,G2) ?_ tU rfl a7 (fun i Hi=>?_)
  ·exact ⟨⟨Nat.zero_le _,fun j hj=>absurd hj (Nat.not_lt_zero _)⟩,hG2,hsl⟩
  obtain ⟨i,Gq⟩:=i
  dsimp only at Hi ⊢
  obtain ⟨⟨hi0,hj8⟩,hgq,hsq⟩:=Hi
  by_cases hi : i < xs.length
  ·obtain ⟨xb,xo,xc,e,hsx⟩:=hsq.expl oM
   simp only [Value.slice.injEq] at e
   obtain ⟨rfl,-,rfl⟩:=e
   have hxi : ab xs i = ab xs i:=rfl
   have hpo:=hok8 i oM
   by_cases h8 : (ab ls i).length ≤ 8
   ·rw [if_pos h8] at hpo
    have cx_sp:=hO (hxl i oM) hpo
    repeat' (first | refine jM ?_ | (refine jo ?_;first | refine jV (af rfl) ?_ | refine jV (ag rfl rfl oM) ?_ | (refine jV (eN rfl rfl aS ?_) ?_;focus omega) | (refine an rfl rfl rfl (cx_sp _) rfl ?_;rintro _ G hle ⟨sa,sc,sn,rfl,hsp⟩;skip)) | refine ac rfl (ay oM) ?_ | refine ad rfl rfl ?_)
    exact bh (i + 1,_) ⟨⟨by dsimp only;omega,fun j hj=>by
     rcases Nat.lt_or_ge j i with h | h
     ·exact hj8 j h
     ·obtain rfl : j = i:=by dsimp only at hj;omega
      exact h8⟩,Gh.le.trans hgq aS,hsq.mono aS⟩ (by dsimp only;omega) tU rfl a7
   ·rw [if_neg h8] at hpo
    have cx_sp:=iJ (hxl i oM) hpo
    obtain rfl : obv = false:=by rw [← hob];exact hex i oM h8
    repeat' (first | refine jR ?_ | (refine jo ?_;first | refine jF fun _=>?_ | refine jV (af rfl) ?_ | refine jV (ag rfl rfl oM) ?_ | (refine jV (eN rfl rfl aS ?_) ?_;focus omega) | (refine an rfl rfl rfl (cx_sp _) rfl ?_;rintro _ G hle ⟨sa,sc,sn,rfl,hsp⟩;skip)) | (refine ac rfl (by first | rfl | (refine decide_eq_true ?_;(omega))) ?_))
    rename_i z
    refine Nx.blkAcc (m:=0) (sz:=1) .here rfl ?_
    refine Nx.sealS (v:=.slice (some ⟨z,0,none⟩) 0 0) fun G3 hG3 hsl3=>?_
    refine jZ (vs:=[_,_]) rfl ⟨rfl,rfl,trivial⟩ rfl ⟨(hle0.trans (hgq.trans (hle.trans hG3))),rfl,?_⟩
    exact ⟨_,_,[],rfl,hsl3,fun l h=>(by cases h),fun _=>rfl⟩
  ·obtain rfl : i = xs.length:=oM
   obtain rfl : obv = true:=hall fun j hj=>hj8 j oM
   repeat' (first | refine jR ?_ | (refine jo ?_;refine jV (af rfl) ?_) | refine ad rfl (aG oM) ?_)
   refine jZ (vs:=[_,_]) rfl ⟨rfl,rfl,trivial⟩ rfl ⟨(hle0.trans hgq),rfl,?_⟩
   exact ⟨_,_,xs,rfl,hsq,fun l h=>by simpa using h,fun h=>(by cases h)⟩
theorem ud {s k w : adA} {ls : List adA} (h : gH s k w = some ls) : ∀ i,i < ls.length → (ab ls i).length ≤ 56:=fun i hi=>by
 unfold gH at h
 cases hg : cB s k w with
 | none=>rw [hg] at h;cases h
 | some u =>
  rw [hg] at h
  dsimp only at h
  split at h
  ·rename_i hall
   simp only [Option.some.injEq] at h
   subst h
   obtain ⟨ts,hs,hki,hvo,hto,hwf⟩:=cJ hg
   have hok:=rp (cY hs) (cQ hvo)
   have hi2 : i < u.leaves.length:=by simpa [gj] using hi
   rw [qB hi2]
   have h1:=dK (hok _ (bc hi2)).1
   rw [List.all_eq_true] at hall
   have h2:=of_decide_eq_true (hall _ (bc hi2))
   omega
  ·cases h
theorem wQ {k : Nat} {s : adA} : 1 ≤ (aZ k s).length:=by
 rw [kD]
 split <;> simp
theorem ue {s k w : adA} {ls : List adA} (h : gH s k w = some ls) : ls.length ≤ 40000:=by
 unfold gH at h
 cases hg : cB s k w with
 | none=>rw [hg] at h;cases h
 | some u =>
  rw [hg] at h
  dsimp only at h
  split at h
  ·simp only [Option.some.injEq] at h
   subst h
   obtain ⟨ts,hs,hki,hvo,hto,hwf⟩:=cJ hg
   have:=mY u
   rw [uJ];omega
  ·cases h
theorem xd {r : Nat} {code : Value} {p : Int} {l s k w : adA} (hp : 0 ≤ p ∧ p ≤ 500000000000) (hs : aU G code 1 l.length (cr l)) (hsz : s.length ≤ 1048576 ∧ k.length ≤ 1048576 ∧ w.length ≤ 1048576) :
  dF adz 46 [Pt r 0,S s,S k,S w] G [eC r code p dv] (fun v L'=>∃ x q,v = S x ∧ x.length ≤ 400 ∧ L' = [eC r code q dv] ∧ p ≤ q ∧ q ≤ p + 20):=by
 cases hl : gH s k w with
 | none =>
  have cx_pls : bB adz 80 [S s,S k,S w] G (fun v _=>∃ a n c,v = Tu [.slice a n c,Bo false]):=(jp hsz).mono fun v G' L' ⟨h1,h2,a,c,ls,h3,_⟩=>⟨h1,h2,a,ls.length,c,by rw [h3,hl];rfl⟩
  refine jB (Post:=fun v G' L'=>G' = G ∧ _) [(0,_),(1,_),(2,_),(3,_)] Tryz.func46 Tryz.ntmps46 fun B hok hB hW=>?_
  repeat' (first | refine jR ?_ | (refine jo ?_;first | refine aM rfl ?_ | refine jF fun _=>?_ | refine jV (aN rfl rfl oM) ?_ | (refine eX 64 rfl rfl rfl ?_ rfl (fun xs hxs=>?_);(focus ((simp only [List.length_append,List.length_cons,List.length_nil,List.length_take];omega);done))) | (refine an rfl rfl rfl cx_pls rfl ?_;rintro _ G hle ⟨pa1,pn1,pc1,rfl⟩;skip) | (refine aI rfl rfl rfl (c7 ?_ (by (repeat (first | assumption | refine aU.mono ?_ aS));done)) rfl ?_;(focus omega);rintro _ _ ⟨k,rfl,rfl,hk0,hk1⟩;dsimp only [zA,fA])) | refine aF rfl rfl rfl ?_ | refine ac rfl rfl ?_)
  all_goals refine Nx.base hok hB ?_
  all_goals exact aW (vs:=[_]) rfl ⟨rfl,trivial⟩ rfl sB ⟨rfl,_,_,rfl,by (omega),rfl,oM,oM⟩
 | some ls =>
  have hlen:=ud hl
  have hcnt:=ue hl
  by_cases hne : ls.length = 0
  ·have cx_plt : bB adz 80 [S s,S k,S w] G (fun v _=>∃ a n c,v = Tu [.slice a 0 c,Bo true] ∧ n = 0):=(jp hsz).mono fun v G' L' ⟨h1,h2,a,c,ls',h3,h4,h5,_⟩=>by
    obtain rfl:=h5 ls hl
    exact ⟨h1,h2,a,0,c,by rw [h3,hl];exact congrArg (fun n=>Tu [.slice a n c,Bo true]) hne,rfl⟩
   refine jB (Post:=fun v G' L'=>G' = G ∧ _) [(0,_),(1,_),(2,_),(3,_)] Tryz.func46 Tryz.ntmps46 fun B hok hB hW=>?_
   repeat' (first | refine jR ?_ | (refine jo ?_;first | refine jV (af rfl) ?_ | refine aM rfl ?_ | refine aC rfl ?_ | refine jF fun _=>?_ | refine jV (aN rfl rfl oM) ?_ | (refine eX 64 rfl rfl rfl ?_ rfl (fun xs hxs=>?_);(focus ((simp only [List.length_append,List.length_cons,List.length_nil,List.length_take];omega);done))) | (refine an rfl rfl rfl cx_plt rfl ?_;rintro _ G hle ⟨pa1,pn1,pc1,rfl,_⟩;skip) | (refine aI rfl rfl rfl (c7 ?_ (by (repeat (first | assumption | refine aU.mono ?_ aS));done)) rfl ?_;(focus omega);rintro _ _ ⟨k,rfl,rfl,hk0,hk1⟩;dsimp only [zA,fA])) | refine aF rfl rfl rfl ?_ | refine ar rfl rfl rfl ?_ | refine ac rfl rfl ?_)
   all_goals refine Nx.base hok hB ?_
   all_goals exact aW (vs:=[_]) rfl ⟨rfl,trivial⟩ rfl sB ⟨rfl,_,_,rfl,by (omega),rfl,oM,oM⟩
  ·have cx_plu : bB adz 80 [S s,S k,S w] G (fun v G'=>∃ b o c,v = Tu [.slice (some ⟨b,o,none⟩) ls.length c,Bo true] ∧ b9 G' b o (ak cn ls)):=(jp hsz).mono fun v G' L' ⟨h1,h2,a,c,ls',h3,h4,h5,_⟩=>by
    obtain rfl:=h5 ls hl
    obtain ⟨b,o,c',e,hs⟩:=h4.expl oM
    simp only [Value.slice.injEq] at e
    obtain ⟨rfl,-,rfl⟩:=e
    exact ⟨h1,h2,b,o,c,by rw [h3,hl];rfl,hs⟩
   have hcl : ∀ i,i < ls.length → (ab (aZ 47 (ab ls i)) 0).length ≤ 56:=fun i hi=>by
    have h1:=hlen i hi
    have h2:=wQ (k:=47) (s:=ab ls i)
    have h3:=df (bc (show 0 < (aZ 47 (ab ls i)).length by omega))
    omega
   have cx_cutg : ∀ {G : Gh} (i : Nat),i < ls.length → bB adz 65 [S (ab ls i),U8 47] G (fun v G'=>∃ b o c,v = .slice (some ⟨b,o,none⟩) (aZ 47 (ab ls i)).length c ∧ 1 ≤ (aZ 47 (ab ls i)).length ∧ b9 G' b o (ak cn (aZ 47 (ab ls i)))):=fun {G} i hi=>(mC (G:=G) (k:=47) (by have:=hlen i hi;omega)).mono fun v G' L' ⟨h1,h2,h3⟩=>by
    have h5:=wQ (k:=47) (s:=ab ls i)
    obtain ⟨la,lc,rfl⟩:=h3.sl
    obtain ⟨b,o,c,e,hsg⟩:=h3.expl oM
    exact ⟨h1,h2,b,o,c,e,h5,hsg⟩
   clear hl
   refine jB (Post:=fun v G' L'=>G' = G ∧ _) [(0,_),(1,_),(2,_),(3,_)] Tryz.func46 Tryz.ntmps46 fun B hok hB hW=>?_
   repeat' (first | refine jR ?_ | (refine jo ?_;first | refine jV (af rfl) ?_ | refine aC rfl ?_ | refine jF fun _=>?_ | refine jV (aN rfl rfl oM) ?_ | (refine eX 64 rfl rfl rfl ?_ rfl (fun xs hxs=>?_);(focus ((simp only [List.length_append,List.length_cons,List.length_nil,List.length_take];omega);done))) | (refine jV (eN rfl rfl aS ?_) ?_;focus omega) | (refine an rfl rfl rfl cx_plu rfl ?_;rintro _ G hle ⟨pb1,po1,pc1,rfl,hlvs⟩;skip) | (refine aI rfl rfl rfl (c7 ?_ (by (repeat (first | assumption | refine aU.mono ?_ aS));done)) rfl ?_;(focus omega);rintro _ _ ⟨k,rfl,rfl,hk0,hk1⟩;dsimp only [zA,fA]) | (refine an rfl rfl rfl ((cx_cutg _) oM) rfl ?_;rintro _ G hle ⟨b1,o1,cap1,rfl,hcc,hseg⟩;skip)) | (refine ar rfl rfl (by first | rfl | (refine decide_eq_false ?_;(omega))) ?_) | refine eD rfl (fun _=>?_) (fun _=>?_))
   all_goals (first | (refine Nx.base hok hB ?_;exact aW (vs:=[_]) rfl ⟨rfl,trivial⟩ rfl sB ⟨rfl,_,_,rfl,by (omega),rfl,oM,oM⟩) | skip)
   all_goals refine Nx.base hok hB ?_
   ·exact aW (vs:=[_]) rfl ⟨rfl,trivial⟩ rfl a7 ⟨rfl,_,_,rfl,Nat.le_trans (hcl _ oM) dC,rfl,oM,oM⟩
   ·exact aW (vs:=[_]) rfl ⟨rfl,trivial⟩ rfl a7 ⟨rfl,_,_,rfl,Nat.le_trans (hlen _ oM) dC,rfl,oM,oM⟩
section
variable {P : Program} {n : Nat} {D : List Deferred} {E : bS} {B : Base} {G : Gh} {L : List Own} {K : Act → World → Prop} {Q : Exit → Act → World → Prop} {ty : TypeId} {pos : String} {aft : Array Edge}
theorem acK {fo : Operand} {l : List Operand} {ah : Array TypeId} {d : Nat} {g : Option (Nat × Bool)} {f : FuncId} {fi ca az vs : List Value} {Post : Value → Gh → List Own → Prop}
  (hf : ev E fo = some (.func (.func f) fi.toArray ca.toArray)) (ha : evs E l = some az) (hv : fi ++ az ++ ca = vs) (hc : fK P f vs G [] Post) (hlt : Nat.blt d n = true)
  (k : ∀ v G' L',Gh.le G G' → Post v G' L' → Nx n D ((d,v) :: E) B G' (L' ++ L) K) : Nx n D E B G L (ow P ⟨some d,.call ⟨.value fo,l.toArray,ah⟩,ty,pos,aft,g⟩ Q K) :=
 jk (Lp:=[]) hf ha hv hc (List.Perm.refl _) hlt fun v G' L' h=>k v G' L' h.1 h.2
end
variable {G : Gh}
theorem aU.pre {p : Option Addr} {n c sz m : Nat} {xs : List Value} (h : aU G (.slice p n c) sz n xs) (hm : m ≤ n) : aU G (.slice p m c) sz m (xs.take (m * sz)):=by
 obtain ⟨h1,⟨h2,h3⟩ | ⟨b',o',cap',e,hc,hs⟩⟩:=h
 ·simp only [Value.slice.injEq] at h2
  obtain ⟨rfl,rfl,rfl⟩:=h2
  obtain rfl : m = 0:=oM
  exact ⟨by simp [h3],.inl ⟨rfl,by simp [h3]⟩⟩
 ·simp only [Value.slice.injEq] at e
  obtain ⟨rfl,-,rfl⟩:=e
  refine ⟨by rw [List.length_take,h1];exact Nat.min_eq_left (Nat.mul_le_mul_right _ hm),.inr ⟨b',o',_,rfl,oM,?_⟩⟩
  obtain ⟨cs,h3,h4⟩:=hs
  refine ⟨cs,h3,fun i v hv=>h4 i v ?_⟩
  rw [List.getElem?_take] at hv
  split at hv
  ·exact hv
  ·cases hv
abbrev lL (c : Ch) : Prop:=c.1.length ≤ 1000 ∧ c.2.length ≤ 1000
theorem lL.all {l : List Ch} (h : ∀ x ∈ l,lL x) : ∀ x ∈ l,vl x:=fun x hx=>by have:=h x hx;exact ⟨oM,oM⟩
theorem tY {s k w t : adA} (h : s.length ≤ 1048576 ∧ k.length ≤ 1048576 ∧ w.length ≤ 1048576 ∧ t.length ≤ 1048576) :
  fK adz 16 [S s,S k,S w,S t] G [] (fun v _ L'=>∃ p c ls ok,v = Tu [.slice p ls.length c,Bo ok] ∧ L' = [.acc (.slice p ls.length c) lR 2 ls.length (ak dO ls)] ∧ ls.length ≤ 30 ∧ ∀ x ∈ ls,lL x):=by
 refine (tZ h).mono ?_
 rintro v G' L' ⟨h1,p,c,h2,h3⟩
 refine ⟨h1,p,c,_,_,h2,h3,?_⟩
 cases e : ep s k w t with
 | none=>exact ⟨by simp,fun x hx=>by cases hx⟩
 | some l =>
  obtain ⟨g1,g2⟩:=uh e
  exact ⟨g1,fun x hx=>by have:=g2 x hx;exact ⟨oM,oM⟩⟩
theorem nZ {v : Value} {l : adA} (hs : aU G v 1 l.length (cr l)) : bB adz 25 [v] G (fun r G'=>∃ s k x p c cl,r = Tu [S s,S k,S x,.slice p cl.length c] ∧ (True → aU G' (.slice p cl.length c) 2 cl.length (ak dO cl)) ∧ (s.length ≤ 1048576 ∧ k.length ≤ 1048576 ∧ x.length ≤ 1048576) ∧ cl.length ≤ 40 ∧ ∀ x ∈ cl,lL x):=by
 have cx_chw:=fun (G : Gh) (s k w t : adA)=>@tY G s k w t
 refine jB [(0,_)] Tryz.func25 Tryz.ntmps25 fun B hok hB hW=>?_
 repeat' (first | refine jR ?_ | (refine jo ?_;first | refine jF fun _=>?_ | refine jV (aN rfl rfl oM) ?_ | (refine eX 64 rfl rfl rfl ?_ rfl (fun xs hxs=>?_);(focus ((simp only [List.length_append,List.length_cons,List.length_nil,List.length_take];omega);done))) | refine jV (ax rfl rfl) ?_ | refine bD rfl rfl rfl rfl rfl rfl rfl rfl rfl oM fun _ _=>?_ | (refine fx rfl rfl rfl (yq (by (repeat (assumption));done)) rfl ?_;rintro _ _ ⟨b,code,l,rfl,rfl,hcd,hcl⟩;dsimp only [zA,fA]) | (refine aI rfl rfl rfl (ul ?_ (by (repeat (assumption));done)) rfl ?_;(focus omega);rintro _ _ ⟨sc,q1,rfl,hsc,rfl,hq1,hq2⟩;dsimp only [zA,fA]) | (refine aI rfl rfl rfl (xa ?_ (by (repeat (assumption));done) ?_) rfl ?_;(focus omega);(focus omega);rintro _ _ ⟨kd,q1,rfl,hkd,rfl,hq1,hq2⟩;dsimp only [zA,fA]) | (refine aI rfl rfl rfl (aam ?_ (by (repeat (assumption));done) ?_ ?_) rfl ?_;(focus omega);(focus omega);(focus omega);rintro _ _ ⟨tx,q1,rfl,htx,rfl,hq1,hq2⟩;dsimp only [zA,fA]) | (refine acK rfl rfl rfl ((cx_chw _ _ _ _ _) oM) rfl ?_;rintro _ G1 _ hle ⟨pl,pc,ls,ok1,rfl,rfl,hln,hlc⟩;dsimp only [zA,fA];skip) | (refine aI rfl rfl rfl (c7 ?_ (by (repeat (first | assumption | refine aU.mono ?_ aS));done)) rfl ?_;(focus omega);rintro _ _ ⟨k,rfl,rfl,hk0,hk1⟩;dsimp only [zA,fA]) | (refine aI rfl rfl rfl (xd ?_ (by (repeat (first | assumption | refine aU.mono ?_ aS));done) ?_) rfl ?_;(focus omega);(focus omega);rintro _ _ ⟨pth,q1,rfl,hpth,rfl,hq1,hq2⟩;dsimp only [zA,fA])) | refine eD rfl (fun _=>?_) (fun _=>?_))
 ·rename_i b' c'
  have hrow : ak dO (ls ++ [(pth,xs)]) = ak dO ls ++ [S pth,S xs]:=bR dO ls _
  refine Nx.sealS (v:=.slice (some ⟨b',0,none⟩) (ls.length + 1) c') fun G2 hG2 hsl=>?_
  refine jZ (vs:=[_,_,_,_]) rfl ⟨rfl,rfl,rfl,rfl,trivial⟩ rfl ⟨(hle.trans hG2),rfl,?_⟩
  exact ⟨_,_,_,some ⟨b',0,none⟩,c',ls ++ [(pth,xs)],by rw [List.length_append];rfl,fun _=>by rw [List.length_append,hrow];exact hsl,⟨oM,oM,oM⟩,by rw [List.length_append];show ls.length + 1 ≤ 40;omega,fun x hx=>by
   rcases List.mem_append.1 hx with hx | hx
   ·exact hlc x hx
   ·rw [List.mem_singleton.1 hx]
    exact ⟨by dsimp only;omega,by dsimp only;omega⟩⟩
 ·refine Nx.sealS (v:=.slice pl ls.length pc) fun G2 hG2 hsl=>?_
  refine jZ (vs:=[_,_,_,_]) rfl ⟨rfl,rfl,rfl,rfl,trivial⟩ rfl ⟨(hle.trans hG2),rfl,?_⟩
  exact ⟨_,_,_,pl,pc,ls,rfl,fun _=>hsl,⟨oM,oM,oM⟩,oM,hlc⟩
theorem sN {α : Type} [Inhabited α] {l : List α} {i p : Nat} {c : α} (hp : p < l.length) : ab (l.set i c) p = if p = i then c else ab l p:=by
 rw [qA hp]
 by_cases e : i = p
 ·rw [if_pos e,if_pos e.symm]
 ·rw [if_neg e,if_neg (fun h=>e h.symm)]
def sq {α : Type} [Inhabited α] (l cur : List α) (i : Nat) : Prop:=cur.length = l.length ∧ ∀ p,p < l.length → ab cur p = if p < i ∨ l.length - 1 - p < i then ab l (l.length - 1 - p) else ab l p
theorem aaU {α : Type} [Inhabited α] (l : List α) : sq l l 0:=⟨rfl,fun p hp=>by rw [if_neg oM]⟩
theorem wq {α : Type} [Inhabited α] {l cur : List α} {i : Nat} (h : sq l cur i) (hi : 2 * i + 1 < l.length) : sq l ((cur.set i (ab cur (l.length - 1 - i))).set (l.length - 1 - i) (ab cur i)) (i + 1):=by
 obtain ⟨h1,h2⟩:=h
 refine ⟨by simp [h1],fun p hp=>?_⟩
 rw [sN (by rw [List.length_set];omega),sN oM]
 by_cases e1 : p = l.length - 1 - i
 ·rw [if_pos e1,if_pos oM,h2 i oM,if_neg oM]
  congr 1;omega
 ·rw [if_neg e1]
  by_cases e2 : p = i
  ·rw [if_pos e2,if_pos oM,h2 _ oM,if_neg oM]
   congr 1;omega
  ·rw [if_neg e2,h2 p hp]
   by_cases e3 : p < i ∨ l.length - 1 - p < i
   ·rw [if_pos e3,if_pos oM]
   ·rw [if_neg e3,if_neg oM]
theorem xH {α : Type} [Inhabited α] {l cur : List α} {i : Nat} (h : sq l cur i) (hi : l.length ≤ 2 * i + 1) : cur = l.reverse:=by
 obtain ⟨h1,h2⟩:=h
 refine List.ext_getElem (by simp [h1]) fun p hp hq=>?_
 rw [← aA hp,h2 p oM,List.getElem_reverse]
 by_cases e : p < i ∨ l.length - 1 - p < i
 ·rw [if_pos e,aA oM]
 ·rw [if_neg e,aA oM]
  congr 1;omega
theorem rQ {s k w : adA} {c : Ch} {r : List Ch} {g : adA × adA} {t : adA} (hg : cU s k w c.1 = some g) (hp : cF s k w c.1 c.2 = some t) : c6 s k w (c :: r) = (c6 s k t r).map fun o=>o ++ [(c.1,g.2)]:=by
 rw [c6,hg]
 dsimp only
 rw [hp]
 dsimp only
 cases c6 s k t r <;> rfl
theorem yy {s k w : adA} {c : Ch} {r : List Ch} (hg : cU s k w c.1 = none) : c6 s k w (c :: r) = none:=by
 rw [c6,hg]
theorem yx {s k w : adA} {c : Ch} {r : List Ch} (hp : cF s k w c.1 c.2 = none) : c6 s k w (c :: r) = none:=by
 rw [c6]
 cases cU s k w c.1 with
 | none=>rfl
 | some g=>dsimp only;rw [hp]
def dB (s k w : adA) (l : List Ch) : Option (List Ch):=if kv s k w = true then c6 s k w l else none
theorem ox {α : Type} (o : Option (List α)) (a b : List α) : (o.map fun x=>x ++ a).map (fun x=>x ++ b) = o.map fun x=>x ++ (a ++ b):=by
 cases o with
 | none=>rfl
 | some x=>simp
theorem nY {s k t : adA} {l : List Ch} {out : List Ch} {c : Ch} {r : List Ch} (hl : l = c :: r) (h : cU s k t c.1 = none ∨ cF s k t c.1 c.2 = none) : (c6 s k t l).map (fun o=>o ++ out) = none:=by
 subst hl
 rcases h with h | h
 ·rw [yy h];rfl
 ·rw [yx h];rfl
theorem t5 : ∀ cs : List Ch,eg (ak dO cs) = true
 | []=>rfl
 | c :: cs=>by rw [kK,oE,t5 cs];rfl
theorem qT {s k w : adA} {u : Value} {l : List Ch} (h : s.length ≤ 1048576 ∧ k.length ≤ 1048576 ∧ w.length ≤ 1048576) (hu : aU G u 2 l.length (ak dO l)) (hn : l.length ≤ 1048576) (hl : ∀ x ∈ l,vl x) :
  bB adz 10 [S s,S k,S w,u] G (fun v G'=>∃ p c,v = Tu [.slice p ((dB s k w l).getD []).length c,Bo (dB s k w l).isSome] ∧ aU G' (.slice p ((dB s k w l).getD []).length c) 2 ((dB s k w l).getD []).length (ak dO ((dB s k w l).getD []))):=by
 unfold dB
 have cx_wo:=qd (G:=G) h
 cases ho : kv s k w with
 | false =>
  rw [ho] at cx_wo
  rw [if_neg (by simp)]
  refine jB [(0,_),(1,_),(2,_),(3,_)] Tryz.func10 Tryz.ntmps10 fun B hok hB hW=>?_
  repeat' (first | refine jR ?_ | (refine jo ?_;first | refine jF fun _=>?_ | refine ae rfl rfl rfl cx_wo rfl ?_) | refine ac rfl rfl ?_)
  rename_i y
  refine Nx.blkAcc (m:=0) (sz:=2) .here rfl ?_
  refine Nx.sealS (v:=.slice (some ⟨y,0,none⟩) 0 0) fun G3 hG3 hsl3=>?_
  all_goals refine jZ (vs:=[_,_]) rfl ⟨rfl,rfl,trivial⟩ rfl ⟨hG3,rfl,?_⟩
  exact ⟨_,_,rfl,hsl3⟩
 | true =>
  rw [ho] at cx_wo
  rw [if_pos rfl]
  refine jB [(0,_),(1,_),(2,_),(3,_)] Tryz.func10 Tryz.ntmps10 fun B hok hB hW=>?_
  repeat' (first | refine jR ?_ | (refine jo ?_;first | refine jF fun _=>?_ | refine ae rfl rfl rfl cx_wo rfl ?_) | refine ad rfl rfl ?_)
  rename_i y
  refine Nx.blkAcc (m:=0) (sz:=2) .here rfl ?_
  refine Nx.sealS (v:=.slice (some ⟨y,0,none⟩) 0 0) fun G3 hG3 hsl3=>?_
  refine aT (ι:=Nat × adA × List Ch × Option Addr × Nat × Gh) (fun j=>((j.1 ≤ l.length ∧ j.2.2.1.length = j.1) ∧ c6 s k w l = (c6 s k j.2.1 (l.drop j.1)).map (fun o=>o ++ j.2.2.1) ∧ j.2.1.length ≤ 1048576) ∧ Gh.le G3 j.2.2.2.2.2 ∧ aU j.2.2.2.2.2 (.slice j.2.2.2.1 j.2.2.1.length j.2.2.2.2.1) 2 j.2.2.1.length (ak dO j.2.2.1)) (fun j=>[(0,S s),(1,S k),(2,S j.2.1),(3,u),(10,.slice j.2.2.2.1 j.2.2.1.length j.2.2.2.2.1),(11,I (j.1 : Nat))]) (fun j=>j.2.2.2.2.2) (fun j=>[]) (fun j=>l.length - j.1) (0,w,[],some ⟨y,0,none⟩,0,G3) ?_ tU rfl a7 (fun j Hj=>?_)
  ·refine ⟨⟨⟨Nat.zero_le _,rfl⟩,?_,h.2.2⟩,Gh.le.refl _,hsl3⟩
   show c6 s k w l = (c6 s k w l).map (fun o=>o ++ [])
   simp
  obtain ⟨i,t,out,pa,pc,Gq⟩:=j
  dsimp only at Hj ⊢
  obtain ⟨⟨⟨hj1,hjl⟩,hj2,hj3⟩,hgq,hso⟩:=Hj
  have hGa:=hG3.trans hgq
  by_cases hi : i < l.length
  ·obtain ⟨ba,oa,ca,rfl,sa⟩:=(hu.mono hGa).expl oM
   have hx:=hl _ (bc hi)
   have cx_ss2:=v5 (G:=Gq) (s:=s) (k:=k) (w:=t) (p:=(ab l i).1) ⟨h.1,h.2.1,hj3,hx.1⟩
   have cx_ps2:=qf (G:=Gq) (s:=s) (k:=k) (w:=t) (p:=(ab l i).1) (x:=(ab l i).2) ⟨h.1,h.2.1,hj3,hx.1⟩ hx.2
   unfold na at cx_ps2
   unfold yM at cx_ss2
   cases hg : cU s k t (ab l i).1 with
   | none =>
    rw [nY (fH hi) (.inl hg)] at hj2
    rw [hg] at cx_ss2
    simp only [Option.map_none,Option.getD_none,Option.isSome_none] at cx_ss2
    rw [hj2]
    repeat' (first | refine jR ?_ | (refine jo ?_;first | refine jF fun _=>?_ | refine jV (af rfl) ?_ | refine jV (ag rfl rfl oM) ?_ | (refine jV (bQ rfl rfl aS ?_ rfl rfl) ?_;focus omega) | refine aM rfl ?_ | refine ae rfl rfl rfl cx_ss2 rfl ?_) | refine aF rfl rfl rfl ?_ | (refine ac rfl (by first | rfl | (refine decide_eq_true ?_;(omega))) ?_) | (refine am (ao (id:=8) _ (fun _ h=>h) al ?_);refine jT 12 [0,1,2,3,4,8,9] (aa 19 799) ?_;(refine jG (aa 19 831) 5 rfl (ag rfl rfl oM) ?_);refine jT 10 [6] (aa 19 895) ?_;((refine jG (aa 19 1023) 7 rfl (bQ rfl rfl aS ?_ rfl rfl) ?_;focus omega));(refine jG (aa 19 2047) 10 rfl (ag rfl rfl oM) ?_);refine jT 7 [11] (aa 19 4095) ?_;((refine jG (aa 19 8191) 12 rfl (bQ rfl rfl aS ?_ rfl rfl) ?_;focus omega));refine jA 13 rfl ?_;(refine ae rfl rfl rfl cx_ps2 rfl ?_);refine jS (aa 19 16383) ?_;refine jT 0 [14,15,16,17,18] (aa 19 524287) ?_;refine jQ ?_))
    all_goals rename_i z
    all_goals refine Nx.blkAcc (m:=0) (sz:=2) .here rfl ?_
    all_goals refine Nx.sealS (v:=.slice (some ⟨z,0,none⟩) 0 0) fun G4 hG4 hsl4=>?_
    all_goals refine jZ (vs:=[_,_]) rfl ⟨rfl,rfl,trivial⟩ rfl ⟨(hGa.trans hG4),rfl,?_⟩
    all_goals exact ⟨_,_,rfl,hsl4⟩
   | some g =>
    rw [hg] at cx_ss2
    simp only [Option.map_some,Option.getD_some,Option.isSome_some] at cx_ss2
    cases hp : cF s k t (ab l i).1 (ab l i).2 with
    | none =>
     rw [nY (fH hi) (.inr hp)] at hj2
     rw [hp] at cx_ps2
     dsimp only [Option.getD,Option.isSome] at cx_ps2
     rw [hj2]
     repeat' (first | refine jR ?_ | (refine jo ?_;first | refine jF fun _=>?_ | refine jV (af rfl) ?_ | refine jV (ag rfl rfl oM) ?_ | (refine jV (bQ rfl rfl aS ?_ rfl rfl) ?_;focus omega) | refine aC rfl ?_ | refine ae rfl rfl rfl cx_ss2 rfl ?_) | refine ar rfl rfl rfl ?_ | (refine ac rfl (by first | rfl | (refine decide_eq_true ?_;(omega))) ?_) | (refine am (ao (id:=8) _ (fun _ h=>h) al ?_);refine jT 12 [0,1,2,3,4,8,9] (aa 19 799) ?_;(refine jG (aa 19 831) 5 rfl (ag rfl rfl oM) ?_);refine jT 10 [6] (aa 19 895) ?_;((refine jG (aa 19 1023) 7 rfl (bQ rfl rfl aS ?_ rfl rfl) ?_;focus omega));(refine jG (aa 19 2047) 10 rfl (ag rfl rfl oM) ?_);refine jT 7 [11] (aa 19 4095) ?_;((refine jG (aa 19 8191) 12 rfl (bQ rfl rfl aS ?_ rfl rfl) ?_;focus omega));refine jA 13 rfl ?_;(refine ae rfl rfl rfl cx_ps2 rfl ?_);refine jS (aa 19 16383) ?_;refine jT 0 [14,15,16,17,18] (aa 19 524287) ?_;refine jQ ?_))
     all_goals rename_i z
     all_goals refine Nx.blkAcc (m:=0) (sz:=2) .here rfl ?_
     all_goals refine Nx.sealS (v:=.slice (some ⟨z,0,none⟩) 0 0) fun G4 hG4 hsl4=>?_
     all_goals refine jZ (vs:=[_,_]) rfl ⟨rfl,rfl,trivial⟩ rfl ⟨(hGa.trans hG4),rfl,?_⟩
     all_goals exact ⟨_,_,rfl,hsl4⟩
    | some z =>
     have hz:=(lu hp).2
     rw [hp] at cx_ps2
     dsimp only [Option.getD,Option.isSome] at cx_ps2
     rw [fH hi,rQ hg hp,ox] at hj2
     repeat' (first | refine jR ?_ | (refine jo ?_;first | refine jF fun _=>?_ | refine jV (af rfl) ?_ | refine jV (ag rfl rfl oM) ?_ | (refine jV (bQ rfl rfl aS ?_ rfl rfl) ?_;focus omega) | refine aC rfl ?_ | refine jV (ax rfl rfl) ?_ | refine ae rfl rfl rfl cx_ss2 rfl ?_) | refine ar rfl rfl rfl ?_ | refine ac rfl (ay oM) ?_ | refine ad rfl rfl ?_ | (refine am (ao (id:=8) _ (fun _ h=>h) al ?_);refine jT 12 [0,1,2,3,4,8,9] (aa 19 799) ?_;(refine jG (aa 19 831) 5 rfl (ag rfl rfl oM) ?_);refine jT 10 [6] (aa 19 895) ?_;((refine jG (aa 19 1023) 7 rfl (bQ rfl rfl aS ?_ rfl rfl) ?_;focus omega));(refine jG (aa 19 2047) 10 rfl (ag rfl rfl oM) ?_);refine jT 7 [11] (aa 19 4095) ?_;((refine jG (aa 19 8191) 12 rfl (bQ rfl rfl aS ?_ rfl rfl) ?_;focus omega));refine jA 13 rfl ?_;(refine ae rfl rfl rfl cx_ps2 rfl ?_);refine jS (aa 19 16383) ?_;refine jT 0 [14,15,16,17,18] (aa 19 524287) ?_;refine jQ ?_))
     refine Nx.blkAcc (m:=1) (sz:=2) .here rfl ?_
     refine jo ?_
     refine acR rfl rfl hso rfl (t5 _) rfl rfl rfl rfl oM fun v'=>?_
     refine Nx.shp (.head _) fun hsh=>?_
     obtain ⟨b',c',rfl⟩:=hsh.pos oM
     rw [Nat.add_comm 1]
     refine Nx.sealS (v:=.slice (some ⟨b',0,none⟩) (out.length + 1) c') fun G4 hG4 hsl4=>?_
     repeat' (refine jM ?_)
     exact bh (i + 1,z,((ab l i).1,g.2) :: out,some ⟨b',0,none⟩,c',G4) ⟨⟨⟨by dsimp only;omega,by dsimp only;rw [List.length_cons,hjl]⟩,hj2,by dsimp only;omega⟩,hgq.trans hG4,hsl4⟩ (by dsimp only;omega) tU rfl a7
  ·have ei : i = l.length:=oM
   rw [ei,List.drop_length,c6] at hj2
   rw [hj2]
   repeat' (first | refine jR ?_ | (refine jo ?_;refine jV (eM rfl aS) ?_) | refine ad rfl (aG oM) ?_)
   all_goals refine jZ (vs:=[_,_]) rfl ⟨rfl,rfl,trivial⟩ rfl ⟨hGa,rfl,?_⟩
   exact ⟨_,_,rfl,hso⟩
abbrev lS : TypeId:=48
theorem v4 {p : Option Addr} {c : Nat} {l : List Ch} (hn : l.length ≤ 1048576) :
  dF adz 33 [.slice p l.length c] G [.acc (.slice p l.length c) lS 2 l.length (ak dO l)] (fun _ L'=>L' = [.acc (.slice p l.length c) lS 2 l.length (ak dO l.reverse)]):=by
 refine jH [(0,_)] Tryz.func33 Tryz.ntmps33 fun B hB hW=>?_
 repeat' (first | refine jM ?_ | (refine jo ?_;refine jV (af rfl) ?_))
 rw [show ((l.length : Nat) : Int) - 1 = ((l.length : Nat) : Int) - 1 - ((0 : Nat) : Int) by omega]
 refine aT (ι:=Nat × List Ch) (fun i=>sq l i.2 i.1 ∧ 2 * i.1 ≤ l.length + 1) (fun i=>[(0,.slice p l.length c),(2,I (i.1 : Nat)),(3,I ((l.length : Nat) - 1 - (i.1 : Nat)))]) (fun _=>G) (fun i=>[.acc (.slice p l.length c) lS 2 l.length (ak dO i.2)]) (fun i=>l.length - i.1) (0,l) ?_ tU rfl a7 (fun i Hi=>?_)
 ·exact ⟨aaU l,by dsimp only;omega⟩
 obtain ⟨i,cur⟩:=i
 dsimp only at Hi ⊢
 obtain ⟨h1,h2⟩:=Hi
 have hcl:=h1.1
 by_cases hi : 2 * i + 1 < l.length
 ·obtain ⟨j,hj⟩ : ∃ j : Nat,((l.length : Nat) : Int) - 1 - (i : Nat) = (j : Nat):=⟨l.length - 1 - i,oM⟩
  have hjl : l.length - 1 - i = j:=oM
  have hst:=wq h1 hi
  rw [hjl] at hst
  rw [hj]
  refine Nx.shp (.head _) fun hsh=>?_
  obtain ⟨b,cc,e⟩:=hsh.pos oM
  simp only [Value.slice.injEq] at e
  obtain ⟨rfl,-,rfl⟩:=e
  repeat' (first | refine jR ?_ | refine ac rfl (ay oM) ?_)
  (refine am (ao (id:=3) [] (fun _ h=>absurd h (by simp)) al ?_);refine jW 8 [0,1,2,3,4,5,8,9] (aa 16 831) ?_;((refine jG (aa 16 895) 6 rfl (ag rfl rfl ?_) ?_;focus omega));((refine jG (aa 16 1919) 10 rfl (ag rfl rfl ?_) ?_;focus omega));refine b8 [7,11] kR dC ⟨?_,?_,trivial⟩;(focus (refine aO rfl rfl ?_;((refine jV (lC rfl rfl rfl ?_) ?_;focus omega));refine jK (aa 16 2047) ?_;refine jA 11 rfl ?_;((refine jV (lC rfl rfl rfl ?_) ?_;focus omega));refine jK (aa 16 4095) ?_;((refine jG (aa 16 8191) 12 rfl (ag rfl rfl ?_) ?_;focus omega));refine jA 13 rfl ?_;(refine nE (f:=dO) (cs:=cur) (i:=i) (c:=ab cur j) rfl rfl rfl rfl rfl oM oM ?_);refine jK (aa 16 16383) ?_;((refine jG (aa 16 32767) 14 rfl (ag rfl rfl ?_) ?_;focus omega));refine jA 15 rfl ?_;(refine nE (f:=dO) (cs:=cur.set i (ab cur j)) (i:=j) (c:=ab cur i) rfl rfl rfl rfl rfl oM (by rw [List.length_set];omega) ?_);refine jK (aa 16 65535) ?_;refine jQ ?_));rotate_left 1;(focus (refine aO rfl rfl ?_;((refine jV (lC rfl rfl rfl ?_) ?_;focus omega));refine jK (aa 16 3967) ?_;refine jA 7 rfl ?_;((refine jV (lC rfl rfl rfl ?_) ?_;focus omega));refine jK (aa 16 4095) ?_;((refine jG (aa 16 8191) 12 rfl (ag rfl rfl ?_) ?_;focus omega));refine jA 13 rfl ?_;(refine nE (f:=dO) (cs:=cur) (i:=i) (c:=ab cur j) rfl rfl rfl rfl rfl oM oM ?_);refine jK (aa 16 16383) ?_;((refine jG (aa 16 32767) 14 rfl (ag rfl rfl ?_) ?_;focus omega));refine jA 15 rfl ?_;(refine nE (f:=dO) (cs:=cur.set i (ab cur j)) (i:=j) (c:=ab cur i) rfl rfl rfl rfl rfl oM (by rw [List.length_set];omega) ?_);refine jK (aa 16 65535) ?_;refine jQ ?_));rotate_left 1)
  all_goals repeat' (refine jM ?_)
  all_goals rw [show ((j : Nat) : Int) - 1 = ((l.length : Nat) : Int) - 1 - ((i + 1 : Nat) : Int) by omega]
  all_goals exact bh (i + 1,(cur.set i (ab cur j)).set j (ab cur i)) ⟨hst,by dsimp only;omega⟩ (by dsimp only;omega) tU rfl a7
 ·obtain rfl:=xH h1 oM
  repeat' (first | refine jR ?_ | refine ad rfl (aG oM) ?_)
  exact kz (vs:=[]) rfl trivial rfl a7 ⟨rfl,rfl⟩
theorem qU {s k w : adA} {u : Value} {l : List Ch} (h : s.length ≤ 1048576 ∧ k.length ≤ 1048576 ∧ w.length ≤ 1048576) (hu : aU G u 2 l.length (ak dO l)) (hn : l.length ≤ 1048576) (hl : ∀ x ∈ l,vl x) :
  dF adz 12 [S s,S k,S w,u] G [] (fun v L'=>∃ p c,v = Tu [.slice p ((dB s k w l).getD []).length c,Bo (dB s k w l).isSome] ∧ L' = [.acc (.slice p ((dB s k w l).getD []).length c) lS 2 ((dB s k w l).getD []).length (ak dO ((dB s k w l).getD []))]):=by
 unfold dB
 have cx_o1:=qe (G:=G) h
 cases ho : kv s k w with
 | false =>
  rw [ho] at cx_o1
  rw [if_neg (by simp)]
  refine jH [(0,_),(1,_),(2,_),(3,_)] Tryz.func12 Tryz.ntmps12 fun B hB hW=>?_
  repeat' (first | refine jR ?_ | (refine jo ?_;refine ae rfl rfl rfl cx_o1 rfl ?_) | refine ac rfl rfl ?_)
  all_goals refine Nx.addNil lS 2 ?_
  all_goals refine aW (vs:=[_,_]) rfl ⟨rfl,rfl,trivial⟩ rfl a7 ⟨rfl,_,_,rfl,rfl⟩
 | true =>
  rw [ho] at cx_o1
  rw [if_pos rfl]
  refine jH [(0,_),(1,_),(2,_),(3,_)] Tryz.func12 Tryz.ntmps12 fun B hB hW=>?_
  repeat' (first | refine jR ?_ | (refine jo ?_;first | refine jV (eM rfl aS) ?_ | refine ae rfl rfl rfl cx_o1 rfl ?_) | refine ad rfl rfl ?_)
  refine Nx.addNil lS 2 ?_
  refine aT (ι:=Nat × adA × List Ch × Option Addr × Nat) (fun j=>(j.1 ≤ l.length ∧ j.2.2.1.length = j.1) ∧ c6 s k w l = (c6 s k j.2.1 (l.drop j.1)).map (fun o=>o ++ j.2.2.1.reverse) ∧ j.2.1.length ≤ 1048576) (fun j=>[(0,S s),(1,S k),(2,S j.2.1),(10,.slice j.2.2.2.1 j.2.2.1.length j.2.2.2.2),(21,u),(22,I (l.length : Nat)),(23,I (j.1 : Nat))]) (fun _=>G) (fun j=>[.acc (.slice j.2.2.2.1 j.2.2.1.length j.2.2.2.2) lS 2 j.2.2.1.length (ak dO j.2.2.1)]) (fun j=>l.length - j.1) (0,w,[],none,0) ?_ tU rfl a7 (fun j Hj=>?_)
  ·refine ⟨⟨Nat.zero_le _,rfl⟩,?_,h.2.2⟩
   show c6 s k w l = (c6 s k w l).map (fun o=>o ++ [])
   simp
  obtain ⟨i,t,out,pa,pc⟩:=j
  dsimp only at Hj ⊢
  obtain ⟨⟨hj1,hjl⟩,hj2,hj3⟩:=Hj
  by_cases hi : i < l.length
  ·obtain ⟨ba,oa,ca,rfl,sa⟩:=hu.expl oM
   have hx:=hl _ (bc hi)
   have cx_ss1:=v6 (G:=G) (s:=s) (k:=k) (w:=t) (p:=(ab l i).1) ⟨h.1,h.2.1,hj3,hx.1⟩
   have cx_ps1:=qh (G:=G) (s:=s) (k:=k) (w:=t) (p:=(ab l i).1) (x:=(ab l i).2) ⟨h.1,h.2.1,hj3,hx.1⟩ hx.2
   unfold na at cx_ps1
   unfold yM at cx_ss1
   cases hg : cU s k t (ab l i).1 with
   | none =>
    rw [nY (fH hi) (.inl hg)] at hj2
    rw [hg] at cx_ss1
    simp only [Option.map_none,Option.getD_none,Option.isSome_none] at cx_ss1
    rw [hj2]
    repeat' (first | refine jR ?_ | (refine jo ?_;first | refine jV (ag rfl rfl oM) ?_ | refine aD rfl ?_ | (refine jV (dt rfl rfl aS ?_) ?_;focus omega) | refine jL fun _=>?_ | refine jC rfl rfl rfl ?_ | refine ae rfl rfl rfl cx_ss1 rfl ?_) | (refine ac rfl (by first | rfl | (refine decide_eq_true ?_;(omega))) ?_))
    all_goals refine Nx.addNil lS 2 ?_
    all_goals refine aW (vs:=[_,_]) rfl ⟨rfl,rfl,trivial⟩ rfl sB ⟨rfl,_,_,rfl,rfl⟩
   | some g =>
    rw [hg] at cx_ss1
    simp only [Option.map_some,Option.getD_some,Option.isSome_some] at cx_ss1
    cases hp : cF s k t (ab l i).1 (ab l i).2 with
    | none =>
     rw [nY (fH hi) (.inr hp)] at hj2
     rw [hp] at cx_ps1
     dsimp only [Option.getD,Option.isSome] at cx_ps1
     rw [hj2]
     repeat' (first | refine jR ?_ | (refine jo ?_;first | refine jV (ag rfl rfl oM) ?_ | refine aD rfl ?_ | (refine jV (dt rfl rfl aS ?_) ?_;focus omega) | refine jL fun _=>?_ | refine jC rfl rfl rfl ?_ | refine ae rfl rfl rfl cx_ss1 rfl ?_ | refine ae rfl rfl rfl cx_ps1 rfl ?_) | (refine ac rfl (by first | rfl | (refine decide_eq_true ?_;(omega))) ?_) | refine ad rfl rfl ?_)
     all_goals refine Nx.addNil lS 2 ?_
     all_goals refine aW (vs:=[_,_]) rfl ⟨rfl,rfl,trivial⟩ rfl sB ⟨rfl,_,_,rfl,rfl⟩
    | some z =>
     have hz:=(lu hp).2
     have hrow : ak dO (out ++ [((ab l i).1,g.2)]) = ak dO out ++ [S (ab l i).1,S g.2]:=bR dO out _
     rw [hp] at cx_ps1
     dsimp only [Option.getD,Option.isSome] at cx_ps1
     rw [fH hi,rQ hg hp,ox] at hj2
     repeat' (first | refine jM ?_ | (refine jo ?_;first | refine jV (ag rfl rfl oM) ?_ | refine aD rfl ?_ | (refine jV (dt rfl rfl aS ?_) ?_;focus omega) | refine jL fun _=>?_ | refine jC rfl rfl rfl ?_ | refine jV (ax rfl rfl) ?_ | refine jF fun _=>?_ | refine bD rfl rfl rfl rfl rfl rfl rfl rfl rfl oM fun _ _=>?_ | refine ae rfl rfl rfl cx_ss1 rfl ?_ | refine ae rfl rfl rfl cx_ps1 rfl ?_) | refine ac rfl (ay oM) ?_ | refine ad rfl rfl ?_)
     rename_i x1 x2 b' c'
     exact bh (i + 1,z,out ++ [((ab l i).1,g.2)],some ⟨b',0,none⟩,c') ⟨⟨by dsimp only;omega,by dsimp only;rw [List.length_append,hjl];rfl⟩,by dsimp only;rw [hj2,List.reverse_append];rfl,by dsimp only;omega⟩ (by dsimp only;omega) (by dsimp only;rw [List.length_append];repeat (first | exact trivial | refine ⟨rfl,?_⟩)) rfl (by dsimp only;rw [List.length_append,hrow];repeat (first | exact List.nil_sublist _ | apply List.Sublist.cons_cons))
  ·have ei : i = l.length:=oM
   rw [ei,List.drop_length,c6] at hj2
   rw [hj2]
   have cx_rv:=v4 (G:=G) (p:=pa) (c:=pc) (l:=out) oM
   simp only [Option.map_some,List.nil_append,Option.getD_some,List.length_reverse,Option.isSome_some]
   repeat' (first | refine jR ?_ | (refine jo ?_;(refine fB rfl rfl rfl cx_rv rfl ?_;rintro _ _ rfl;dsimp only [zA,fA])) | refine ad rfl (aG oM) ?_)
   refine aW (vs:=[_,_]) rfl ⟨rfl,rfl,trivial⟩ rfl a7 ⟨rfl,_,_,rfl,rfl⟩
section
variable {P : Program} {n : Nat} {D : List Deferred} {E : bS} {M : World → Prop} {d : Option Nat} {ty : TypeId} {pos : String} {aft : Array Edge} {gd : Option (Nat × Bool)}
end
section
variable {P : Program} {n : Nat} {D : List Deferred} {E : bS} {B : Base} {G : Gh} {L : List Own} {K : Act → World → Prop} {Q : Exit → Act → World → Prop} {ty : TypeId} {pos : String} {aft : Array Edge} {gd : Option (Nat × Bool)} {d : Nat}
end
variable {G : Gh}
theorem z5 {s k w z : adA} {l : List Ch} (h : jt s k w l = some z) (hw : w.length ≤ 1048576) : z.length ≤ 1048576:=by
 unfold jt at h
 split at h
 ·exact tA oM hw h
 ·cases h
theorem zB {s k w p : adA} : (((cU s k w p).map (·.1)).getD []).length ≤ 400 ∧ (((cU s k w p).map (·.2)).getD []).length ≤ 400:=by
 cases h : cU s k w p with
 | none=>simp
 | some y =>
  obtain ⟨k1,x1⟩:=y
  obtain ⟨ts,u,q,v1,h1,h2,h3,h4,rfl⟩:=xP h
  obtain ⟨ts',g1,g2,g3,g4,g5⟩:=cJ h2
  obtain rfl : ts = ts':=Option.some.inj (h1.symm.trans g1)
  have hw:=cY h1
  obtain ⟨b1,b2,b3,b4⟩:=lf h3
  have hq0 : ∀ n ∈ q,0 ≤ n:=fun n hn=>(b3 n hn).1
  have ho:=cQ g3
  obtain ⟨c1,c2⟩:=gI hw ho g2 hq0 h4
  obtain ⟨d1,d2,d3⟩:=eR g3
  obtain ⟨e1,e2⟩:=kB hw ho g2 hq0 h4 d3 (by rw [d1];exact d2)
  have:=(cV (dh c2)).2
  exact ⟨by simpa using (by omega : k1.length ≤ 400),by simpa using e2⟩
section
variable {P : Program} {n : Nat} {D : List Deferred} {E : bS} {M : World → Prop} {d : Option Nat} {ty : TypeId} {pos : String} {aft : Array Edge} {gd : Option (Nat × Bool)}
theorem acr {T T' : TypeId} {x y : Operand} {a b c e : adA} [hk : PK P T] (hx : ev E x = some (Ag [S a,S b])) (hy : ev E y = some (Ag [S c,S e])) (hb : (a.length ≤ 1000000 ∧ b.length ≤ 1000000) ∧ c.length ≤ 1000000 ∧ e.length ≤ 1000000) : Gives P n D E M ⟨d,.binOp .neq T x y T',ty,pos,aft,gd⟩ (Bo (!decide (a = c ∧ b = e))):=Gives.mk fun a' w hs _=>by
 have h1 : (eqGuard .neq T x y (Ag [S a,S b]) (Ag [S c,S e])).run P w = .ok () w:=by
  simp [eqGuard,hk.gd]
 have h2 : binOp .neq T (Ag [S a,S b]) (Ag [S c,S e]) = (do pure (.bool (!(← Op.equal T (Ag [S a,S b]) (Ag [S c,S e]))))):=rfl
 simp only [execOp,hs.ev hx,hs.ev hy,Sem.run_bind,h1,Result.andThen_ok,h2,hk.eq' w a b c e hb.1 hb.2,Sem.run_pure]
end
abbrev ChB (a : List Ch) : Prop:=∀ x ∈ a,x.1.length ≤ 1000000 ∧ x.2.length ≤ 1000000
theorem lL.big {l : List Ch} (h : ∀ x ∈ l,lL x) : ChB l:=fun x hx=>by have:=h x hx;exact ⟨oM,oM⟩
abbrev aaL : TypeId:=48
instance : PK adz aaL:=PK.mk' (N:=adz.types.size - 1) (st:=9) (fs:=cx adz aaL) kR kR kR kR kR kR kR kR kR kR kR kR
theorem ui {u v : Value} {a b : List Ch} (hu : aU G u 2 a.length (ak dO a)) (hv : aU G v 2 b.length (ak dO b)) (hn : a.length ≤ 1048576) (hca : ChB a) (hcb : ChB b) :
  a9 adz 23 [u,v] G (· = Bo (decide (a = b))):=by
 refine jE [(0,_),(1,_)] Tryz.func23 Tryz.ntmps23 fun B hB=>?_
 repeat' (first | refine jR ?_ | (refine jo ?_;refine jV (eM rfl aS) ?_) | refine eD rfl (fun _=>?_) (fun _=>?_))
 ·refine jY (vs:=[_]) ?_
  rw [aP]
  exact congrArg Bo (decide_eq_false (fun h=>by subst h;simp_all)).symm
 ·have hl : a.length = b.length:=by simp_all;omega
  refine aT (ι:=Nat) (fun i=>i ≤ a.length ∧ a.take i = b.take i) (fun i=>[(0,u),(1,v),(5,I i)]) (fun _=>G) (fun i=>[]) (fun i=>a.length - i) 0 ?_ tU rfl a7 (fun i Hi=>?_)
  ·exact ⟨oM,rfl⟩
  by_cases hi : i < a.length
  ·obtain ⟨ba,oa,ca,rfl,sa⟩:=hu.expl oM
   obtain ⟨bb,ob,cb,rfl,sb⟩:=hv.expl oM
   have hcc : ((ab a i).1.length ≤ 1000000 ∧ (ab a i).2.length ≤ 1000000) ∧ (ab b i).1.length ≤ 1000000 ∧ (ab b i).2.length ≤ 1000000:=⟨hca _ (bc hi),hcb _ (bc oM)⟩
   repeat' (first | refine jM ?_ | (refine jo ?_;refine jV (af rfl) ?_) | refine ac rfl (ay oM) ?_ | refine qC rfl (fun _=>?_) (fun _=>?_) | (refine am (ao (id:=6) _ (fun _ h=>h) al ?_);refine jT 5 [0,1,4,5] (aa 9 51) ?_;(refine jG (aa 9 55) 2 rfl (ag rfl rfl oM) ?_);((refine jG (aa 9 63) 3 rfl (dt rfl rfl aS ?_) ?_;focus omega));(refine jG (aa 9 127) 6 rfl (ag rfl rfl oM) ?_);((refine jG (aa 9 255) 7 rfl (dt rfl rfl aS ?_) ?_;focus omega));(refine jG (aa 9 511) 8 rfl (acr rfl rfl ‹_›) ?_);refine jQ ?_))
   ·rename_i hne
    refine jY (vs:=[_]) ?_
    rw [aP]
    refine congrArg Bo (decide_eq_false fun h=>?_).symm
    subst h
    simp at hne
   ·rename_i hne
    have he : ab a i = ab b i:=by
     simp [dO] at hne
     exact Prod.ext hne.1 hne.2
    refine bh (i + 1) ?_ ?_ tU rfl a7
    ·refine ⟨oM,?_⟩
     rw [co hi,co oM,Hi.2,he]
    ·omega
  ·repeat' (first | refine jR ?_ | (refine jo ?_;refine jV (eM rfl aS) ?_) | refine ad rfl (aG oM) ?_)
   refine jY (vs:=[_]) ?_
   have ei : i = a.length:=oM
   rw [aP]
   refine congrArg Bo (decide_eq_true ?_).symm
   have:=Hi.2
   rw [ei,List.take_length,hl,List.take_length] at this
   exact this
theorem qV {s k : adA} : ∀ {l : List Ch} {w : adA} {o : List Ch},c6 s k w l = some o → (∀ x ∈ l,lL x) → ∀ x ∈ o,lL x
 | [],w,o,h,_=>by rw [c6] at h;cases h;exact fun x hx=>by cases hx
 | c :: r,w,o,h,hl=>by
  rw [c6] at h
  cases hg : cU s k w c.1 with
  | none=>rw [hg] at h;cases h
  | some g =>
   cases hp : cF s k w c.1 c.2 with
   | none=>rw [hg,hp] at h;cases h
   | some t =>
    cases hb : c6 s k t r with
    | none=>rw [hg,hp] at h;dsimp only at h;rw [hb] at h;cases h
    | some o1 =>
     rw [hg,hp] at h
     dsimp only at h
     rw [hb] at h
     cases h
     have ih:=qV hb fun x hx=>hl x (by simp [hx])
     have h1:=hl c (by simp)
     have h2:=(zB (s:=s) (k:=k) (w:=w) (p:=c.1)).2
     rw [hg] at h2
     simp only [Option.map_some,Option.getD_some] at h2
     intro x hx
     rcases List.mem_append.1 hx with hx | hx
     ·exact ih x hx
     ·rw [List.mem_singleton.1 hx]
      exact ⟨h1.1,by dsimp only;omega⟩
theorem xp {s k w : adA} {l : List Ch} (hn : l.length ≤ 1048576) : ((dB s k w l).getD []).length ≤ 1048576:=by
 unfold dB
 split
 ·cases h : c6 s k w l with
  | none=>simp
  | some o =>
   obtain ⟨z,_,_,h3⟩:=pk h
   simp only [Option.getD_some]
   omega
 ·simp
theorem qi {v : Value} {l : adA} (hs : aU G v 1 l.length (cr l)) : a9 adz 8 [v] G (· = Bo true):=by
 obtain ⟨a,cap,rfl⟩:=hs.sl
 refine jB (Post:=fun v G' L'=>G' = G ∧ L' = [] ∧ _) [(0,_)] Tryz.func8 Tryz.ntmps8 fun B hok hB hW=>?_
 repeat' (first | refine jR ?_ | (refine jo ?_;first | refine jV (af rfl) ?_ | (refine an rfl rfl rfl (nZ (by (repeat (assumption));done)) rfl ?_;rintro _ G hle ⟨s1,k1,x1,pl,pc,ls,rfl,hls,hsz,hln,hlm⟩;skip)) | refine eD rfl (fun _=>?_) (fun _=>?_))
 ·refine Nx.base hok hB ?_
  refine jY (vs:=[_]) ?_
  rfl
 have hlc:=lL.all hlm
 have hrl:=xp (s:=s1) (k:=k1) (w:=x1) (l:=ls) oM
 refine jo ?_
 refine fx rfl rfl rfl (qU (G:=G) hsz (hls trivial) oM hlc) rfl ?_
 rintro _ _ ⟨pg,cg,rfl,rfl⟩
 dsimp only [zA,fA]
 refine Nx.sealS (v:=.slice pg ((dB s1 k1 x1 ls).getD []).length cg) fun G2 hG2 hx0=>?_
 have hls:=fun (_ : True)=>(hls trivial).mono hG2
 repeat' (refine jR ?_)
 refine jo ?_
 refine an rfl rfl rfl (qT (G:=G2) hsz (hls trivial) oM hlc) rfl ?_
 rintro _ G3 hle3 ⟨pb,cb,rfl,hw0⟩
 have hls:=fun (_ : True)=>(hls trivial).mono hle3
 have hx0:=hx0.mono hle3
 have hbm : ∀ x ∈ (dB s1 k1 x1 ls).getD [],lL x:=by
  unfold dB
  split
  ·cases hb : c6 s1 k1 x1 ls with
   | none=>exact fun x hx=>by cases hx
   | some o=>exact qV hb hlm
  ·exact fun x hx=>by cases hx
 have cx_wf:=ui hx0 hw0 hrl (lL.big hbm) (lL.big hbm)
 rw [decide_eq_true rfl] at cx_wf
 have cx_d1:=nI (G:=G3) hsz (hls trivial) oM hlc
 have hlc':=fun (_ : True)=>hlc
 clear hlc
 cases h : dB s1 k1 x1 ls with
 | none =>
  rw [h] at cx_wf hx0 hw0 hrl
  simp only [Option.getD_none,Option.isSome_none] at cx_wf hx0 hw0 hrl
  rw [show (Option.none : Option (List Ch)).getD [] = [] from rfl,show (Option.none : Option (List Ch)).isSome = false from rfl]
  clear hx0 hw0
  repeat' (first | refine jR ?_ | (refine jo ?_;first | refine aM rfl ?_ | refine aC rfl ?_ | refine ae rfl rfl rfl cx_wf rfl ?_) | refine aF rfl rfl rfl ?_ | refine ar rfl rfl rfl ?_ | refine ac rfl rfl ?_)
  all_goals refine Nx.base hok hB ?_
  all_goals refine jY (vs:=[_]) ?_
  all_goals rfl
 | some o =>
  have h':=h
  unfold dB at h'
  split at h'
  ·rename_i ho
   obtain ⟨z,z1,z2,z3⟩:=yh ho h'
   have hzl:=z5 z1 hsz.2.2
   rw [h] at cx_wf hx0 hw0 hrl
   simp only [Option.getD_some] at cx_wf hx0 hw0 hrl
   rw [show (Option.some o).getD [] = o from rfl,show (Option.some o).isSome = true from rfl]
   have cx_d3:=nI (G:=G3) ⟨hsz.1,hsz.2.1,hzl⟩ hx0 hrl (lL.all (qV h' hlm))
   rw [z1] at cx_d1
   rw [z2] at cx_d3
   unfold na at cx_d1 cx_d3
   simp only [Option.getD_some,Option.isSome_some] at cx_d1 cx_d3
   have hx0':=fun (_ : True)=>hx0
   clear hx0 hw0
   repeat' (first | refine jR ?_ | (refine jo ?_;first | refine jV (af rfl) ?_ | refine aM rfl ?_ | refine aC rfl ?_ | refine ae rfl rfl rfl cx_wf rfl ?_ | refine ae rfl rfl rfl cx_d1 rfl ?_ | refine ae rfl rfl rfl cx_d3 rfl ?_) | (refine aF rfl rfl (by first | rfl | (refine decide_eq_true ?_;(rfl))) ?_) | refine ar rfl rfl rfl ?_ | refine ad rfl rfl ?_)
   all_goals refine Nx.base hok hB ?_
   all_goals refine jY (vs:=[_]) ?_
   all_goals ((exact congrArg Value.bool (decide_eq_true oM)))
  ·cases h'
end Go.E
