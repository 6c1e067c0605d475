/- Contracts and plain laws that the statement rests on, part 7. Conditions: as each says. -/
import Derived.Test.YtglhncibfmhblaaGreatDoorQ6
set_option linter.unusedVariables false
set_option linter.unusedSimpArgs false
namespace Go.E
set_option maxRecDepth 20000
set_option maxHeartbeats 2000000
open Go.Proofs
section
variable {P : Program} {n : Nat} {D : List Deferred} {E : bN} {B : Base} {G : Gh} {L : List Own} {K : Act → World → Prop} {Q : Exit → Act → World → Prop} {ty : TypeId} {pos : String} {aft : Array Edge}
theorem xg {fo : Operand} {l : List Operand} {ag : Array TypeId} {d : Nat} {g : Option (Nat × Bool)} {f : FuncId} {fi ca az vs : List Value} {xs : List Value} {el : TypeId} {u : Value} {sz m : Nat} {R : List Own} {Post : Value → Gh → List Own → Prop}
  [ha2 : AccI L u el sz m xs R] (hf : ev E fo = some (.func (.func f) fi.toArray ca.toArray)) (ha : evs E l = some az) (hv : fi ++ az ++ ca = vs) (hc : ff P f vs G [.acc u el sz m xs] Post) (hlt : Nat.blt d n = true)
  (k : ∀ v G' L',Gh.le G G' → Post v G' L' → Nx n D ((d,v) :: E) B G' (L' ++ R) K) : Nx n D E B G L (ow P ⟨some d,.call ⟨.value fo,l.toArray,ag⟩,ty,pos,aft,g⟩ Q K) :=
 iC (Lp:=[.acc u el sz m xs]) hf ha hv hc ha2.del.perm hlt fun v G' L' h=>k v G' L' h.1 h.2
end
variable {G : Gh}
def ip (v : V) : List Int:=if v.what = 82 then v.kids.map V.tag else if v.what = 85 ∨ v.what = 69 then [v.tag] else []
theorem lK {ts : List Ty} {v : V} {k : adB} {b : Nat} (h : RepR G ts v k b) : ∃ tx a1 c1 a2 c2,bT G b 0 [S k,S tx,.slice a1 (ip v).length c1,.slice a2 v.kids.length c2] ∧ aT G (.slice a1 (ip v).length c1) 1 (ip v).length (ah cI (ip v)) ∧
  (((∃ r,k = 64 :: r) ∧ ((v.what = 82 ∧ tx = [82]) ∨ (v.what = 85 ∧ tx = [85]) ∨ (v.what = 69 ∧ tx = [69]))) ∨ ((∃ r,k = 91 :: r) ∧ v.what = 91) ∨ ((∃ r,k = 63 :: r) ∧ v.what = 63) ∨ ((k = [110] ∨ k = [116] ∨ k = [102]) ∧ (v.what = 110 ∨ v.what = 116 ∨ v.what = 102))):=by
 have h0 : ∀ G,aT G aK 1 0 (ah cI []):=fun G=>⟨rfl,.inl ⟨rfl,rfl⟩⟩
 cases h with
 | leaf w x k tx b h1 h2 =>
  rcases h2 with ⟨rfl,rfl,_⟩ | ⟨rfl,rfl,_⟩ | ⟨rfl,rfl,_⟩
  ·exact ⟨tx,none,0,none,0,h1,h0 G,.inr (.inr (.inr ⟨.inl F,.inl F⟩))⟩
  ·exact ⟨tx,none,0,none,0,h1,h0 G,.inr (.inr (.inr ⟨.inr (.inl F),.inr (.inl F)⟩))⟩
  ·exact ⟨tx,none,0,none,0,h1,h0 G,.inr (.inr (.inr ⟨.inr (.inr F),.inr (.inr F)⟩))⟩
 | lst k b ks bs a c h1 h2 h3 hk=>exact ⟨_,none,0,a,c,h1,h0 G,.inr (.inl ⟨⟨_,F⟩,F⟩)⟩
 | non k b h1=>exact ⟨_,none,0,none,0,h1,h0 G,.inr (.inr (.inl ⟨⟨_,F⟩,F⟩))⟩
 | opt k b kb b' cc w h0' h1 h2 h3=>exact ⟨_,none,0,_,_,h1,h0 G,.inr (.inr (.inl ⟨⟨_,F⟩,F⟩))⟩
 | recd k b t fs bs a a2 c c2 h0 h1 h2 h3 h4 h5 hk =>
  have e : ip (.nd 82 [] 0 (fs.map fun p=>.nd 61 [] p.1.tag [p.2])) = fs.map fun p=>p.1.tag:=by
   unfold ip
   rw [V.what,if_pos rfl,V.kids,List.map_map]
   rfl
  rw [e,V.kids]
  refine ⟨[82],a,c,a2,c2,by rw [List.length_map,List.length_map];exact h1,by rw [List.length_map];exact h2,.inl ⟨dW h0.1,.inl ⟨F,F⟩⟩⟩
 | enm k b tgb t d h0 h1 h2 h3=>exact ⟨[69],_,_,none,0,h2,⟨F,.inr ⟨tgb,0,_,F,Nat.le_add_left _ _,h3⟩⟩,.inl ⟨dW h0.1,.inr (.inr ⟨F,F⟩)⟩⟩
 | uni k b tgb kb b' cc t d w hcc h0 h1 h2 h3 h4 hk=>exact ⟨[85],_,_,_,_,h2,⟨F,.inr ⟨tgb,0,_,F,Nat.le_add_left _ _,h3⟩⟩,.inl ⟨dW h0.1,.inr (.inl ⟨F,F⟩)⟩⟩
theorem o6 {ts : List Ty} {k : adB} {a b : V} (ha : OfK ts k a) (hb : OfK ts k b) : a.what = b.what:=by
 cases hr : a8 ts k with
 | some t =>
  rcases bH ha hr with ⟨a1,fs,rfl,_⟩ | ⟨a1,d,rfl,_⟩ | ⟨a1,a2,d,w,rfl,_⟩ <;> rcases bH hb hr with ⟨b1,gs,rfl,_⟩ | ⟨b1,e,rfl,_⟩ | ⟨b1,b2,e,x,rfl,_⟩ <;> (first | rfl | omega)
 | none =>
  cases ha with
  | recd _ t' fs g1=>rw [hr] at g1;cases g1
  | enm _ t' d g1=>rw [hr] at g1;cases g1
  | uni _ t' d v g1=>rw [hr] at g1;cases g1
  | num =>
   cases hb with
   | num=>rfl
   | recd _ t' fs g1=>rw [hr] at g1;cases g1
   | enm _ t' d g1=>rw [hr] at g1;cases g1
   | uni _ t' d v g1=>rw [hr] at g1;cases g1
  | txt =>
   cases hb with
   | txt=>rfl
   | recd _ t' fs g1=>rw [hr] at g1;cases g1
   | enm _ t' d g1=>rw [hr] at g1;cases g1
   | uni _ t' d v g1=>rw [hr] at g1;cases g1
  | flg =>
   cases hb with
   | flg=>rfl
   | recd _ t' fs g1=>rw [hr] at g1;cases g1
   | enm _ t' d g1=>rw [hr] at g1;cases g1
   | uni _ t' d v g1=>rw [hr] at g1;cases g1
  | lst =>
   cases hb with
   | lst=>rfl
   | recd _ t' fs g1=>rw [hr] at g1;cases g1
   | enm _ t' d g1=>rw [hr] at g1;cases g1
   | uni _ t' d v g1=>rw [hr] at g1;cases g1
  | non =>
   cases hb with
   | non=>rfl
   | opt=>rfl
   | recd _ t' fs g1=>rw [hr] at g1;cases g1
   | enm _ t' d g1=>rw [hr] at g1;cases g1
   | uni _ t' d v g1=>rw [hr] at g1;cases g1
  | opt =>
   cases hb with
   | non=>rfl
   | opt=>rfl
   | recd _ t' fs g1=>rw [hr] at g1;cases g1
   | enm _ t' d g1=>rw [hr] at g1;cases g1
   | uni _ t' d v g1=>rw [hr] at g1;cases g1
theorem w9 {q : List Int} {n : Int} (hn : 0 ≤ n ∧ n ≤ 999999) (hl : (cy q).length ≤ 100000) : aZ adA 55 [S (cy q),I n] G (· = S (cy (q ++ [n]))):=by
 have hdl:=kw hn.2
 by_cases hq : q = []
 ·subst hq
  have hp : cy [] = []:=rfl
  refine jE [(0,_),(1,_)] Tryz.func55 Tryz.ntmps55 fun B hB=>?_
  repeat' (first | refine jR ?_ | (refine jo ?_;refine ae F F F (fQ oM) F ?_) | refine ac F F ?_)
  all_goals refine jY (vs:=[_]) ?_
  all_goals (rw [aR];rfl)
 ·have hp : cy q ≠ []:=fun h=>hq (xJ.1 h)
  refine jE [(0,_),(1,_)] Tryz.func55 Tryz.ntmps55 fun B hB=>?_
  repeat' (first | refine jX ?_ | (refine jo ?_;refine ae F F F (fQ oM) F ?_) | refine ad F (aF ‹_›) ?_)
  all_goals refine jY (vs:=[_]) ?_
  all_goals (rw [aR,← wv hq])
theorem rP {ts : List Ty} {k : adB} {a b : V} {ba bb : Nat} (ha : RepR G ts a k ba) (hb : RepR G ts b k bb) (oa : OfK ts k a) (ob : OfK ts k b) : aZ adA 52 [Pt ba 0,Pt bb 0] G (· = Bo (bY a b)):=by
 have hwh:=o6 oa ob
 obtain ⟨tx,a1,c1,a2,c2,hsa,hta,hca⟩:=lK ha
 obtain ⟨ty,b1,d1,b2,d2,hsb,htb,hcb⟩:=lK hb
 rcases hca with ⟨⟨r,rfl⟩,h⟩ | ⟨⟨r,rfl⟩,h⟩ | ⟨⟨r,rfl⟩,h⟩ | ⟨hk,h⟩
 ·have hk0 : bt (64 :: r) (Int.toNat 0) = 64:=bD 64 r
  have hkl : (64 :: r).length = r.length + 1:=rfl
  rcases h with ⟨h,rfl⟩ | ⟨h,rfl⟩ | ⟨h,rfl⟩
  ·have e : bY a b = true:=by unfold bY;rw [if_pos h]
   rw [e]
   refine jE [(0,_),(1,_)] Tryz.func52 Tryz.ntmps52 fun B hB=>?_
   repeat' (first | refine jM ?_ | (refine jo ?_;first | refine jV (aj F F aS F F) ?_ | refine aP F ?_) | refine aG F F F ?_ | refine ac F F ?_)
   all_goals refine jY (vs:=[_]) ?_
   all_goals rfl
  ·have e : bY a b = decide (a.tag = b.tag):=by unfold bY;rw [if_neg oM,if_pos h]
   have ea : ip a = [a.tag]:=by unfold ip;rw [if_neg oM,if_pos oM]
   have eb : ip b = [b.tag]:=by unfold ip;rw [if_neg oM,if_pos oM]
   rw [ea] at hta hsa
   rw [eb] at htb hsb
   obtain ⟨xb,xo,xc,e1,hxa⟩:=hta.expl (by simp)
   simp only [Value.slice.injEq] at e1
   obtain ⟨rfl,-,rfl⟩:=e1
   obtain ⟨yb,yo,yc,e1,hxb⟩:=htb.expl (by simp)
   simp only [Value.slice.injEq] at e1
   obtain ⟨rfl,-,rfl⟩:=e1
   have hla : ([a.tag]).length = 1:=rfl
   have hlb : ([b.tag]).length = 1:=rfl
   rw [hla] at hsa
   rw [hlb] at hsb
   have hxa : bT G xb xo [I a.tag]:=hxa
   have hxb : bT G yb yo [I b.tag]:=hxb
   rw [e]
   refine jE [(0,_),(1,_)] Tryz.func52 Tryz.ntmps52 fun B hB=>?_
   repeat' (first | refine jM ?_ | (refine jo ?_;first | refine jV (aj F F aS F F) ?_ | refine aP F ?_) | refine aG F F F ?_ | refine ac F F ?_ | refine ad F F ?_ | (refine an (ao (id:=4) _ (fun _ h=>h) am ?_);refine jT 8 [0,1,2,6,7,8] (aa 14 455) ?_;(refine jG (aa 14 463) 3 F (aj F F aS F F) ?_);(refine jG (aa 14 479) 4 F (aQ F F oM) ?_);(refine jG (aa 14 511) 5 F (aj F F aS F F) ?_);(refine jG (aa 14 1023) 9 F (aj F F aS F F) ?_);(refine jG (aa 14 2047) 10 F (aQ F F oM) ?_);(refine jG (aa 14 4095) 11 F (aj F F aS F F) ?_);refine jT 0 [12,13] (aa 14 16383) ?_;refine jQ ?_))
   all_goals refine jY (vs:=[_]) ?_
   all_goals rfl
  ·have e : bY a b = false:=by unfold bY;rw [if_neg oM,if_neg oM,if_neg oM]
   rw [e]
   refine jE [(0,_),(1,_)] Tryz.func52 Tryz.ntmps52 fun B hB=>?_
   repeat' (first | refine jM ?_ | (refine jo ?_;first | refine jV (aj F F aS F F) ?_ | refine aP F ?_ | refine aE F ?_) | refine aG F F F ?_ | refine aw F F F ?_ | refine ad F F ?_)
   all_goals refine jY (vs:=[_]) ?_
   all_goals rfl
 ·have hk0 : bt (91 :: r) (Int.toNat 0) = 91:=bD 91 r
  have hkl : (91 :: r).length = r.length + 1:=rfl
  have e : bY a b = decide (a.kids.length = b.kids.length ∧ 0 < a.kids.length):=by unfold bY;rw [if_neg oM,if_neg oM,if_pos oM]
  rw [e]
  clear e
  by_cases hl : a.kids.length = b.kids.length
  ·by_cases h0 : 0 < a.kids.length
   ·rw [decide_eq_true ⟨hl,h0⟩]
    refine jE [(0,_),(1,_)] Tryz.func52 Tryz.ntmps52 fun B hB=>?_
    repeat' (first | refine jM ?_ | (refine jo ?_;first | refine jV (aj F F aS F F) ?_ | refine aP F ?_ | refine aE F ?_) | refine aG F F F ?_ | refine aw F F F ?_ | refine ac F F ?_ | refine ad F F ?_ | (refine an (ao (id:=6) _ (fun _ h=>h) am ?_);refine jT 14 [0,1,2,5,6,7] (aa 20 231) ?_;(refine jG (aa 20 239) 3 F (aj F F aS F F) ?_);(refine jG (aa 20 255) 4 F (af F) ?_);(refine jG (aa 20 511) 8 F (aj F F aS F F) ?_);(refine jG (aa 20 1023) 9 F (af F) ?_);refine jT 8 [10,11] (aa 20 4095) ?_;(try ((refine Nx.re (d:=72) (v':=Bo true) F (congrArg Value.bool (ax oM)) ?_)));refine jT 5 [12,13,14] (aa 20 32767) ?_;(refine jG (aa 20 65535) 15 F (aj F F aS F F) ?_);(refine jG (aa 20 131071) 16 F (af F) ?_);refine jT 2 [17] (aa 20 262143) ?_;(refine jG (aa 20 524287) 18 F (bO F F F) ?_);refine jT 0 [19] (aa 20 1048575) ?_;refine jQ ?_))
    all_goals refine jY (vs:=[_]) ?_
    all_goals (rw [aR];simp_all;done)
   ·rw [decide_eq_false (fun h=>h0 h.2)]
    refine jE [(0,_),(1,_)] Tryz.func52 Tryz.ntmps52 fun B hB=>?_
    repeat' (first | refine jM ?_ | (refine jo ?_;first | refine jV (aj F F aS F F) ?_ | refine aP F ?_ | refine aE F ?_) | refine aG F F F ?_ | refine aw F F F ?_ | refine ac F F ?_ | refine ad F F ?_ | (refine an (ao (id:=6) _ (fun _ h=>h) am ?_);refine jT 14 [0,1,2,5,6,7] (aa 20 231) ?_;(refine jG (aa 20 239) 3 F (aj F F aS F F) ?_);(refine jG (aa 20 255) 4 F (af F) ?_);(refine jG (aa 20 511) 8 F (aj F F aS F F) ?_);(refine jG (aa 20 1023) 9 F (af F) ?_);refine jT 8 [10,11] (aa 20 4095) ?_;(try ((refine Nx.re (d:=72) (v':=Bo true) F (congrArg Value.bool (ax oM)) ?_)));refine jT 5 [12,13,14] (aa 20 32767) ?_;(refine jG (aa 20 65535) 15 F (aj F F aS F F) ?_);(refine jG (aa 20 131071) 16 F (af F) ?_);refine jT 2 [17] (aa 20 262143) ?_;(refine jG (aa 20 524287) 18 F (bO F F F) ?_);refine jT 0 [19] (aa 20 1048575) ?_;refine jQ ?_))
    all_goals refine jY (vs:=[_]) ?_
    all_goals (rw [aR];simp_all;done)
  ·rw [decide_eq_false (fun h=>hl h.1)]
   refine jE [(0,_),(1,_)] Tryz.func52 Tryz.ntmps52 fun B hB=>?_
   repeat' (first | refine jM ?_ | (refine jo ?_;first | refine jV (aj F F aS F F) ?_ | refine aP F ?_ | refine aE F ?_) | refine aG F F F ?_ | refine aw F F F ?_ | refine ac F F ?_ | refine ad F F ?_ | (refine an (ao (id:=6) _ (fun _ h=>h) am ?_);refine jT 14 [0,1,2,5,6,7] (aa 20 231) ?_;(refine jG (aa 20 239) 3 F (aj F F aS F F) ?_);(refine jG (aa 20 255) 4 F (af F) ?_);(refine jG (aa 20 511) 8 F (aj F F aS F F) ?_);(refine jG (aa 20 1023) 9 F (af F) ?_);refine jT 8 [10,11] (aa 20 4095) ?_;(try ((refine Nx.re (d:=72) (v':=Bo false) F (congrArg Value.bool (aF oM)) ?_)));refine jT 5 [12,13,14] (aa 20 32767) ?_;(refine jN (aa 20 65535) 15 F ?_);(refine jN (aa 20 131071) 16 F ?_);refine jT 2 [17] (aa 20 262143) ?_;(refine jG (aa 20 524287) 18 F (bn F F F) ?_);refine jT 0 [19] (aa 20 1048575) ?_;refine jQ ?_))
   all_goals refine jY (vs:=[_]) ?_
   all_goals (rfl)
 ·have hk0 : bt (63 :: r) (Int.toNat 0) = 63:=bD 63 r
  have hkl : (63 :: r).length = r.length + 1:=rfl
  have e : bY a b = decide (a.kids.length = b.kids.length ∧ 0 < a.kids.length):=by unfold bY;rw [if_neg oM,if_neg oM,if_pos oM]
  rw [e]
  clear e
  by_cases hl : a.kids.length = b.kids.length
  ·by_cases h0 : 0 < a.kids.length
   ·rw [decide_eq_true ⟨hl,h0⟩]
    refine jE [(0,_),(1,_)] Tryz.func52 Tryz.ntmps52 fun B hB=>?_
    repeat' (first | refine jM ?_ | (refine jo ?_;first | refine jV (aj F F aS F F) ?_ | refine aE F ?_) | refine aw F F F ?_ | refine ac F F ?_ | refine ad F F ?_ | (refine an (ao (id:=6) _ (fun _ h=>h) am ?_);refine jT 14 [0,1,2,5,6,7] (aa 20 231) ?_;(refine jG (aa 20 239) 3 F (aj F F aS F F) ?_);(refine jG (aa 20 255) 4 F (af F) ?_);(refine jG (aa 20 511) 8 F (aj F F aS F F) ?_);(refine jG (aa 20 1023) 9 F (af F) ?_);refine jT 8 [10,11] (aa 20 4095) ?_;(try ((refine Nx.re (d:=72) (v':=Bo true) F (congrArg Value.bool (ax oM)) ?_)));refine jT 5 [12,13,14] (aa 20 32767) ?_;(refine jG (aa 20 65535) 15 F (aj F F aS F F) ?_);(refine jG (aa 20 131071) 16 F (af F) ?_);refine jT 2 [17] (aa 20 262143) ?_;(refine jG (aa 20 524287) 18 F (bO F F F) ?_);refine jT 0 [19] (aa 20 1048575) ?_;refine jQ ?_))
    all_goals refine jY (vs:=[_]) ?_
    all_goals (rw [aR];simp_all;done)
   ·rw [decide_eq_false (fun h=>h0 h.2)]
    refine jE [(0,_),(1,_)] Tryz.func52 Tryz.ntmps52 fun B hB=>?_
    repeat' (first | refine jM ?_ | (refine jo ?_;first | refine jV (aj F F aS F F) ?_ | refine aE F ?_) | refine aw F F F ?_ | refine ac F F ?_ | refine ad F F ?_ | (refine an (ao (id:=6) _ (fun _ h=>h) am ?_);refine jT 14 [0,1,2,5,6,7] (aa 20 231) ?_;(refine jG (aa 20 239) 3 F (aj F F aS F F) ?_);(refine jG (aa 20 255) 4 F (af F) ?_);(refine jG (aa 20 511) 8 F (aj F F aS F F) ?_);(refine jG (aa 20 1023) 9 F (af F) ?_);refine jT 8 [10,11] (aa 20 4095) ?_;(try ((refine Nx.re (d:=72) (v':=Bo true) F (congrArg Value.bool (ax oM)) ?_)));refine jT 5 [12,13,14] (aa 20 32767) ?_;(refine jG (aa 20 65535) 15 F (aj F F aS F F) ?_);(refine jG (aa 20 131071) 16 F (af F) ?_);refine jT 2 [17] (aa 20 262143) ?_;(refine jG (aa 20 524287) 18 F (bO F F F) ?_);refine jT 0 [19] (aa 20 1048575) ?_;refine jQ ?_))
    all_goals refine jY (vs:=[_]) ?_
    all_goals (rw [aR];simp_all;done)
  ·rw [decide_eq_false (fun h=>hl h.1)]
   refine jE [(0,_),(1,_)] Tryz.func52 Tryz.ntmps52 fun B hB=>?_
   repeat' (first | refine jM ?_ | (refine jo ?_;first | refine jV (aj F F aS F F) ?_ | refine aE F ?_) | refine aw F F F ?_ | refine ac F F ?_ | refine ad F F ?_ | (refine an (ao (id:=6) _ (fun _ h=>h) am ?_);refine jT 14 [0,1,2,5,6,7] (aa 20 231) ?_;(refine jG (aa 20 239) 3 F (aj F F aS F F) ?_);(refine jG (aa 20 255) 4 F (af F) ?_);(refine jG (aa 20 511) 8 F (aj F F aS F F) ?_);(refine jG (aa 20 1023) 9 F (af F) ?_);refine jT 8 [10,11] (aa 20 4095) ?_;(try ((refine Nx.re (d:=72) (v':=Bo false) F (congrArg Value.bool (aF oM)) ?_)));refine jT 5 [12,13,14] (aa 20 32767) ?_;(refine jN (aa 20 65535) 15 F ?_);(refine jN (aa 20 131071) 16 F ?_);refine jT 2 [17] (aa 20 262143) ?_;(refine jG (aa 20 524287) 18 F (bn F F F) ?_);refine jT 0 [19] (aa 20 1048575) ?_;refine jQ ?_))
   all_goals refine jY (vs:=[_]) ?_
   all_goals (rfl)
 ·have e : bY a b = false:=by unfold bY;rw [if_neg oM,if_neg oM,if_neg oM]
  rw [e]
  rcases hk with rfl | rfl | rfl
  all_goals
   refine jE [(0,_),(1,_)] Tryz.func52 Tryz.ntmps52 fun B hB=>?_
   repeat' (first | refine jX ?_ | (refine jo ?_;first | refine jV (aj F F aS F F) ?_ | refine aE F ?_) | refine aw F F F ?_ | refine ad F F ?_)
   all_goals refine jY (vs:=[_]) ?_
   all_goals rfl
variable {G : Gh}
def gN (p : Int → Bool) (m : Nat) : List Int:=((List.range m).map fun i : Nat=>(i : Int) + 1).filter p
theorem r8 (p : Int → Bool) (m : Nat) : gN p (m + 1) = gN p m ++ if p ((m : Int) + 1) = true then [(m : Int) + 1] else []:=by
 unfold gN
 rw [List.range_succ,List.map_append,List.filter_append]
 congr 1
 simp only [List.map_cons,List.map_nil]
 by_cases h : p ((m : Int) + 1) = true
 ·rw [if_pos h,List.filter_cons_of_pos h,List.filter_nil]
 ·rw [if_neg h,List.filter_cons_of_neg h,List.filter_nil]
theorem ze (p : Int → Bool) (m : Nat) : (gN p m).length ≤ m:=by
 unfold gN
 refine Nat.le_trans (List.length_filter_le _ _) ?_
 simp
def my (m : Nat) : List Int:=(List.range m).map fun i : Nat=>(i : Int)
theorem xr (m : Nat) : my (m + 1) = my m ++ [(m : Int)]:=by unfold my;rw [List.range_succ,List.map_append];rfl
theorem qm (m : Nat) : (my m).length = m:=by unfold my;simp
theorem zz {a b : List Int} {n : Int} : (a ++ b).contains n = true ↔ (∃ i,i < a.length ∧ ab a i = n) ∨ ∃ i,i < b.length ∧ ab b i = n:=by
 rw [List.contains_iff_mem,List.mem_append]
 constructor
 ·rintro (h | h)
  ·obtain ⟨i,hi,e⟩:=List.mem_iff_getElem.1 h
   exact .inl ⟨i,hi,by rw [aI hi];exact e⟩
  ·obtain ⟨i,hi,e⟩:=List.mem_iff_getElem.1 h
   exact .inr ⟨i,hi,by rw [aI hi];exact e⟩
 ·rintro (⟨i,hi,e⟩ | ⟨i,hi,e⟩)
  ·exact .inl (by rw [← e];exact bB hi)
  ·exact .inr (by rw [← e];exact bB hi)
abbrev si : TypeId:=3
theorem vY {ts : List Ty} {k : adB} {a b : V} {ba bb : Nat} (ha : RepR G ts a k ba) (hb : RepR G ts b k bb) (oa : OfK ts k a) (ob : OfK ts k b) (ht : a.tot ≤ 100000 ∧ b.tot ≤ 100000) (hd : bY a b = true) :
  bG adA 53 [Pt ba 0,Pt bb 0] G (fun v G'=>∃ p c,v = .slice p (aU a b).length c ∧ aT G' (.slice p (aU a b).length c) 1 (aU a b).length (ah cI (aU a b))):=by
 have hwh:=o6 oa ob
 obtain ⟨tx,a1,c1,a2,c2,hsa,hta,hca⟩:=lK ha
 obtain ⟨ty,b1,d1,b2,d2,hsb,htb,hcb⟩:=lK hb
 have kid : (a.what = 91 ∨ a.what = 63) → ∀ c r,k = c :: r → c.toNat ≠ 64 → bG adA 53 [Pt ba 0,Pt bb 0] G (fun v G'=>∃ p c,v = .slice p (aU a b).length c ∧ aT G' (.slice p (aU a b).length c) 1 (aU a b).length (ah cI (aU a b))):=fun hw c r hk hc=>by
  subst hk
  have hk0 : bt (c :: r) (Int.toNat 0) = c.toNat:=bD c r
  have hkl : (c :: r).length = r.length + 1:=rfl
  have hlk : 20 * a.kids.length ≤ a.tot:=by
   obtain ⟨w1,x,t,ks⟩:=a
   rw [bI,V.kids]
   have:=dk ks
   omega
  have e : aU a b = my a.kids.length:=by unfold aU;rw [if_pos hw];rfl
  rw [e,qm]
  refine jB [(0,_),(1,_)] Tryz.func53 Tryz.ntmps53 fun B hok hB hW=>?_
  repeat' (first | refine jM ?_ | (refine jo ?_;first | refine jF fun _=>?_ | refine jV (aj F F aS F F) ?_) | refine ac F (ax oM) ?_)
  rename_i y
  refine Nx.blkAcc (m:=0) (sz:=1) .here F ?_
  refine aV (ι:=Nat × Option Addr × Nat) (fun i=>i.1 ≤ a.kids.length) (fun i=>[(0,Pt ba 0),(5,.slice i.2.1 i.1 i.2.2),(6,I i.1)]) (fun _=>G) (fun i=>[.acc (.slice i.2.1 i.1 i.2.2) si 1 i.1 (ah cI (my i.1))]) (fun i=>a.kids.length - i.1) (0,some ⟨y,0,none⟩,0) ?_ tU F a7 (fun i Hi=>?_)
  ·exact Nat.zero_le _
  obtain ⟨i,p,cap⟩:=i
  dsimp only at Hi ⊢
  have hrow : ah cI (my (i + 1)) = ah cI (my i) ++ [I (i : Nat)]:=by rw [xr];exact bW cI (my i) _
  by_cases hi : i < a.kids.length
  ·repeat' (first | refine jM ?_ | (refine jo ?_;first | refine jF fun _=>?_ | refine jV (aj F F aS F F) ?_ | refine jV (af F) ?_ | refine bC F F F F F F F F F oM fun _ _=>?_) | refine ac F (ax oM) ?_)
   rename_i y1 av cv
   exact bm (i + 1,some ⟨av,0,none⟩,cv) (by dsimp only;omega) (by dsimp only;omega) tU rfl (by dsimp only;rw [hrow];repeat (first | exact List.nil_sublist _ | apply List.Sublist.cons_cons))
  ·obtain rfl : i = a.kids.length:=oM
   repeat' (first | refine jR ?_ | (refine jo ?_;first | refine jV (aj F F aS F F) ?_ | refine jV (af F) ?_) | refine ad F (aF oM) ?_)
   refine Nx.sealS (v:=.slice p a.kids.length cap) fun G2 hG2 hsl=>?_
   refine jZ (vs:=[_]) F ⟨F,trivial⟩ F ⟨hG2,F,?_⟩
   exact ⟨_,_,F,hsl⟩
 rcases hca with ⟨⟨r,rfl⟩,h⟩ | ⟨⟨r,rfl⟩,h⟩ | ⟨⟨r,rfl⟩,h⟩ | ⟨hk,h⟩
 ·have hk0 : bt (64 :: r) (Int.toNat 0) = 64:=bD 64 r
  have hkl : (64 :: r).length = r.length + 1:=rfl
  have ta : ip a = cJ a:=by
   unfold bY at hd
   unfold ip cJ
   by_cases h1 : a.what = 82
   ·rw [if_pos h1,if_pos h1]
   ·by_cases h2 : a.what = 85
    ·rw [if_neg h1,if_neg h1,if_pos (.inl h2)]
    ·rw [if_neg h1,if_neg h2,if_neg oM] at hd;cases hd
  have tb2 : ip b = cJ b:=by
   unfold bY at hd
   unfold ip cJ
   by_cases h1 : a.what = 82
   ·have h1b:=hwh.symm.trans h1
    rw [if_pos h1b,if_pos h1b]
   ·by_cases h2 : a.what = 85
    ·have h2b:=hwh.symm.trans h2
     have h1b : ¬ b.what = 82:=oM
     rw [if_neg h1b,if_neg h1b,if_pos (.inl h2b)]
    ·rw [if_neg h1,if_neg h2,if_neg oM] at hd;cases hd
  have e : aU a b = gN (fun n=>(cJ a ++ cJ b).contains n) 200:=by unfold aU;rw [if_neg oM];rfl
  rw [e]
  have hla : (cJ a).length ≤ 100000:=by
   obtain ⟨w1,x,t,ks⟩:=a
   rw [bI] at ht
   have:=dk ks
   unfold cJ
   rw [V.what,V.kids,V.tag]
   split
   ·rw [List.length_map];omega
   ·simp
  have hlb : (cJ b).length ≤ 100000:=by
   obtain ⟨w1,x,t,ks⟩:=b
   rw [bI] at ht
   have:=dk ks
   unfold cJ
   rw [V.what,V.kids,V.tag]
   split
   ·rw [List.length_map];omega
   ·simp
  rw [ta] at hsa hta
  rw [tb2] at hsb htb
  clear ta tb2 kid e hd
  generalize hTa : cJ a = ta at *
  generalize hTb : cJ b = tb2 at *
  generalize hP : (fun n=>(ta ++ tb2).contains n) = pp
  have hpy : ∀ n,pp n = true ↔ (∃ i,i < ta.length ∧ ab ta i = n) ∨ ∃ i,i < tb2.length ∧ ab tb2 i = n:=fun n=>by rw [← hP];exact zz
  refine jB [(0,_),(1,_)] Tryz.func53 Tryz.ntmps53 fun B hok hB hW=>?_
  repeat' (first | refine jM ?_ | (refine jo ?_;first | refine jF fun _=>?_ | refine jV (aj F F aS F F) ?_) | refine ad F F ?_)
  rename_i y
  refine Nx.blkAcc (m:=0) (sz:=1) .here F ?_
  refine aV (ι:=Nat × Option Addr × Nat) (fun i=>i.1 ≤ 200) (fun i=>[(0,Pt ba 0),(1,Pt bb 0),(5,.slice i.2.1 (gN pp i.1).length i.2.2),(7,I ((i.1 : Nat) + 1))]) (fun _=>G) (fun i=>[.acc (.slice i.2.1 (gN pp i.1).length i.2.2) si 1 (gN pp i.1).length (ah cI (gN pp i.1))]) (fun i=>200 - i.1) (0,some ⟨y,0,none⟩,0) ?_ tU F a7 (fun i Hi=>?_)
  ·exact Nat.zero_le _
  obtain ⟨m,p,cap⟩:=i
  dsimp only at Hi ⊢
  have hml:=ze pp m
  by_cases hm : m < 200
  ·repeat' (first | refine jR ?_ | refine ac F (ax oM) ?_)
   refine aV (ι:=Nat) (fun j=>j ≤ ta.length + tb2.length ∧ (∀ i,i < j → i < ta.length → ab ta i ≠ (m : Int) + 1) ∧ ∀ i,ta.length + i < j → ab tb2 i ≠ (m : Int) + 1) (fun j=>[(0,Pt ba 0),(1,Pt bb 0),(5,.slice p (gN pp m).length cap),(7,I ((m : Nat) + 1)),(8,I j)]) (fun _=>G) (fun j=>[.acc (.slice p (gN pp m).length cap) si 1 (gN pp m).length (ah cI (gN pp m))]) (fun j=>ta.length + tb2.length - j) 0 ?_ tU F a7 (fun j Hj=>?_)
   ·exact ⟨Nat.zero_le _,fun i h=>absurd h (Nat.not_lt_zero _),fun i h=>absurd h (Nat.not_lt_zero _)⟩
   obtain ⟨hj0,hj1,hj2⟩:=Hj
   have hrow1 : pp ((m : Int) + 1) = true → ah cI (gN pp (m + 1)) = ah cI (gN pp m) ++ [I ((m : Nat) + 1)] ∧ (gN pp (m + 1)).length = (gN pp m).length + 1:=fun h=>by
    rw [r8,if_pos h]
    exact ⟨bW cI (gN pp m) _,by rw [List.length_append];rfl⟩
   have hrow0 : ¬ pp ((m : Int) + 1) = true → gN pp (m + 1) = gN pp m:=fun h=>by rw [r8,if_neg h,List.append_nil]
   by_cases hj : j < ta.length + tb2.length
   ·by_cases h1 : j < ta.length
    ·obtain ⟨xb,xo,xc,e1,hxa⟩:=hta.expl oM
     simp only [Value.slice.injEq] at e1
     obtain ⟨rfl,-,rfl⟩:=e1
     have hti : ab ta j = ab ta j:=rfl
     by_cases h2 : ab ta j = (m : Int) + 1
     ·obtain ⟨f1,f2⟩:=hrow1 ((hpy _).2 (.inl ⟨j,h1,h2⟩))
      repeat' (first | refine jM ?_ | (refine jo ?_;first | refine jF fun _=>?_ | refine bC F F F F F F F F F oM fun _ _=>?_) | (refine ac F (by first | rfl | (refine decide_eq_true ?_;(omega))) ?_) | (refine an (ao (id:=12) _ (fun _ h=>h) am ?_);refine jT 6 [0,1,2,3,6,7,8] (aa 13 463) ?_;(refine jG (aa 13 479) 4 F (aj F F aS F F) ?_);(refine jG (aa 13 511) 5 F (af F) ?_);(refine jG (aa 13 1023) 9 F (aj F F aS F F) ?_);(refine jG (aa 13 2047) 10 F (af F) ?_);refine jW 0 [11,12] (aa 13 8191) ?_;refine jQ ?_) | (refine an (ao (id:=14) _ (fun _ h=>h) am ?_);refine jT 40 [0,1,2,3] (aa 44 15) ?_;(refine jG (aa 44 31) 4 F (aj F F aS F F) ?_);(refine jG (aa 44 63) 5 F (af F) ?_);refine jT 36 [6,7] (aa 44 255) ?_;(try ((refine Nx.re (d:=56) (v':=Bo true) F (congrArg Value.bool (ax oM)) ?_)));refine jT 31 [8,9,10,12,15] (aa 44 38911) ?_;(refine jG (aa 44 40959) 11 F (aj F F aS F F) ?_);(refine jG (aa 44 49151) 13 F (ak F F oM) ?_);((refine jG (aa 44 65535) 14 F (cm F F aS ?_ aS F) ?_;focus omega));refine jT 27 [16] (aa 44 131071) ?_;(refine jG (aa 44 262143) 17 F (bO F F F) ?_);refine jT 25 [18] (aa 44 524287) ?_;(try (refine Nx.re (d:=67) (v':=Bo true) F (congrArg Value.bool (ax F)) ?_));refine jT 21 [19,20,21,22] (aa 44 8388607) ?_;(refine jN (aa 44 16777215) 23 F ?_);(refine jN (aa 44 33554431) 24 F ?_);refine jT 17 [25,26] (aa 44 134217727) ?_;(try (fail));refine jT 9 [27,28,29,31,32,33,34,40] (aa 44 1132797624319) ?_;(refine jN (aa 44 1133871366143) 30 F ?_);(refine jN (aa 44 1168231104511) 35 F ?_);(refine jN (aa 44 1236950581247) 36 F ?_);refine jT 5 [37] (aa 44 1374389534719) ?_;(refine jN (aa 44 1649267441663) 38 F ?_);(refine jN (aa 44 2199023255551) 39 F ?_);refine jT 2 [41] (aa 44 4398046511103) ?_;(refine jN (aa 44 8796093022207) 42 F ?_);(refine jG (aa 44 17592186044415) 43 F (bO F F F) ?_);refine jQ ?_))
      rename_i y1 b' c'
      exact bm (m + 1,some ⟨b',0,none⟩,c') (by dsimp only;omega) (by dsimp only;omega) (by dsimp only;rw [f2];repeat (first | exact trivial | refine ⟨F,?_⟩)) F (by dsimp only;rw [f1,f2];repeat (first | exact List.nil_sublist _ | apply List.Sublist.cons_cons))
     ·repeat' (first | refine jM ?_ | refine ac F (ax oM) ?_ | refine ad F F ?_ | (refine an (ao (id:=12) _ (fun _ h=>h) am ?_);refine jT 6 [0,1,2,3,6,7,8] (aa 13 463) ?_;(refine jG (aa 13 479) 4 F (aj F F aS F F) ?_);(refine jG (aa 13 511) 5 F (af F) ?_);(refine jG (aa 13 1023) 9 F (aj F F aS F F) ?_);(refine jG (aa 13 2047) 10 F (af F) ?_);refine jW 0 [11,12] (aa 13 8191) ?_;refine jQ ?_) | (refine an (ao (id:=14) _ (fun _ h=>h) am ?_);refine jT 40 [0,1,2,3] (aa 44 15) ?_;(refine jG (aa 44 31) 4 F (aj F F aS F F) ?_);(refine jG (aa 44 63) 5 F (af F) ?_);refine jT 36 [6,7] (aa 44 255) ?_;(try ((refine Nx.re (d:=56) (v':=Bo true) F (congrArg Value.bool (ax oM)) ?_)));refine jT 31 [8,9,10,12,15] (aa 44 38911) ?_;(refine jG (aa 44 40959) 11 F (aj F F aS F F) ?_);(refine jG (aa 44 49151) 13 F (ak F F oM) ?_);((refine jG (aa 44 65535) 14 F (cm F F aS ?_ aS F) ?_;focus omega));refine jT 27 [16] (aa 44 131071) ?_;(refine jG (aa 44 262143) 17 F (bO F F F) ?_);refine jT 25 [18] (aa 44 524287) ?_;(try (refine Nx.re (d:=67) (v':=Bo false) F (congrArg Value.bool (aF ‹_›)) ?_));refine jT 21 [19,20,21,22] (aa 44 8388607) ?_;(refine jG (aa 44 16777215) 23 F (aj F F aS F F) ?_);(refine jG (aa 44 33554431) 24 F (af F) ?_);refine jT 17 [25,26] (aa 44 134217727) ?_;(try ((refine Nx.re (d:=75) (v':=Bo false) F (congrArg Value.bool (aF oM)) ?_)));refine jT 9 [27,28,29,31,32,33,34,40] (aa 44 1132797624319) ?_;(refine jN (aa 44 1133871366143) 30 F ?_);(refine jN (aa 44 1168231104511) 35 F ?_);(refine jN (aa 44 1236950581247) 36 F ?_);refine jT 5 [37] (aa 44 1374389534719) ?_;(refine jN (aa 44 1649267441663) 38 F ?_);(refine jN (aa 44 2199023255551) 39 F ?_);refine jT 2 [41] (aa 44 4398046511103) ?_;(refine jG (aa 44 8796093022207) 42 F (bn F F F) ?_);(refine jG (aa 44 17592186044415) 43 F (bn F F F) ?_);refine jQ ?_))
      exact bm (j + 1) ⟨oM,fun i hi hi2=>by
       rcases Nat.lt_or_ge i j with h | h
       ·exact hj1 i h hi2
       ·obtain rfl : i = j:=oM
        exact h2,fun i hi=>by omega⟩ oM tU F a7
    ·obtain ⟨i,rfl⟩ : ∃ i,j = ta.length + i:=⟨j - ta.length,oM⟩
     obtain ⟨xb,xo,xc,e1,hxb⟩:=htb.expl oM
     simp only [Value.slice.injEq] at e1
     obtain ⟨rfl,-,rfl⟩:=e1
     have hix : (((ta.length + i : Nat) : Int) - (ta.length : Nat)).toNat = i:=oM
     by_cases h2 : ab tb2 (((ta.length + i : Nat) : Int) - ((ta.length : Nat) : Int)).toNat = (m : Int) + 1
     ·obtain ⟨f1,f2⟩:=hrow1 ((hpy _).2 (.inr ⟨i,oM,by rw [← hix];exact h2⟩))
      repeat' (first | refine jM ?_ | (refine jo ?_;first | refine jF fun _=>?_ | refine bC F F F F F F F F F oM fun _ _=>?_) | (refine ac F (by refine decide_eq_true ?_;first | rfl | omega) ?_) | (refine an (ao (id:=12) _ (fun _ h=>h) am ?_);refine jT 6 [0,1,2,3,6,7,8] (aa 13 463) ?_;(refine jG (aa 13 479) 4 F (aj F F aS F F) ?_);(refine jG (aa 13 511) 5 F (af F) ?_);(refine jG (aa 13 1023) 9 F (aj F F aS F F) ?_);(refine jG (aa 13 2047) 10 F (af F) ?_);refine jW 0 [11,12] (aa 13 8191) ?_;refine jQ ?_) | (refine an (ao (id:=14) _ (fun _ h=>h) am ?_);refine jT 40 [0,1,2,3] (aa 44 15) ?_;(refine jG (aa 44 31) 4 F (aj F F aS F F) ?_);(refine jG (aa 44 63) 5 F (af F) ?_);refine jT 36 [6,7] (aa 44 255) ?_;(try ((refine Nx.re (d:=56) (v':=Bo false) F (congrArg Value.bool (aF oM)) ?_)));refine jT 31 [8,9,10,12,15] (aa 44 38911) ?_;(refine jN (aa 44 40959) 11 F ?_);(refine jN (aa 44 49151) 13 F ?_);(refine jN (aa 44 65535) 14 F ?_);refine jT 27 [16] (aa 44 131071) ?_;(refine jG (aa 44 262143) 17 F (bn F F F) ?_);refine jT 25 [18] (aa 44 524287) ?_;(try (refine Nx.re (d:=67) (v':=Bo false) F (congrArg Value.bool F) ?_));refine jT 21 [19,20,21,22] (aa 44 8388607) ?_;(refine jG (aa 44 16777215) 23 F (aj F F aS F F) ?_);(refine jG (aa 44 33554431) 24 F (af F) ?_);refine jT 17 [25,26] (aa 44 134217727) ?_;(try ((refine Nx.re (d:=75) (v':=Bo true) F (congrArg Value.bool (ax oM)) ?_)));refine jT 9 [27,28,29,31,32,33,34,40] (aa 44 1132797624319) ?_;(refine jG (aa 44 1133871366143) 30 F (aj F F aS F F) ?_);(refine jG (aa 44 1168231104511) 35 F (aj F F aS F F) ?_);(refine jG (aa 44 1236950581247) 36 F (af F) ?_);refine jW 5 [37] (aa 44 1374389534719) ?_;(refine jG (aa 44 1649267441663) 38 F (aQ F F oM) ?_);((refine jG (aa 44 2199023255551) 39 F (cm F F aS ?_ aS F) ?_;focus omega));refine jT 2 [41] (aa 44 4398046511103) ?_;(refine jG (aa 44 8796093022207) 42 F (bO F F F) ?_);(refine jG (aa 44 17592186044415) 43 F (bn F F F) ?_);refine jQ ?_))
      rename_i y1 b' c'
      exact bm (m + 1,some ⟨b',0,none⟩,c') (by dsimp only;omega) (by dsimp only;omega) (by dsimp only;rw [f2];repeat (first | exact trivial | refine ⟨F,?_⟩)) F (by dsimp only;rw [f1,f2];repeat (first | exact List.nil_sublist _ | apply List.Sublist.cons_cons))
     ·have htj : ab tb2 (((ta.length + i : Nat) : Int) - ((ta.length : Nat) : Int)).toNat = ab tb2 (((ta.length + i : Nat) : Int) - ((ta.length : Nat) : Int)).toNat:=rfl
      repeat' (first | refine jM ?_ | refine ac F (ax oM) ?_ | refine ad F (aF ‹_›) ?_ | (refine an (ao (id:=12) _ (fun _ h=>h) am ?_);refine jT 6 [0,1,2,3,6,7,8] (aa 13 463) ?_;(refine jG (aa 13 479) 4 F (aj F F aS F F) ?_);(refine jG (aa 13 511) 5 F (af F) ?_);(refine jG (aa 13 1023) 9 F (aj F F aS F F) ?_);(refine jG (aa 13 2047) 10 F (af F) ?_);refine jW 0 [11,12] (aa 13 8191) ?_;refine jQ ?_) | (refine an (ao (id:=14) _ (fun _ h=>h) am ?_);refine jT 40 [0,1,2,3] (aa 44 15) ?_;(refine jG (aa 44 31) 4 F (aj F F aS F F) ?_);(refine jG (aa 44 63) 5 F (af F) ?_);refine jT 36 [6,7] (aa 44 255) ?_;(try ((refine Nx.re (d:=56) (v':=Bo false) F (congrArg Value.bool (aF oM)) ?_)));refine jT 31 [8,9,10,12,15] (aa 44 38911) ?_;(refine jN (aa 44 40959) 11 F ?_);(refine jN (aa 44 49151) 13 F ?_);(refine jN (aa 44 65535) 14 F ?_);refine jT 27 [16] (aa 44 131071) ?_;(refine jG (aa 44 262143) 17 F (bn F F F) ?_);refine jT 25 [18] (aa 44 524287) ?_;(try (refine Nx.re (d:=67) (v':=Bo false) F (congrArg Value.bool F) ?_));refine jT 21 [19,20,21,22] (aa 44 8388607) ?_;(refine jG (aa 44 16777215) 23 F (aj F F aS F F) ?_);(refine jG (aa 44 33554431) 24 F (af F) ?_);refine jT 17 [25,26] (aa 44 134217727) ?_;(try ((refine Nx.re (d:=75) (v':=Bo true) F (congrArg Value.bool (ax oM)) ?_)));refine jT 9 [27,28,29,31,32,33,34,40] (aa 44 1132797624319) ?_;(refine jG (aa 44 1133871366143) 30 F (aj F F aS F F) ?_);(refine jG (aa 44 1168231104511) 35 F (aj F F aS F F) ?_);(refine jG (aa 44 1236950581247) 36 F (af F) ?_);refine jW 5 [37] (aa 44 1374389534719) ?_;(refine jG (aa 44 1649267441663) 38 F (aQ F F oM) ?_);((refine jG (aa 44 2199023255551) 39 F (cm F F aS ?_ aS F) ?_;focus omega));refine jT 2 [41] (aa 44 4398046511103) ?_;(refine jG (aa 44 8796093022207) 42 F (bO F F F) ?_);(refine jG (aa 44 17592186044415) 43 F (bn F F F) ?_);refine jQ ?_))
      exact bm (ta.length + i + 1) ⟨oM,fun i2 hi hi2=>hj1 i2 oM hi2,fun i2 hi=>by
       rcases Nat.lt_or_ge i2 i with h | h
       ·exact hj2 i2 oM
       ·obtain rfl : i2 = i:=oM
        rw [← hix];exact h2⟩ oM tU F a7
   ·have hno : ¬ pp ((m : Int) + 1) = true:=fun h=>by
     rcases (hpy _).1 h with ⟨i,hi,e⟩ | ⟨i,hi,e⟩
     ·exact hj1 i oM hi e
     ·exact hj2 i oM e
    have f0:=hrow0 hno
    repeat' (first | refine jM ?_ | refine ad F (aF oM) ?_ | (refine an (ao (id:=12) _ (fun _ h=>h) am ?_);refine jT 6 [0,1,2,3,6,7,8] (aa 13 463) ?_;(refine jG (aa 13 479) 4 F (aj F F aS F F) ?_);(refine jG (aa 13 511) 5 F (af F) ?_);(refine jG (aa 13 1023) 9 F (aj F F aS F F) ?_);(refine jG (aa 13 2047) 10 F (af F) ?_);refine jW 0 [11,12] (aa 13 8191) ?_;refine jQ ?_))
    exact bm (m + 1,p,cap) (by dsimp only;omega) (by dsimp only;omega) (by dsimp only;rw [f0];repeat (first | exact trivial | refine ⟨F,?_⟩)) F (by dsimp only;rw [f0];repeat (exact List.Sublist.refl _))
  ·obtain rfl : m = 200:=oM
   repeat' (first | refine jR ?_ | refine ad F F ?_)
   refine Nx.sealS (v:=.slice p (gN pp 200).length cap) fun G2 hG2 hsl=>?_
   refine jZ (vs:=[_]) F ⟨F,trivial⟩ F ⟨hG2,F,?_⟩
   exact ⟨_,_,F,hsl⟩
 ·exact kid (.inl h) _ _ F dC
 ·exact kid (.inr h) _ _ F dC
 ·exfalso
  unfold bY at hd
  rw [if_neg oM,if_neg oM,if_neg oM] at hd
  cases hd
theorem nI {ts : List Ty} (hw : SchW ts) {k : adB} {v : V} (h : OfK ts k v) (hf : v.deep ≤ 12 ∧ v.out.length ≤ 400) : v.tot ≤ 40000:=by
 have:=gr _ _ _ _ (aaR hw h hf.1)
 dsimp only at this
 omega
def uv (ts : List Ty) (n : Nat) (k : adB) (a b : V) (q : List Int) (i : Int) : List (List Int × V):=match aC ts k a i,aC ts k b i with
 | some y,some z=>bL ts n y.1 y.2 z.2 (q ++ [i])
 | _,_=>[]
def dm (ts : List Ty) (n : Nat) (k : adB) (a b : V) (q : List Int) (i : Nat) : List (List Int × V):=((aU a b).take i).flatMap (uv ts n k a b q)
theorem uH {ts : List Ty} {n : Nat} {k : adB} {a b : V} {q : List Int} (h1 : ¬ a.out = b.out) (h2 : bY a b = true) : bL ts (n + 1) k a b q = dm ts n k a b q (aU a b).length:=by
 rw [bL,if_neg h1,if_pos h2,dm,List.take_length]
 rfl
theorem sK {ts : List Ty} {n : Nat} {k : adB} {a b : V} {q : List Int} {i : Nat} (hi : i < (aU a b).length) {k1 : adB} {y z : V} (e1 : aC ts k a (ab (aU a b) i) = some (k1,y)) (e2 : aC ts k b (ab (aU a b) i) = some (k1,z)) :
  dm ts n k a b q (i + 1) = dm ts n k a b q i ++ bL ts n k1 y z (q ++ [ab (aU a b) i]):=by
 unfold dm
 rw [dl hi,List.flatMap_append,List.flatMap_singleton]
 congr 1
 unfold uv
 rw [e1,e2]
theorem wu {ts : List Ty} {n : Nat} {k : adB} {a b : V} {q : List Int} (i : Nat) : (dm ts n k a b q i).length ≤ (dm ts n k a b q (aU a b).length).length:=by
 unfold dm
 rw [List.take_length]
 conv=>rhs;rw [← List.take_append_drop i (aU a b),List.flatMap_append,List.length_append]
 omega
theorem qX {ts : List Ty} {k : adB} {a b : V} (ha : OfK ts k a) : (aU a b).length ≤ 200:=by
 have hk : (a.what = 91 ∨ a.what = 63) → a.kids.length ≤ 20:=fun hwh=>by
  cases ha with
  | num=>rw [V.what] at hwh;omega
  | txt=>rw [V.what] at hwh;omega
  | flg=>rw [V.what] at hwh;omega
  | lst k ks h1 h2=>exact h1
  | non=>exact Nat.zero_le _
  | opt=>exact (by decide : (1 : Nat) ≤ 20)
  | recd=>rw [V.what] at hwh;omega
  | enm=>rw [V.what] at hwh;omega
  | uni=>rw [V.what] at hwh;omega
 unfold aU
 split
 ·rename_i h
  have:=hk h
  simp
  omega
 ·refine Nat.le_trans (List.length_filter_le _ _) ?_
  simp
abbrev mG : TypeId:=55
theorem aal {vs : List cD} (hw : SchW (ag vs)) : ∀ (n : Nat) {G : Gh} {u : Value} (_ : SchR G u vs) {k : adB} {a b : V} {ba bb : Nat} (_ : RepR G (ag vs) a k ba) (_ : RepR G (ag vs) b k bb) (_ : OfK (ag vs) k a) (_ : OfK (ag vs) k b) (_ : aA (ag vs) k = true) (_ : a.deep ≤ 12 ∧ a.out.length ≤ 400) (_ : b.deep ≤ 12 ∧ b.out.length ≤ 400) (_ : ji (ag vs) n k a b)
  {q : List Int} (_ : ∀ n ∈ q,0 ≤ n ∧ n ≤ 999999) (_ : q.length + n ≤ 1000) {p0 : Option Addr} {m cap : Nat} {out : List Ch} (_ : m = out.length) (_ : m + (bL (ag vs) n k a b q).length ≤ 1000000),
  ff adA 22 [u,Pt ba 0,Pt bb 0,S (cy q),.slice p0 m cap] G [.acc (.slice p0 m cap) mG 2 m (ah cY out)]
   (fun r _ L'=>∃ p' cap',r = .slice p' (m + (bL (ag vs) n k a b q).length) cap' ∧ L' = [.acc (.slice p' (m + (bL (ag vs) n k a b q).length) cap') mG 2 (m + (bL (ag vs) n k a b q).length) (ah cY (out ++ (bL (ag vs) n k a b q).map cZ))]):=by
 intro n
 induction n with
 | zero =>
  intro G u h k a b ba bb ha hb oa ob hk fa fb hl
  exact hl.elim
 | succ n ih =>
  intro G u h k a b ba bb ha hb oa ob hk fa fb hl q hq hql p0 m cap out hm hmx
  have hu:=h.sl.one
  obtain ⟨ua,uc,rfl⟩:=h.sl.sl
  have hta:=nI hw oa fa
  have htb:=nI hw ob fb
  have hpl:=gt hq
  have hstl:=qX (b:=b) oa
  by_cases ho : a.out = b.out
  ·have e : bL (ag vs) (n + 1) k a b q = []:=by rw [bL,if_pos ho]
   rw [e]
   simp only [List.length_nil,Nat.add_zero,List.map_nil,List.append_nil]
   refine bK [(0,_),(1,_),(2,_),(3,_),(4,_)] Tryz.func22 kR Tryz.ntmps22 F F tU fun B hB hW=>?_
   have cx_out:=gc hw ha oM
   repeat' (first | refine jR ?_ | (refine jo ?_;refine ae F F F cx_out F ?_))
   have cx_out:=gc hw hb oM
   repeat' (first | refine jR ?_ | (refine jo ?_;refine ae F F F cx_out F ?_) | refine ac F (ax ‹_›) ?_)
   exact aW (vs:=[_]) F ⟨F,trivial⟩ F a7 ⟨Gh.le.refl _,_,_,F,F⟩
  by_cases hd : bY a b = true
  ·have e:=uH (ts:=ag vs) (n:=n) (k:=k) (q:=q) ho hd
   rw [e] at hmx ⊢
   have cx_dp:=rP ha hb oa ob
   rw [hd] at cx_dp
   have cx_stp:=vY ha hb oa ob oM hd
   have hSq:=h
   have hra:=ha
   have hrb:=hb
   refine bK [(0,_),(1,_),(2,_),(3,_),(4,_)] Tryz.func22 kR Tryz.ntmps22 F F tU fun B hB hW=>?_
   have cx_out:=gc hw ha oM
   repeat' (first | refine jR ?_ | (refine jo ?_;refine ae F F F cx_out F ?_))
   have cx_out:=gc hw hb oM
   repeat' (first | refine jR ?_ | (refine jo ?_;first | refine jV (af F) ?_ | refine ae F F F cx_out F ?_ | refine ae F F F cx_dp F ?_ | (refine ar F F F cx_stp F ?_;rintro _ G hle ⟨sp,sc,rfl,hst⟩;(try have hSq:=SchR.mono hSq hle);(try have hra:=RepR.mono hle hra);(try have hrb:=RepR.mono hle hrb);(try have hrep1:=RepR.mono hle hrep1);(try have hrepy:=RepR.mono hle hrepy);(try have hgq:=Gh.le.trans hgq hle))) | (refine ad F (by first | rfl | (refine decide_eq_false ?_;(assumption))) ?_))
   have hle0:=hle
   rw [show ah cY out = ah cY (out ++ (dm (ag vs) n k a b q 0).map cZ) by rw [show dm (ag vs) n k a b q 0 = [] from rfl,List.map_nil,List.append_nil]]
   refine aV (ι:=Nat × Option Addr × Nat × Gh) (fun i=>i.1 ≤ (aU a b).length ∧ Gh.le G i.2.2.2) (fun i=>[(0,.slice ua vs.length uc),(1,Pt ba 0),(2,Pt bb 0),(3,S (cy q)),(4,.slice i.2.1 (m + (dm (ag vs) n k a b q i.1).length) i.2.2.1),(36,.slice sp (aU a b).length sc),(37,I (aU a b).length),(38,I i.1)]) (fun i=>i.2.2.2) (fun i=>[.acc (.slice i.2.1 (m + (dm (ag vs) n k a b q i.1).length) i.2.2.1) mG 2 (m + (dm (ag vs) n k a b q i.1).length) (ah cY (out ++ (dm (ag vs) n k a b q i.1).map cZ))]) (fun i=>(aU a b).length - i.1) (0,p0,cap,G) ?_ tU F a7 (fun i Hi=>?_)
   ·exact ⟨Nat.zero_le _,Gh.le.refl _⟩
   obtain ⟨i,p,cap,Gq⟩:=i
   dsimp only at Hi ⊢
   obtain ⟨hi0,hgq⟩:=Hi
   by_cases hi : i < (aU a b).length
   ·have hin:=bB hi
    obtain ⟨k1,y,z,e1,e2⟩:=(iy hw oa ob hk hd).1 _ hin
    have hi0:=kF oa hin
    obtain ⟨y1,y2⟩:=cP hw oa hk hi0.1 e1
    obtain ⟨z1,_⟩:=cP hw ob hk hi0.1 e2
    have fy:=gG hw oa hk hi0.1 e1 fa.1 fa.2
    have fz:=gG hw ob hk hi0.1 e2 fb.1 fb.2
    have hls : ji (ag vs) n k1 y z:=by
     rcases hl with h | h | h
     ·exact absurd h ho
     ·rw [hd] at h;cases h
     ·exact h _ hin (k1,y) (k1,z) e1 e2
    have hps:=sK (n:=n) (q:=q) hi e1 e2
    have hpe:=wu (ts:=ag vs) (n:=n) (k:=k) (a:=a) (b:=b) (q:=q) (i + 1)
    have hN1 : m + (dm (ag vs) n k a b q (i + 1)).length = m + (dm (ag vs) n k a b q i).length + (bL (ag vs) n k1 y z (q ++ [ab (aU a b) i])).length:=by rw [hps,List.length_append,Nat.add_assoc]
    have hN2 : out ++ (dm (ag vs) n k a b q (i + 1)).map cZ = out ++ (dm (ag vs) n k a b q i).map cZ ++ (bL (ag vs) n k1 y z (q ++ [ab (aU a b) i])).map cZ:=by rw [hps,List.map_append,List.append_assoc]
    have hmo : m + (dm (ag vs) n k a b q i).length = (out ++ (dm (ag vs) n k a b q i).map cZ).length:=by rw [List.length_append,List.length_map,hm]
    have hq2 : ∀ n ∈ q ++ [ab (aU a b) i],0 ≤ n ∧ n ≤ 999999:=k9 hq ⟨oM,oM⟩
    have cx_lof : ∀ G' b1 b2,SchR G' (.slice ua vs.length uc) vs → RepR G' (ag vs) y k1 b1 → RepR G' (ag vs) z k1 b2 → ff adA 22 [.slice ua vs.length uc,Pt b1 0,Pt b2 0,S (cy (q ++ [ab (aU a b) i])),.slice p (m + (dm (ag vs) n k a b q i).length) cap] G' [.acc (.slice p (m + (dm (ag vs) n k a b q i).length) cap) mG 2 (m + (dm (ag vs) n k a b q i).length) (ah cY (out ++ (dm (ag vs) n k a b q i).map cZ))]
      (fun r _ L'=>∃ p' cap',r = .slice p' (m + (dm (ag vs) n k a b q i).length + (bL (ag vs) n k1 y z (q ++ [ab (aU a b) i])).length) cap' ∧ L' = [.acc (.slice p' (m + (dm (ag vs) n k a b q i).length + (bL (ag vs) n k1 y z (q ++ [ab (aU a b) i])).length) cap') mG 2 (m + (dm (ag vs) n k a b q i).length + (bL (ag vs) n k1 y z (q ++ [ab (aU a b) i])).length) (ah cY (out ++ (dm (ag vs) n k a b q i).map cZ ++ (bL (ag vs) n k1 y z (q ++ [ab (aU a b) i])).map cZ))]):=fun G' b1 b2 g1 g2 g3 =>
     ih g1 g2 g3 y1 z1 y2 fy fz hls hq2 (by rw [List.length_append,List.length_singleton];omega) hmo oM
    have hSq:=hSq.mono hgq
    have hra:=hra.mono hgq
    have hrb:=hrb.mono hgq
    obtain ⟨xb,xo,xc,e,hs1⟩:=(hst.mono hgq).expl oM
    simp only [Value.slice.injEq] at e
    obtain ⟨rfl,-,rfl⟩:=e
    have hti : ab (aU a b) i = ab (aU a b) i:=rfl
    have cx_sty:=gM.yes (nK hSq hw hra oa hk (n:=ab (aU a b) i) ⟨oM,oM⟩ oM) e1
    repeat' (first | refine jR ?_ | (refine jo ?_;first | refine jV (ak F F oM) ?_ | (refine jV (cm F F aS ?_ aS F) ?_;focus omega) | (refine ar F F F cx_sty F ?_;rintro _ G hle ⟨b1,rfl,hrep1⟩;(try have hSq:=SchR.mono hSq hle);(try have hra:=RepR.mono hle hra);(try have hrb:=RepR.mono hle hrb);(try have hrep1:=RepR.mono hle hrep1);(try have hrepy:=RepR.mono hle hrepy);(try have hgq:=Gh.le.trans hgq hle))) | refine ac F (ax oM) ?_)
    have hrepy:=hrep1
    have cx_sty:=gM.yes (nK hSq hw hrb ob hk (n:=ab (aU a b) i) ⟨oM,oM⟩ oM) e2
    repeat' (first | refine jM ?_ | (refine jo ?_;first | (refine ar F F F cx_sty F ?_;rintro _ G hle ⟨b1,rfl,hrep1⟩;(try have hSq:=SchR.mono hSq hle);(try have hra:=RepR.mono hle hra);(try have hrb:=RepR.mono hle hrb);(try have hrep1:=RepR.mono hle hrep1);(try have hrepy:=RepR.mono hle hrepy);(try have hgq:=Gh.le.trans hgq hle)) | refine ae F F F (w9 oM oM) F ?_ | (refine xg F F F ((cx_lof _ _ _) (by (repeat (assumption));done) (by (repeat (assumption));done) (by (repeat (assumption));done)) rfl ?_;rintro _ G1 _ hle ⟨av,cv,rfl,rfl⟩;dsimp only [zA,fA];(try have hSq:=SchR.mono hSq hle);(try have hra:=RepR.mono hle hra);(try have hrb:=RepR.mono hle hrb);(try have hrep1:=RepR.mono hle hrep1);(try have hrepy:=RepR.mono hle hrepy);(try have hgq:=Gh.le.trans hgq hle))))
    exact bm (i + 1,av,cv,_) ⟨by dsimp only;omega,hgq⟩ (by dsimp only;omega) (by dsimp only;rw [hN1];repeat (first | exact trivial | refine ⟨F,?_⟩)) F (by dsimp only;rw [hN1,hN2];repeat (exact List.Sublist.refl _))
   ·obtain rfl : i = (aU a b).length:=oM
    repeat' (first | refine jR ?_ | refine ad F (aF oM) ?_)
    exact aW (vs:=[_]) F ⟨F,trivial⟩ F a7 ⟨hle0.trans hgq,_,_,F,F⟩
  ·have e : bL (ag vs) (n + 1) k a b q = [(q,b)]:=by rw [bL,if_neg ho,if_neg hd]
   rw [e]
   simp only [List.length_singleton,List.map_cons,List.map_nil]
   have hd2 : bY a b = false:=by simpa using hd
   have cx_dp:=rP ha hb oa ob
   rw [hd2] at cx_dp
   have hrow : ah cY (out ++ [cZ (q,b)]) = ah cY out ++ [S (cy q),S b.out]:=bW cY out (cZ (q,b))
   refine bK [(0,_),(1,_),(2,_),(3,_),(4,_)] Tryz.func22 kR Tryz.ntmps22 F F tU fun B hB hW=>?_
   have cx_out:=gc hw ha oM
   repeat' (first | refine jR ?_ | (refine jo ?_;refine ae F F F cx_out F ?_))
   have cx_out:=gc hw hb oM
   repeat' (first | refine jR ?_ | (refine jo ?_;first | refine jV (ay F F) ?_ | refine jF fun _=>?_ | refine bC F F F F F F F F F oM fun _ _=>?_ | refine ae F F F cx_out F ?_ | refine ae F F F cx_dp F ?_) | refine ac F F ?_ | refine ad F (aF ‹_›) ?_)
   rw [hrow]
   exact aW (vs:=[_]) F ⟨F,trivial⟩ F sB ⟨Gh.le.refl _,_,_,F,F⟩
theorem rV {s k w : adB} {p : Option Addr} {c : Nat} {T : TypeId} {l : List Ch} (h : s.length ≤ 1048576 ∧ k.length ≤ 1048576 ∧ w.length ≤ 1048576) (hn : l.length ≤ 1048576) (hl : ∀ x ∈ l,t8 x) :
  dO adA 24 [S s,S k,S w,.slice p l.length c] G [.acc (.slice p l.length c) T 2 l.length (ah cY l)] (fun v L'=>v = mA (jl s k w l) ∧ L' = [.acc (.slice p l.length c) T 2 l.length (ah cY l)]):=by
 unfold jl
 have cx_wo:=v7 (G:=G) h
 cases ho : ld s k w with
 | false =>
  rw [ho] at cx_wo
  rw [if_neg (by simp)]
  refine jH [(0,_),(1,_),(2,_),(3,_)] Tryz.func24 Tryz.ntmps24 fun B hB hW=>?_
  repeat' (first | refine jR ?_ | (refine jo ?_;refine ae F F F cx_wo F ?_) | refine ac F F ?_)
  all_goals refine aW (vs:=[_,_]) F ⟨F,F,trivial⟩ F a7 ⟨F,F,F⟩
 | true =>
  rw [ho] at cx_wo
  rw [if_pos rfl]
  refine jH [(0,_),(1,_),(2,_),(3,_)] Tryz.func24 Tryz.ntmps24 fun B hB hW=>?_
  repeat' (first | refine jR ?_ | (refine jo ?_;refine ae F F F cx_wo F ?_) | refine ad F F ?_)
  refine aV (ι:=Nat × adB) (fun j=>(j.1 ≤ l.length ∧ fZ s k w l = fZ s k j.2 (l.drop j.1)) ∧ j.2.length ≤ 1048576) (fun j=>[(0,S s),(1,S k),(2,S j.2),(3,.slice p l.length c),(10,I (j.1 : Nat))]) (fun _=>G) (fun j=>[.acc (.slice p l.length c) T 2 l.length (ah cY l)]) (fun j=>l.length - j.1) (0,w) ?_ tU F a7 (fun j Hj=>?_)
  ·exact ⟨⟨Nat.zero_le _,F⟩,h.2.2⟩
  obtain ⟨i,t⟩:=j
  dsimp only at Hj ⊢
  obtain ⟨⟨hj1,hj2⟩,hj3⟩:=Hj
  by_cases hi : i < l.length
  ·refine Nx.shp (.head _) fun hsh=>?_
   obtain ⟨ba,ca,e⟩:=hsh.pos oM
   simp only [Value.slice.injEq] at e
   obtain ⟨rfl,-,rfl⟩:=e
   have hx:=hl _ (bB hi)
   have cx_ps2:=v8 (G:=G) (s:=s) (k:=k) (w:=t) (p:=(ab l i).1) (x:=(ab l i).2) ⟨h.1,h.2.1,hj3,hx.1⟩ hx.2
   rw [iT hi,fZ] at hj2
   unfold mA at cx_ps2
   cases hp : eK s k t (ab l i).1 (ab l i).2 with
   | none =>
    rw [hp] at cx_ps2 hj2
    dsimp only [Option.getD,Option.isSome] at cx_ps2 hj2
    repeat' (first | refine jR ?_ | (refine jo ?_;refine jV (af F) ?_) | (refine ac F (by first | rfl | (refine decide_eq_true ?_;(omega))) ?_) | (refine an (ao (id:=6) _ (fun _ h=>h) am ?_);refine jT 12 [0,1,2,3,4,8,9] (aa 19 799) ?_;(refine jG (aa 19 831) 5 F (ak F F oM) ?_);refine jT 10 [6] (aa 19 895) ?_;(refine jG (aa 19 1023) 7 F (fk F F F oM F F) ?_);(refine jG (aa 19 2047) 10 F (ak F F oM) ?_);refine jT 7 [11] (aa 19 4095) ?_;(refine jG (aa 19 8191) 12 F (fk F F F oM F F) ?_);refine jA 13 F ?_;(refine ae F F F cx_ps2 F ?_);refine jS (aa 19 16383) ?_;refine jT 0 [14,15,16,17,18] (aa 19 524287) ?_;refine jQ ?_))
    all_goals (rw [hj2];refine aW (vs:=[_,_]) F ⟨F,F,trivial⟩ F a7 ⟨F,F,F⟩)
   | some z =>
    have hz:=(sI hp).2
    rw [hp] at cx_ps2 hj2
    dsimp only [Option.getD,Option.isSome] at cx_ps2 hj2
    repeat' (first | refine jM ?_ | (refine jo ?_;refine jV (af F) ?_) | refine ac F (ax oM) ?_ | refine ad F F ?_ | (refine an (ao (id:=6) _ (fun _ h=>h) am ?_);refine jT 12 [0,1,2,3,4,8,9] (aa 19 799) ?_;(refine jG (aa 19 831) 5 F (ak F F oM) ?_);refine jT 10 [6] (aa 19 895) ?_;(refine jG (aa 19 1023) 7 F (fk F F F oM F F) ?_);(refine jG (aa 19 2047) 10 F (ak F F oM) ?_);refine jT 7 [11] (aa 19 4095) ?_;(refine jG (aa 19 8191) 12 F (fk F F F oM F F) ?_);refine jA 13 F ?_;(refine ae F F F cx_ps2 F ?_);refine jS (aa 19 16383) ?_;refine jT 0 [14,15,16,17,18] (aa 19 524287) ?_;refine jQ ?_))
    exact bm (i + 1,z) ⟨⟨oM,hj2⟩,by dsimp only;omega⟩ (by dsimp only;omega) tU rfl a7
  ·have ei : i = l.length:=oM
   subst ei
   rw [List.drop_length,fZ] at hj2
   repeat' (first | refine jR ?_ | (refine jo ?_;refine jV (af F) ?_) | refine ad F (aF oM) ?_)
   all_goals (rw [hj2];refine aW (vs:=[_,_]) F ⟨F,F,trivial⟩ F a7 ⟨F,F,F⟩)
theorem rW {s k w : adB} {p : Option Addr} {c : Nat} {T : TypeId} {l : List Ch} (h : s.length ≤ 1048576 ∧ k.length ≤ 1048576 ∧ w.length ≤ 1048576) (hn : l.length ≤ 1048576) (hl : ∀ x ∈ l,t8 x) :
  dO adA 14 [S s,S k,S w,.slice p l.length c] G [.acc (.slice p l.length c) T 2 l.length (ah cY l)] (fun v L'=>v = mA (jl s k w l) ∧ L' = [.acc (.slice p l.length c) T 2 l.length (ah cY l)]):=by
 unfold jl
 have cx_o1:=p8 (G:=G) h
 cases ho : ld s k w with
 | false =>
  rw [ho] at cx_o1
  rw [if_neg (by simp)]
  refine jH [(0,_),(1,_),(2,_),(3,_)] Tryz.func14 Tryz.ntmps14 fun B hB hW=>?_
  repeat' (first | refine jR ?_ | (refine jo ?_;refine ae F F F cx_o1 F ?_) | refine ac F F ?_)
  all_goals refine aW (vs:=[_,_]) F ⟨F,F,trivial⟩ F a7 ⟨F,F,F⟩
 | true =>
  rw [ho] at cx_o1
  rw [if_pos rfl]
  refine jH [(0,_),(1,_),(2,_),(3,_)] Tryz.func14 Tryz.ntmps14 fun B hB hW=>?_
  repeat' (first | refine jR ?_ | (refine jo ?_;first | refine jV (af F) ?_ | refine ae F F F cx_o1 F ?_) | refine ad F F ?_)
  refine aV (ι:=Nat × adB) (fun j=>(j.1 ≤ l.length ∧ fZ s k w l = fZ s k j.2 (l.drop j.1)) ∧ j.2.length ≤ 1048576) (fun j=>[(0,S s),(1,S k),(2,S j.2),(18,.slice p l.length c),(19,I (l.length : Nat)),(20,I (j.1 : Nat))]) (fun _=>G) (fun j=>[.acc (.slice p l.length c) T 2 l.length (ah cY l)]) (fun j=>l.length - j.1) (0,w) ?_ tU F a7 (fun j Hj=>?_)
  ·exact ⟨⟨Nat.zero_le _,F⟩,h.2.2⟩
  obtain ⟨i,t⟩:=j
  dsimp only at Hj ⊢
  obtain ⟨⟨hj1,hj2⟩,hj3⟩:=Hj
  by_cases hi : i < l.length
  ·refine Nx.shp (.head _) fun hsh=>?_
   obtain ⟨ba,ca,e⟩:=hsh.pos oM
   simp only [Value.slice.injEq] at e
   obtain ⟨rfl,-,rfl⟩:=e
   have hx:=hl _ (bB hi)
   have cx_ps1:=p9 (G:=G) (s:=s) (k:=k) (w:=t) (p:=(ab l i).1) (x:=(ab l i).2) ⟨h.1,h.2.1,hj3,hx.1⟩ hx.2
   rw [iT hi,fZ] at hj2
   unfold mA at cx_ps1
   cases hp : eK s k t (ab l i).1 (ab l i).2 with
   | none =>
    rw [hp] at cx_ps1 hj2
    dsimp only [Option.getD,Option.isSome] at cx_ps1 hj2
    repeat' (first | refine jR ?_ | (refine jo ?_;first | refine jV (ak F F oM) ?_ | refine aB F ?_ | refine jV (m7 F F F oM) ?_ | refine jL fun _=>?_ | refine jC F F F ?_ | refine ae F F F cx_ps1 F ?_) | (refine ac F (by first | rfl | (refine decide_eq_true ?_;(omega))) ?_))
    all_goals (rw [hj2];refine aW (vs:=[_,_]) F ⟨F,F,trivial⟩ F sB ⟨F,F,F⟩)
   | some z =>
    have hz:=(sI hp).2
    rw [hp] at cx_ps1 hj2
    dsimp only [Option.getD,Option.isSome] at cx_ps1 hj2
    repeat' (first | refine jM ?_ | (refine jo ?_;first | refine jV (ak F F oM) ?_ | refine aB F ?_ | refine jV (m7 F F F oM) ?_ | refine jL fun _=>?_ | refine jC F F F ?_ | refine ae F F F cx_ps1 F ?_) | refine ac F (ax oM) ?_ | refine ad F F ?_)
    exact bm (i + 1,z) ⟨⟨oM,hj2⟩,by dsimp only;omega⟩ (by dsimp only;omega) tU rfl sB
  ·have ei : i = l.length:=oM
   subst ei
   rw [List.drop_length,fZ] at hj2
   repeat' (first | refine jR ?_ | refine ad F (aF oM) ?_)
   all_goals (rw [hj2];refine aW (vs:=[_,_]) F ⟨F,F,trivial⟩ F a7 ⟨F,F,F⟩)
theorem pV {s k w t : adB} (h : cW s k w = none ∨ cW s k t = none) : cA s k w t = none:=by
 unfold cA
 rcases h with h | h
 ·rw [h];cases bc s <;> rfl
 ·rw [h];cases bc s <;> cases cW s k w <;> rfl
theorem n9 {s k w t : adB} {l : List Ch} (h : cA s k w t = some l) : l.length ≤ 30 ∧ ∀ x ∈ l,x.1.length ≤ 91 ∧ x.2.length ≤ 400:=by
 unfold cA at h
 split at h
 ·rename_i ts a b h1 ha hb
  split at h
  ·rename_i hc
   cases h
   refine ⟨hc.1,fun x hx=>?_⟩
   obtain ⟨ts',g1,g2,g3,g4,g5⟩:=cV ha
   obtain rfl : ts = ts':=Option.some.inj (h1.symm.trans g1)
   obtain ⟨ts',i1,i2,i3,i4,i5⟩:=cV hb
   obtain rfl : ts = ts':=Option.some.inj (h1.symm.trans i1)
   obtain ⟨a1,a2,a3⟩:=eU g3
   obtain ⟨b1,b2,b3⟩:=eU i3
   obtain ⟨c,hc,rfl⟩:=List.mem_map.1 hx
   have:=ll (n:=13) (q:=[]) (d9 h1) (dq g3) (dq i3) g2 ⟨a3,by rw [a1];exact a2⟩ ⟨b3,by rw [b1];exact b2⟩ (fun m hm=>by cases hm) c hc
   have h2:=gt this.1
   have h3:=this.2.1
   simp only [List.length_nil,Nat.zero_add] at h3
   exact ⟨by unfold cZ;dsimp only;omega,this.2.2⟩
  ·cases h
 ·cases h
theorem aag {s k w : adB} (h : s.length ≤ 1048576 ∧ k.length ≤ 1048576 ∧ w.length ≤ 1048576) : bG adA 21 [S s,S k,S w] G (fun v _=>∃ u q ok,v = Tu [u,.pointer q,Bo ok]):=by
 cases hg : cW s k w with
 | none=>exact (lx h hg).mono fun v G' L' ⟨h1,h2,u,q,h3⟩=>⟨h1,h2,u,q,false,h3⟩
 | some u =>
  obtain ⟨ts,hs,hki,hvo,_⟩:=cV hg
  exact (nL h hs hki hvo).mono fun v G' L' ⟨h1,h2,a,c,vs,b,h3,_⟩=>⟨h1,h2,.slice a vs.length c,some ⟨b,0,none⟩,true,h3⟩
theorem nv {s k w t : adB} (h : s.length ≤ 1048576 ∧ k.length ≤ 1048576 ∧ w.length ≤ 1048576 ∧ t.length ≤ 1048576) :
  ff adA 7 [S s,S k,S w,S t] G [] (fun v _ L'=>∃ p c,v = Tu [.slice p ((cA s k w t).getD []).length c,Bo (cA s k w t).isSome] ∧ L' = [.acc (.slice p ((cA s k w t).getD []).length c) mG 2 ((cA s k w t).getD []).length (ah cY ((cA s k w t).getD []))]):=by
 cases ha : cW s k w with
 | none =>
  have cx_la0:=fun G=>lx (G:=G) (s:=s) (k:=k) (w:=w) ⟨h.1,h.2.1,h.2.2.1⟩ ha
  rw [pV (.inl ha)]
  refine bK [(0,_),(1,_),(2,_),(3,_)] Tryz.func7 kR Tryz.ntmps7 F F tU fun B hB hW=>?_
  repeat' (first | refine jR ?_ | (refine jo ?_;(refine ar F F F (cx_la0 _) F ?_;rintro _ G hle ⟨ua,qa,rfl⟩;skip)))
  have hle0:=hle
  refine jo ?_
  refine ar F F F (aag ⟨h.1,h.2.1,h.2.2.2⟩) F ?_
  rintro _ G2 hle2 ⟨u2,q2,ok2,rfl⟩
  repeat' (first | refine jR ?_ | (refine jo ?_;first | refine aP F ?_ | refine jF fun _=>?_) | refine aG F F F ?_ | refine ac F F ?_)
  rename_i y
  refine Nx.blkAcc (m:=0) (sz:=2) .here F ?_
  refine aW (vs:=[_,_]) F ⟨F,F,trivial⟩ F a7 ⟨hle0.trans hle2,_,_,F,F⟩
 | some a =>
  obtain ⟨ts,hs,hki,hvo,hto,hwf⟩:=cV ha
  have cx_l4x:=nL (G:=G) (s:=s) (k:=k) (w:=w) ⟨h.1,h.2.1,h.2.2.1⟩ hs hki hvo
  cases hb : cW s k t with
  | none =>
   rw [pV (.inr hb)]
   refine bK [(0,_),(1,_),(2,_),(3,_)] Tryz.func7 kR Tryz.ntmps7 F F tU fun B hB hW=>?_
   repeat' (first | refine jR ?_ | (refine jo ?_;(refine ar F F F cx_l4x F ?_;rintro _ G hle ⟨av1,cv1,vs1,b1,rfl,hR1,hT1,hrep⟩;skip)))
   have hle0:=hle
   refine jo ?_
   refine ar F F F (lx ⟨h.1,h.2.1,h.2.2.2⟩ hb) F ?_
   rintro _ G2 hle2 ⟨u2,q2,rfl⟩
   repeat' (first | refine jR ?_ | (refine jo ?_;first | refine aE F ?_ | refine jF fun _=>?_) | refine aw F F F ?_ | refine ac F F ?_)
   rename_i y
   refine Nx.blkAcc (m:=0) (sz:=2) .here F ?_
   refine aW (vs:=[_,_]) F ⟨F,F,trivial⟩ F a7 ⟨hle0.trans hle2,_,_,F,F⟩
  | some b =>
   obtain ⟨ts',i1,_,hvb,htb,_⟩:=cV hb
   obtain rfl : ts = ts':=Option.some.inj (hs.symm.trans i1)
   have hw:=d9 hs
   have oa:=dq hvo
   have ob:=dq hvb
   obtain ⟨a1,a2,a3⟩:=eU hvo
   obtain ⟨b1,b2,b3⟩:=eU hvb
   have fa : a.deep ≤ 12 ∧ a.out.length ≤ 400:=⟨a3,by rw [a1];exact a2⟩
   have fb : b.deep ≤ 12 ∧ b.out.length ≤ 400:=⟨b3,by rw [b1];exact b2⟩
   have hlst:=vE hw 12 oa ob hki (Or.inl a3) (Or.inl b3)
   have hdl:=oP (n:=13) (q:=[]) (wa:=40000) (wb:=40000) hw oa ob hki (Or.inl hto) (Or.inl htb) oM
   have hin:=ll (n:=13) (q:=[]) hw oa ob hki fa fb (fun m hm=>by cases hm)
   have hcv : cA s k w t = if (dN ts k a b).length ≤ 30 ∧ (jl s k w (dN ts k a b)).isSome = true then some (dN ts k a b) else none:=by
    unfold cA
    rw [hs,ha,hb]
   have hdn : ∀ {z},jl s k w (dN ts k a b) = some z → z = t ∧ ∀ d ∈ bL ts 13 k a b [],d.1.length ≤ 8:=fun h=>rL hs ha hb h
   refine bK [(0,_),(1,_),(2,_),(3,_)] Tryz.func7 kR Tryz.ntmps7 F F tU fun B hB hW=>?_
   repeat' (first | refine jR ?_ | (refine jo ?_;(refine ar F F F cx_l4x F ?_;rintro _ G hle ⟨av1,cv1,vs1,b1,rfl,hR1,hT1,hrep⟩;skip)))
   have hle0:=hle
   subst hT1
   refine jo ?_
   refine ar F F F (nL ⟨h.1,h.2.1,h.2.2.2⟩ hs hki hvb) F ?_
   rintro _ G2 hle2 ⟨av2,cv2,vs2,b2',rfl,hR2,hT2,hrepb⟩
   have hR1:=hR1.mono hle2
   have hrep:=hrep.mono hle2
   repeat' (first | refine jR ?_ | (refine jo ?_;first | refine aE F ?_ | refine jF fun _=>?_) | refine aw F F F ?_ | refine ad F F ?_)
   rename_i y
   refine Nx.blkAcc (m:=0) (sz:=2) .here F ?_
   have hlof:=aal hw 13 hR1 hrep hrepb oa ob hki fa fb hlst (q:=[]) (fun n hn=>by cases hn) (by simp) (p0:=some ⟨y,0,none⟩) (m:=0) (cap:=0) (out:=[]) rfl oM
   refine jo ?_
   refine xg F F F hlof F ?_
   rintro _ G3 _ hle3 ⟨av,cv,rfl,rfl⟩
   dsimp only [zA,fA]
   rw [Nat.zero_add,← List.length_map (f:=cZ)]
   have hGa:=hle0.trans (hle2.trans hle3)
   have hxl : ∀ i,i < (dN (ag vs1) k a b).length → ab (dN (ag vs1) k a b) i = cZ (ab (bL (ag vs1) 13 k a b []) i):=fun i hi=>by
    unfold dN at hi ⊢
    rw [aI hi,aI (by simpa using hi)]
    simp
   have hml : (dN (ag vs1) k a b).length = (bL (ag vs1) 13 k a b []).length:=by unfold dN;simp
   have hCh : ∀ x ∈ dN (ag vs1) k a b,t8 x:=fun x hx=>by
    obtain ⟨c,hc,rfl⟩:=List.mem_map.1 hx
    have h1:=hin c hc
    have h2:=gt h1.1
    have h3:=h1.2.1
    simp only [List.length_nil,Nat.zero_add] at h3
    exact ⟨by unfold cZ;dsimp only;omega,by unfold cZ;dsimp only;omega⟩
   rw [show (bL (ag vs1) 13 k a b []).map cZ = dN (ag vs1) k a b from rfl]
   generalize hds : bL (ag vs1) 13 k a b [] = ds at *
   generalize hls : dN (ag vs1) k a b = l at *
   repeat' (refine jR ?_)
   refine aV (ι:=Nat × Gh) (fun i=>(i.1 ≤ l.length ∧ ∀ j,j < i.1 → (ab ds j).1.length ≤ 8) ∧ Gh.le G3 i.2) (fun i=>[(0,S s),(1,S k),(2,S w),(3,S t),(16,.slice av l.length cv),(17,I i.1)]) (fun i=>i.2) (fun i=>[.acc (.slice av l.length cv) mG 2 l.length (ah cY l)]) (fun i=>l.length - i.1) (0,G3) ?_ tU F a7 (fun i Hi=>?_)
   ·exact ⟨⟨Nat.zero_le _,fun j hj=>absurd hj (Nat.not_lt_zero _)⟩,Gh.le.refl _⟩
   obtain ⟨i,Gq⟩:=i
   dsimp only at Hi ⊢
   obtain ⟨⟨hi0,hj8⟩,hgq⟩:=Hi
   by_cases hi : i < l.length
   ·refine Nx.shp (.head _) fun hsh=>?_
    obtain ⟨bb0,cc0,e⟩:=hsh.pos oM
    simp only [Value.slice.injEq] at e
    obtain ⟨rfl,-,rfl⟩:=e
    have hpo:=rh (hin _ (bB (show i < ds.length by omega))).1
    have hCi:=hCh _ (bB hi)
    have hx1 : (ab l i).1 = cy (ab ds i).1:=by rw [hxl i hi];rfl
    by_cases h8 : (ab ds i).1.length ≤ 8
    ·rw [if_pos h8,← hx1] at hpo
     have cx_sp:=mJ hCi.1 hpo
     repeat' (first | refine jM ?_ | (refine jo ?_;first | refine jV (af F) ?_ | refine jV (ak F F oM) ?_ | refine jV (fk F F F oM F F) ?_ | (refine ar F F F (cx_sp _) F ?_;rintro _ G hle ⟨sa,sc,sn,rfl,hsp⟩;skip)) | refine ac F (ax oM) ?_ | refine ad F F ?_)
     exact bm (i + 1,_) ⟨⟨by dsimp only;omega,fun j hj=>by
      rcases Nat.lt_or_ge j i with h | h
      ·exact hj8 j h
      ·obtain rfl : j = i:=by dsimp only at hj;omega
       exact h8⟩,Gh.le.trans hgq aS⟩ (by dsimp only;omega) tU rfl a7
    ·rw [if_neg h8,← hx1] at hpo
     have cx_sp:=oA hCi.1 hpo
     have hno : cA s k w t = none:=by
      rw [hcv,if_neg]
      rintro ⟨_,h2⟩
      obtain ⟨z,hz⟩:=Option.isSome_iff_exists.1 h2
      exact h8 ((hdn hz).2 _ (bB (show i < ds.length by omega)))
     rw [hno]
     repeat' (first | refine jR ?_ | (refine jo ?_;first | refine jF fun _=>?_ | refine jV (af F) ?_ | refine jV (ak F F oM) ?_ | refine jV (fk F F F oM F F) ?_ | (refine ar F F F (cx_sp _) F ?_;rintro _ G hle ⟨sa,sc,sn,rfl,hsp⟩;skip)) | (refine ac F (by first | rfl | (refine decide_eq_true ?_;(omega))) ?_))
     rename_i z
     refine Nx.blkAcc (m:=0) (sz:=2) .here F ?_
     refine aW (vs:=[_,_]) F ⟨F,F,trivial⟩ F sB ⟨hGa.trans (hgq.trans hle),_,_,F,F⟩
   ·obtain rfl : i = l.length:=oM
    have cx_cdo:=rV (G:=Gq) (p:=av) (c:=cv) (T:=mG) (l:=l) ⟨h.1,h.2.1,h.2.2.1⟩ oM hCh
    unfold mA at cx_cdo
    have hGb:=hGa.trans hgq
    cases hz : jl s k w l with
    | none =>
     rw [hz] at cx_cdo hcv
     rw [if_neg (by simp)] at hcv
     rw [hcv]
     dsimp only [Option.getD,Option.isSome] at cx_cdo
     by_cases h30 : l.length ≤ 30
     ·repeat' (first | refine jR ?_ | (refine jo ?_;first | refine aP F ?_ | refine aE F ?_ | refine jF fun _=>?_ | refine jV (af F) ?_ | (refine gF F F F cx_cdo F ?_;rintro _ _ ⟨rfl,rfl⟩;dsimp only [zA,fA])) | refine aG F F F ?_ | refine aw F F (aF oM) ?_ | refine ac F F ?_ | refine ad F (aF oM) ?_)
      all_goals rename_i z
      all_goals refine Nx.blkAcc (m:=0) (sz:=2) .here F ?_
      all_goals refine aW (vs:=[_,_]) F ⟨F,F,trivial⟩ F sB ⟨hGb,_,_,F,F⟩
     ·repeat' (first | refine jR ?_ | (refine jo ?_;first | refine aP F ?_ | refine jF fun _=>?_ | refine jV (af F) ?_ | (refine gF F F F cx_cdo F ?_;rintro _ _ ⟨rfl,rfl⟩;dsimp only [zA,fA])) | (refine aG F F (by first | rfl | (refine decide_eq_true ?_;(omega))) ?_) | refine ac F F ?_ | refine ad F (aF oM) ?_)
      all_goals rename_i z
      all_goals refine Nx.blkAcc (m:=0) (sz:=2) .here F ?_
      all_goals refine aW (vs:=[_,_]) F ⟨F,F,trivial⟩ F sB ⟨hGb,_,_,F,F⟩
    | some z =>
     obtain ⟨rfl,_⟩:=hdn hz
     rw [hz] at cx_cdo hcv
     dsimp only [Option.getD,Option.isSome] at cx_cdo
     by_cases h30 : l.length ≤ 30
     ·rw [if_pos ⟨h30,rfl⟩] at hcv
      rw [hcv]
      repeat' (first | refine jR ?_ | (refine jo ?_;first | refine aE F ?_ | refine jV (af F) ?_ | (refine gF F F F cx_cdo F ?_;rintro _ _ ⟨rfl,rfl⟩;dsimp only [zA,fA])) | (refine aw F F (by first | rfl | (refine decide_eq_false ?_;(omega))) ?_) | (refine ad F ?_ ?_;(focus ((first | (refine decide_eq_false ?_;(omega)) | (simp [*];done));done))))
      all_goals refine aW (vs:=[_,_]) F ⟨F,F,trivial⟩ F a7 ⟨hGb,_,_,F,F⟩
     ·rw [if_neg (fun h=>h30 h.1)] at hcv
      rw [hcv]
      repeat' (first | refine jR ?_ | (refine jo ?_;first | refine aP F ?_ | refine jF fun _=>?_ | refine jV (af F) ?_ | (refine gF F F F cx_cdo F ?_;rintro _ _ ⟨rfl,rfl⟩;dsimp only [zA,fA])) | (refine aG F F (by first | rfl | (refine decide_eq_true ?_;(omega))) ?_) | refine ac F F ?_ | refine ad F (aF oM) ?_)
      all_goals rename_i z
      all_goals refine Nx.blkAcc (m:=0) (sz:=2) .here F ?_
      all_goals refine aW (vs:=[_,_]) F ⟨F,F,trivial⟩ F sB ⟨hGb,_,_,F,F⟩
abbrev dH : TypeId:=124
theorem yl {v : Value} {l : adB} (h : aT G v 1 l.length (cE l)) : dO adA 29 [v] G [] (fun v L'=>∃ b code l',v = Pt b 0 ∧ L' = [eN b code 0 dH] ∧ aT G code 1 l'.length (cE l') ∧ l'.length ≤ 2000):=by
 obtain ⟨h1,⟨rfl,h2⟩ | ⟨c,o,cap,rfl,h2,h3⟩⟩:=id h
 ·refine jH [(0,_)] Tryz.func29 Tryz.ntmps29 fun B hB hW=>?_
  repeat' (first | refine jR ?_ | (refine jo ?_;first | refine jV (af F) ?_ | refine jV (ay F F) ?_ | refine jO fun _=>?_) | refine ad F F ?_)
  refine aW (vs:=[_]) F ⟨F,trivial⟩ F (List.Sublist.refl _) ⟨F,_,_,[],F,F,⟨by simp [cE],.inl ⟨F,F⟩⟩,by simp⟩
 ·refine jH [(0,_)] Tryz.func29 Tryz.ntmps29 fun B hB hW=>?_
  repeat' (first | refine jR ?_ | (refine jo ?_;first | refine jV (af F) ?_ | refine jV (s5 F F oM) ?_ | refine jV (ay F F) ?_ | refine jO fun _=>?_) | refine eA F (fun _=>?_) (fun _=>?_))
  ·refine aW (vs:=[_]) F ⟨F,trivial⟩ F (List.Sublist.refl _) ⟨F,_,_,l.take 2000,F,F,?_,by simp;omega⟩
   have e : (l.take 2000).length = 2000:=by simp;omega
   rw [e]
   refine ⟨by simp [cE];omega,.inr ⟨c,o,cap,rfl,oM,?_⟩⟩
   have:=h3.take 2000
   simpa [cE] using this
  ·exact aW (vs:=[_]) F ⟨F,trivial⟩ F (List.Sublist.refl _) ⟨F,_,_,l,F,F,h,oM⟩
theorem dG {b : Nat} {code : Value} {p n : Int} {l : adB} (hp : 0 ≤ p ∧ p ≤ 1000000000000 ∧ n ≤ 1000000000000) (hs : aT G code 1 l.length (cE l)) :
  dO adA 38 [Pt b 0,I n] G [eN b code p dH] (fun v L'=>∃ k,v = I k ∧ L' = [eN b code (p + 1) dH] ∧ 0 ≤ k ∧ (k < n ∨ k = 0)):=by
 obtain ⟨h1,⟨rfl,h2⟩ | ⟨c,o,cap,rfl,h2,h3⟩⟩:=id hs
 ·refine jH [(0,_),(1,_)] Tryz.func38 Tryz.ntmps38 fun B hB hW=>?_
  repeat' (first | (refine run (t:=tb) 400 F ?_ ?_;(focus (repeat' (first | exact trivial | apply And.intro | omega)))) | (refine jo ?_;first | refine aB F ?_ | refine jD F F F ?_ | refine jV (af F) ?_ | refine aP F ?_ | refine aE F ?_) | refine fu F F (fun _=>?_) (fun _=>?_) | refine ac F F ?_)
  all_goals exact aW (vs:=[_]) F ⟨F,trivial⟩ F (List.Sublist.refl _) ⟨F,_,F,F,oM,oM⟩
 ·have b1:=mr l (p + 1 - 1).toNat
  have b2:=mr l ((p + 1 - 1) % (l.length : Int)).toNat
  have b3:=mr l (((p + 1 - 1) * 7 + 3) % (l.length : Int)).toNat
  have e1:=fun h=>Int.emod_nonneg (p + 1 - 1) (b:=(l.length : Int)) h
  have e2:=fun h=>Int.emod_lt_of_pos (p + 1 - 1) (b:=(l.length : Int)) h
  have e3:=fun h=>Int.emod_nonneg ((p + 1 - 1) * 7 + 3) (b:=(l.length : Int)) h
  have e4:=fun h=>Int.emod_lt_of_pos ((p + 1 - 1) * 7 + 3) (b:=(l.length : Int)) h
  have e5:=fun h=>Int.ediv_nonneg (a:=p + 1 - 1) (b:=(l.length : Int)) h oM
  have e6:=fun h=>Int.ediv_le_self (a:=p + 1 - 1) (l.length : Int) h
  refine jH [(0,_),(1,_)] Tryz.func38 Tryz.ntmps38 fun B hB hW=>?_
  repeat' (first | (refine run (t:=tb) 400 F ?_ ?_;(focus (repeat' (first | exact trivial | apply And.intro | omega)))) | (refine jo ?_;first | refine aB F ?_ | (refine jV (vK F aS ?_) ?_;focus omega) | refine jD F F F ?_ | refine jV (af F) ?_ | refine aP F ?_ | refine aE F ?_ | refine jV (aQ F F oM) ?_ | refine jV (aaY F F oM) ?_) | refine fu F F (fun _=>?_) (fun _=>?_) | refine ac F F ?_ | refine eA F (fun _=>?_) (fun _=>?_) | (refine an (ao (id:=7) _ (fun _ h=>h) am ?_);refine jU 24 [0,1,2,4,5,6,7,15,16,17,19,20,21,22,23,24,33,34,36,37,38,39] (aa 46 1056595214583) ?_ ?_;(focus (repeat' (first | exact trivial | apply And.intro | omega)));(refine jG (aa 46 1056595214591) 3 F (aX F F F) ?_);(refine jG (aa 46 1056595214847) 8 F (aX F F F) ?_);(refine jG (aa 46 1056595215359) 9 F (af F) ?_);refine jU 20 [10] (aa 46 1056595216383) ?_ ?_;(focus (repeat' (first | exact trivial | apply And.intro | omega)));(refine jG (aa 46 1056595218431) 11 F (aQ F F oM) ?_);((refine jG (aa 46 1056595222527) 12 F (vK F aS ?_) ?_;focus omega));refine jU 16 [13,14] (aa 46 1056595247103) ?_ ?_;(focus (repeat' (first | exact trivial | apply And.intro | omega)));(refine jG (aa 46 1056595509247) 18 F (aX F F F) ?_);(refine jG (aa 46 1056629063679) 25 F (aX F F F) ?_);(refine jG (aa 46 1056696172543) 26 F (af F) ?_);refine jU 12 [27] (aa 46 1056830390271) ?_ ?_;(focus (repeat' (first | exact trivial | apply And.intro | omega)));(refine jG (aa 46 1057098825727) 28 F (aQ F F oM) ?_);((refine jG (aa 46 1057635696639) 29 F (vK F aS ?_) ?_;focus omega));refine jU 6 [30,31,32,35] (aa 46 1099511627775) ?_ ?_;(focus (repeat' (first | exact trivial | apply And.intro | omega)));(refine jG (aa 46 2199023255551) 40 F (aX F F F) ?_);(refine jG (aa 46 4398046511103) 41 F (af F) ?_);refine jU 0 [42,43,44,45] (aa 46 70368744177663) ?_ ?_;(focus (repeat' (first | exact trivial | apply And.intro | omega)));refine jQ ?_))
  all_goals (first | exact aW (vs:=[_]) F ⟨F,trivial⟩ F (List.Sublist.refl _) ⟨F,_,F,F,oM,oM⟩ | exact aW (vs:=[_]) F ⟨F,trivial⟩ F (List.Sublist.refl _) ⟨F,_,F,F,Int.emod_nonneg _ oM,.inl (Int.emod_lt_of_pos _ oM)⟩ | exact yY _ _)
theorem rN {r : Nat} {code : Value} {p : Int} {l : adB} (hp : 0 ≤ p ∧ p ≤ 900000000000) (hs : aT G code 1 l.length (cE l)) :
  dO adA 71 [Pt r 0] G [eN r code p dH] (fun v L'=>∃ x q,v = S x ∧ x.length ≤ 400 ∧ L' = [eN r code q dH] ∧ p ≤ q ∧ q ≤ p + 10):=by
 refine jH [(0,_)] Tryz.func71 Tryz.ntmps71 fun B hB hW=>?_
 repeat' (first | refine jR ?_ | (refine jo ?_;first | refine jF fun _=>?_ | refine jV (aQ F F oM) ?_ | (refine gC 64 F F F ?_ F (fun xs hxs=>?_);(focus ((simp only [List.length_append,List.length_cons,List.length_nil,List.length_take];omega);done))) | (refine aL F F F (dG ?_ (by (repeat (assumption));done)) rfl ?_;(focus omega);rintro _ _ ⟨k,rfl,rfl,hk0,hk1⟩;dsimp only [zA,fA])))
 refine aV (ι:=adB × Int × Int) (fun j=>(0 ≤ j.2.1 ∧ j.2.1 ≤ 3) ∧ ((j.1.length : Nat) : Int) ≤ 64 * (4 - j.2.1) ∧ p ≤ j.2.2 ∧ j.2.2 ≤ p + 5 - j.2.1) (fun j=>[(0,Pt r 0),(3,S j.1),(4,I j.2.1)]) (fun _=>G) (fun j=>[eN r code j.2.2 dH]) (fun j=>j.2.1.toNat) (xs,k,p + 1 + 1) ?_ tU F sB (fun j Hj=>?_)
 ·dsimp only;omega
 obtain ⟨s,kk,q⟩:=j
 dsimp only at Hj ⊢
 obtain ⟨hk,hsl,hq0,hq1⟩:=Hj
 by_cases h1 : 1 < kk
 ·repeat' (first | refine jM ?_ | (refine jo ?_;first | refine jF fun _=>?_ | refine jV (aQ F F oM) ?_ | (refine gC 64 F F F ?_ F (fun xs hxs=>?_);(focus ((simp only [List.length_append,List.length_cons,List.length_nil,List.length_take];omega);done))) | (refine aL F F F (dG ?_ (by (repeat (assumption));done)) rfl ?_;(focus omega);rintro _ _ ⟨k,rfl,rfl,hk0,hk1⟩;dsimp only [zA,fA])) | refine ac F (ax ‹_›) ?_)
  exact bm (xs ++ s,kk - 1,q + 1) (by dsimp only;rw [List.length_append];omega) (by dsimp only;omega) tU rfl sB
 ·repeat' (first | refine jR ?_ | (refine jo ?_;first | refine jF fun _=>?_ | refine jV (aQ F F oM) ?_ | (refine gC 64 F F F ?_ F (fun xs hxs=>?_);(focus ((simp only [List.length_append,List.length_cons,List.length_nil,List.length_take];omega);done))) | (refine aL F F F (dG ?_ (by (repeat (assumption));done)) rfl ?_;(focus omega);rintro _ _ ⟨k,rfl,rfl,hk0,hk1⟩;dsimp only [zA,fA])) | refine ad F (aF ‹_›) ?_ | refine eA F (fun _=>?_) (fun _=>?_))
  all_goals exact aW (vs:=[_]) F ⟨F,trivial⟩ F sB ⟨F,_,_,F,oM,F,oM,oM⟩
theorem w6 {r : Nat} {code : Value} {p : Int} {l : adB} (hp : 0 ≤ p ∧ p ≤ 900000000000) (hs : aT G code 1 l.length (cE l)) :
  dO adA 116 [Pt r 0] G [eN r code p dH] (fun v L'=>∃ x q,v = S (39 :: (x ++ [39])) ∧ x.length ≤ 64 ∧ L' = [eN r code q dH] ∧ p ≤ q ∧ q ≤ p + 10):=by
 refine jH [(0,_)] Tryz.func116 Tryz.ntmps116 fun B hB hW=>?_
 repeat' (first | refine jX ?_ | (refine jo ?_;first | refine jF fun _=>?_ | refine jV (aQ F F oM) ?_ | (refine gC 64 F F F ?_ F (fun xs hxs=>?_);(focus ((simp only [List.length_append,List.length_cons,List.length_nil,List.length_take];omega);done))) | (refine aL F F F (dG ?_ (by (repeat (assumption));done)) rfl ?_;(focus omega);rintro _ _ ⟨k,rfl,rfl,hk0,hk1⟩;dsimp only [zA,fA])))
 exact aW (vs:=[_]) F ⟨F,trivial⟩ F sB ⟨F,xs,_,F,oM,F,oM,oM⟩
theorem vX {r : Nat} {code : Value} {p tag : Int} {l so nm : adB} (hp : 0 ≤ p ∧ p ≤ 800000000000) (hs : aT G code 1 l.length (cE l)) (ht : 0 ≤ tag ∧ tag ≤ 1000000) (hnm : nm.length ≤ 100) :
  dO adA 115 [Pt r 0,S so,I tag,S nm] G [eN r code p dH] (fun v L'=>∃ x q,v = S x ∧ x.length ≤ 1000 ∧ L' = [eN r code q dH] ∧ p ≤ q ∧ q ≤ p + 20):=by
 have hdl:=gz (n:=tag) oM
 refine jH [(0,_),(1,_),(2,_),(3,_)] Tryz.func115 Tryz.ntmps115 fun B hB hW=>?_
 repeat' (first | refine jX ?_ | (refine jo ?_;first | refine aP F ?_ | refine aE F ?_ | refine jF fun _=>?_ | refine jV (aQ F F oM) ?_ | (refine gC 64 F F F ?_ F (fun xs hxs=>?_);(focus ((simp only [List.length_append,List.length_cons,List.length_nil,List.length_take];omega);done))) | refine ae F F F (fQ oM) F ?_ | (refine aL F F F (rN ?_ (by (repeat (assumption));done)) rfl ?_;(focus omega);rintro _ _ ⟨kd,q1,rfl,hkd,rfl,hq1,hq2⟩;dsimp only [zA,fA]) | (refine aL F F F (dG ?_ (by (repeat (assumption));done)) rfl ?_;(focus omega);rintro _ _ ⟨k,rfl,rfl,hk0,hk1⟩;dsimp only [zA,fA])) | refine fu F F (fun _=>?_) (fun _=>?_) | refine ad F F ?_ | refine eA F (fun _=>?_) (fun _=>?_))
 all_goals exact aW (vs:=[_]) F ⟨F,trivial⟩ F sB ⟨F,_,_,F,by simp only [List.length_append,List.length_cons,List.length_nil];omega,rfl,oM,oM⟩
theorem w5 {r : Nat} {code : Value} {p : Int} {l so nm : adB} (hp : 0 ≤ p ∧ p ≤ 700000000000) (hs : aT G code 1 l.length (cE l)) (hso : so.length ≤ 64) (hnm : nm.length ≤ 64) :
  dO adA 69 [Pt r 0,S so,S nm] G [eN r code p dH] (fun v L'=>∃ x q,v = S x ∧ x.length ≤ 6000 ∧ 1 ≤ x.length ∧ L' = [eN r code q dH] ∧ p ≤ q ∧ q ≤ p + 200):=by
 refine jH [(0,_),(1,_),(2,_)] Tryz.func69 Tryz.ntmps69 fun B hB hW=>?_
 repeat' (first | refine jX ?_ | (refine jo ?_;first | refine aP F ?_ | refine aE F ?_ | (refine aL F F F (dG ?_ (by (repeat (assumption));done)) rfl ?_;(focus omega);rintro _ _ ⟨k,rfl,rfl,hk0,hk1⟩;dsimp only [zA,fA])) | refine fu F F (fun _=>?_) (fun _=>?_) | refine ad F F ?_ | refine eA F (fun _=>?_) (fun _=>?_))
 all_goals
  have cx_pk2 : ∀ {p : Int},0 ≤ p ∧ p ≤ 1000000000000 → dO adA 38 [Pt r 0,I 2] G [eN r code p dH] (fun v L'=>L' = [eN r code (p + 1) dH] ∧ (v = I 0 ∨ v = I 1)):=fun {p} hp=>(dG (b:=r) (p:=p) (n:=2) ⟨hp.1,hp.2,by decide⟩ hs).mono fun v G' L' ⟨h1,k,h2,h3,h4,h5⟩=>⟨h1,h3,by subst h2;rcases (show k = 0 ∨ k = 1 by omega) with rfl | rfl;exact .inl F;exact .inr F⟩
  refine aV (ι:=adB × Int × Int × Int × Int) (fun j=>(0 ≤ j.2.2.1 ∧ j.2.2.1 ≤ j.2.2.2.1 ∧ j.2.2.2.1 ≤ 4) ∧ (0 ≤ j.2.1 ∧ j.2.1 ≤ 10 * j.2.2.1) ∧ (1 ≤ j.1.length ∧ ((j.1.length : Nat) : Int) ≤ 200 + 1001 * j.2.2.1) ∧ p ≤ j.2.2.2.2 ∧ j.2.2.2.2 ≤ p + 4 + 30 * j.2.2.1) (fun j=>[(0,Pt r 0),(1,S so),(7,S j.1),(8,I j.2.1),(9,I j.2.2.2.1),(10,I j.2.2.1)]) (fun _=>G) (fun j=>[eN r code j.2.2.2.2 dH]) (fun j=>(j.2.2.2.1 - j.2.2.1).toNat) (so ++ nm ++ [61],0,0,_,_) ?_ tU F a7 (fun j Hj=>?_)
  ·dsimp only;simp only [List.length_append,List.length_cons,List.length_nil];omega
  obtain ⟨s,tag,kk,n,q⟩:=j
  dsimp only at Hj ⊢
  obtain ⟨hk,htg,hsl,hq0,hq1⟩:=Hj
  by_cases h1 : kk < n
  ·repeat' (first | refine jX ?_ | (refine jo ?_;first | refine jF fun _=>?_ | refine jV (gU F F (by (repeat (first | exact BL.nil | apply BL.cons));done)) ?_ | (refine aL F F F (cx_pk2 oM) F ?_;rintro _ _ ⟨rfl,rfl | rfl⟩ <;> dsimp only [zA,fA]) | (refine aL F F F (dG ?_ (by (repeat (assumption));done)) rfl ?_;(focus omega);rintro _ _ ⟨k,rfl,rfl,hk0,hk1⟩;dsimp only [zA,fA]) | (refine aL F F F (vX ?_ (by (repeat (assumption));done) ?_ ?_) rfl ?_;(focus omega);(focus omega);(focus ((simp;done);done));rintro _ _ ⟨fd,q1,rfl,hfd,rfl,hq1,hq2⟩;dsimp only [zA,fA])) | refine ac F (ax ‹_›) ?_ | refine eA F (fun _=>?_) (fun _=>?_))
   all_goals (refine bm (_,_,kk + 1,n,_) ?_ ?_ tU F sB)
   all_goals (first | (dsimp only;simp only [List.length_append,List.length_cons,List.length_nil];omega) | (dsimp only;omega))
  ·repeat' (first | refine jX ?_ | refine ad F (aF ‹_›) ?_)
   exact aW (vs:=[_]) F ⟨F,trivial⟩ F a7 ⟨F,_,_,F,by simp only [List.length_append,List.length_cons,List.length_nil];omega,by simp only [List.length_append,List.length_cons,List.length_nil];omega,rfl,oM,oM⟩
def fD (u : Value) (vs : List cD) (k : adB) (deep cp : Int) (ct : Nat) : Prop:=∀ (G : Gh) (r : Nat) (code : Value) (p : Int) (l : adB),SchR G u vs → aT G code 1 l.length (cE l) → 0 ≤ p ∧ p + cp ≤ 600000000000 →
 ff adA 72 [Pt r 0,u,S k,I deep] G [eN r code p dH] (fun v G' L'=>∃ w b q,v = Pt b 0 ∧ RepR G' (ag vs) w k b ∧ w.tot ≤ ct ∧ 1 ≤ w.out.length ∧ L' = [eN r code q dH] ∧ p ≤ q ∧ q ≤ p + cp)
theorem fD.le {u : Value} {vs : List cD} {k : adB} {deep cp cp' : Int} {ct ct' : Nat} (h : fD u vs k deep cp ct) (h1 : cp ≤ cp') (h2 : ct ≤ ct') : fD u vs k deep cp' ct':=fun G r code p l h3 h4 h5 =>
 (h G r code p l h3 h4 ⟨h5.1,oM⟩).mono fun _ _ _ ⟨h6,w,b,q,h7,h8,h9,h10,h11,h12,h13⟩=>⟨h6,w,b,q,h7,h8,oM,h10,h11,h12,oM⟩
theorem qG {u : Value} {vs : List cD} {deep : Int} : fD u vs [102] deep 15 200:=by
 intro G r code p l hR hs hp
 have cx_pk2 : ∀ {p : Int},0 ≤ p ∧ p ≤ 1000000000000 → dO adA 38 [Pt r 0,I 2] G [eN r code p dH] (fun v L'=>L' = [eN r code (p + 1) dH] ∧ (v = I 0 ∨ v = I 1)):=fun {p} hp=>(dG (b:=r) (p:=p) (n:=2) ⟨hp.1,hp.2,by decide⟩ hs).mono fun v G' L' ⟨h1,k,h2,h3,h4,h5⟩=>⟨h1,h3,by subst h2;rcases (show k = 0 ∨ k = 1 by omega) with rfl | rfl;exact .inl F;exact .inr F⟩
 refine bK [(0,_),(1,_),(2,_),(3,_)] Tryz.func72 kR Tryz.ntmps72 F F tU fun B hB hW=>?_
 repeat' (first | refine jX ?_ | (refine jo ?_;first | refine jV (ay F F) ?_ | refine jO fun _=>?_ | refine jF fun _=>?_ | refine jV (aQ F F oM) ?_ | refine aB F ?_ | refine jD F F F ?_ | (refine aL F F F (cx_pk2 oM) F ?_;rintro _ _ ⟨rfl,rfl | rfl⟩ <;> dsimp only [zA,fA])) | refine ac F F ?_ | refine ad F F ?_)
 all_goals rename_i y _
 all_goals refine Nx.sealC (b:=y) fun G2 hG2 hsy=>?_
 ·exact aW (vs:=[_]) F ⟨F,trivial⟩ F sB ⟨hG2,.nd 102 [121,101,115] 0 [],y,_,F,.leaf 102 _ _ _ y hsy (.inr (.inr ⟨F,F,F,.inl F⟩)),by simp [bI,V.tots],by rw [V.out];simp [c5],rfl,oM,oM⟩
 ·exact aW (vs:=[_]) F ⟨F,trivial⟩ F sB ⟨hG2,.nd 102 [110,111] 0 [],y,_,F,.leaf 102 _ _ _ y hsy (.inr (.inr ⟨F,F,F,.inr F⟩)),by simp [bI,V.tots],by rw [V.out];simp [c5],rfl,oM,oM⟩
abbrev vq : TypeId:=47
theorem abv {m : Int} (h : 0 ≤ m) : ∀ c ∈ be m,br c = true:=(ig m.toNat (Nat.le_refl _) h).2
theorem tp {u : Value} {vs : List cD} {deep : Int} : fD u vs [110] deep 15 200:=by
 intro G r code p l hR hs hp
 refine bK [(0,_),(1,_),(2,_),(3,_)] Tryz.func72 kR Tryz.ntmps72 F F tU fun B hB hW=>?_
 repeat' (first | refine jX ?_ | (refine jo ?_;first | refine jV (ay F F) ?_ | refine jO fun _=>?_ | refine jF fun _=>?_ | refine jV (aQ F F oM) ?_ | (refine abP 999999 F F F ?_ ?_ (fun iz hz0 hz1=>?_);(focus ((simp only [List.length_append,List.length_cons,List.length_nil,List.length_take];omega);done));(focus ((repeat' (first | exact vI | refine uf ⟨oM,oM⟩ ?_));done))) | refine jD F F F ?_ | (refine aL F F F (dG ?_ (by (repeat (assumption));done)) rfl ?_;(focus omega);rintro _ _ ⟨k,rfl,rfl,hk0,hk1⟩;dsimp only [zA,fA]) | refine ae F F F (fQ oM) F ?_) | refine ac F F ?_)
 rename_i y _ _ _ _
 have hdl:=gz (n:=iz) oM
 have hdp:=gy iz
 refine Nx.sealC (b:=y) fun G2 hG2 hsy=>?_
 exact aW (vs:=[_]) F ⟨F,trivial⟩ F sB ⟨hG2,.nd 110 (be iz) 0 [],y,_,F,.leaf 110 _ _ _ y hsy (.inl ⟨F,F,F,abv hz0⟩),by rw [bI,V.tots];omega,by rw [V.out];exact hdp,F,oM,oM⟩
theorem tl {u : Value} {vs : List cD} {deep : Int} : fD u vs [116] deep 15 200:=by
 intro G r code p l hR hs hp
 refine bK [(0,_),(1,_),(2,_),(3,_)] Tryz.func72 kR Tryz.ntmps72 F F tU fun B hB hW=>?_
 repeat' (first | refine jX ?_ | (refine jo ?_;first | refine jV (ay F F) ?_ | refine jO fun _=>?_ | refine jD F F F ?_ | (refine aL F F F (w6 ?_ (by (repeat (assumption));done)) rfl ?_;(focus omega);rintro _ _ ⟨tx,q1,rfl,htx,rfl,hq1,hq2⟩;dsimp only [zA,fA])) | refine ac F F ?_ | refine ad F F ?_)
 rename_i y
 refine Nx.sealC (b:=y) fun G2 hG2 hsy=>?_
 exact aW (vs:=[_]) F ⟨F,trivial⟩ F a7 ⟨hG2,.nd 116 tx 0 [],y,_,F,.leaf 116 _ _ _ y hsy (.inr (.inl ⟨F,F,F⟩)),by rw [bI,V.tots];omega,by rw [V.out];simp [c5],rfl,oM,oM⟩
theorem vB {ts : List Ty} {k : adB} {ks : List V} {bs : List Nat} {w : V} {b : Nat} (hl : bs.length = ks.length) (h : ∀ i,i < ks.length → RepR G ts (ab ks i) k (ab bs i)) (hw : RepR G ts w k b) : ∀ i,i < (ks ++ [w]).length → RepR G ts (ab (ks ++ [w]) i) k (ab (bs ++ [b]) i):=fun i hi=>by
 by_cases h1 : i < ks.length
 ·have e1 : ab (ks ++ [w]) i = ab ks i:=by rw [aI hi,aI h1,List.getElem_append_left h1]
  have e2 : ab (bs ++ [b]) i = ab bs i:=by rw [aI (by simp;omega),aI oM,List.getElem_append_left oM]
  rw [e1,e2];exact h i h1
 ·have h2 : i = ks.length:=by simp at hi;omega
  have e1 : ab (ks ++ [w]) i = w:=by rw [aI hi];simp [h2]
  have e2 : ab (bs ++ [b]) i = b:=by rw [aI (by simp;omega)];simp [h2,hl]
  rw [e1,e2];exact hw
theorem qF {u : Value} {vs : List cD} {kd : adB} {deep cp : Int} {ct : Nat} (hcp : 0 ≤ cp ∧ cp ≤ 100000000) (hct : ct ≤ 100000000) (hD : 0 < deep → fD u vs kd (deep - 1) cp ct) (hu : u.oneCell' = true) (hkl : kd.length ≤ 1000) (hd : -1000 ≤ deep ∧ deep ≤ 1000) : fD u vs (91 :: kd) deep (3 * cp + 10) (3 * ct + 200):=by
 intro G r code p l hR hs hp
 have hkd0 : bt (91 :: kd) (Int.toNat 0) = 91:=bD 91 kd
 have hkl2 : (91 :: kd).length = kd.length + 1:=rfl
 refine bK [(0,_),(1,_),(2,_),(3,_)] Tryz.func72 kR Tryz.ntmps72 F F tU fun B hB hW=>?_
 repeat' (first | refine jM ?_ | (refine jo ?_;first | refine jV (ay F F) ?_ | refine jO fun _=>?_ | (refine aL F F F (dG ?_ (by (repeat (assumption));done)) rfl ?_;(focus omega);rintro _ _ ⟨k,rfl,rfl,hk0,hk1⟩;dsimp only [zA,fA])) | refine ac F F ?_ | refine ad F F ?_)
 rename_i y
 refine Nx.addNil vq 1 ?_
 refine aV (ι:=List V × List Nat × Option Addr × Nat × Int × Int × Gh) (fun j=>((j.2.1.length = j.1.length ∧ ∀ i,i < j.1.length → RepR j.2.2.2.2.2.2 (ag vs) (ab j.1 i) kd (ab j.2.1 i)) ∧ Gh.le G j.2.2.2.2.2.2) ∧ (0 ≤ j.2.2.2.2.1 ∧ ((j.1.length : Nat) : Int) + j.2.2.2.2.1 ≤ 3) ∧ V.tots j.1 ≤ ct * j.1.length ∧ p ≤ j.2.2.2.2.2.1 ∧ j.2.2.2.2.2.1 ≤ p + 1 + cp * ((j.1.length : Nat) : Int)) (fun j=>[(0,Pt r 0),(1,u),(2,S (91 :: kd)),(3,I deep),(9,Pt y 0),(10,I j.2.2.2.2.1)]) (fun j=>j.2.2.2.2.2.2) (fun j=>[.acc (.slice j.2.2.1 j.1.length j.2.2.2.1) vq 1 j.1.length (ah dD j.2.1),eN r code j.2.2.2.2.2.1 dH,.blk y (.cells (List.toArray [S (91 :: kd),S [],aK,.slice j.2.2.1 j.1.length j.2.2.2.1]) nQ (0,0))]) (fun j=>j.2.2.2.2.1.toNat) ([],[],none,0,k,p + 1,G) ?_ tU F a7 (fun j Hj=>?_)
 ·refine ⟨⟨⟨F,fun i hi=>absurd hi (by simp)⟩,Gh.le.refl _⟩,?_,?_,?_,?_⟩
  ·dsimp only;simp only [List.length_nil];omega
  ·simp [V.tots]
  ·dsimp only;omega
  ·dsimp only;simp
 obtain ⟨ks,bs,a,c,kk,q,Gq⟩:=j
 dsimp only at Hj ⊢
 obtain ⟨⟨⟨hbl,hreps⟩,hgq⟩,hk,htt,hq0,hq1⟩:=Hj
 have hcl : cp * ((ks.length : Nat) : Int) ≤ cp * 3:=Int.mul_le_mul_of_nonneg_left oM hcp.1
 have hcl0 : 0 ≤ cp * ((ks.length : Nat) : Int):=Int.mul_nonneg hcp.1 oM
 have htl : ct * ks.length ≤ ct * 3:=Nat.mul_le_mul_left _ oM
 by_cases hgo : 0 < kk ∧ 0 < deep
 ·obtain ⟨hk0,hd0⟩:=hgo
  have hcl3 : cp * ((ks.length : Nat) : Int) + cp ≤ cp * 3:=by
   have:=Int.mul_le_mul_of_nonneg_left (show ((ks.length : Nat) : Int) + 1 ≤ 3 by omega) hcp.1
   rwa [Int.mul_add,Int.mul_one] at this
  have cx_dv:=fun {p : Int} (hp : 0 ≤ p ∧ p + cp ≤ 600000000000)=>hD hd0 Gq r code p l (hR.mono hgq) (hs.mono hgq) hp
  repeat' (first | refine jR ?_ | (refine jo ?_;refine aP F ?_) | refine aG F F (ax ‹_›) ?_ | refine ac F (ax ‹_›) ?_)
  (refine an (ao (id:=16) [] (fun _ h=>absurd h (by simp)) am ?_);refine jW 7 [0,1,2,3,5,6,7,8,9,10] (aa 17 2031) ?_;refine b7 [4,11] kR dC ⟨?_,?_,trivial⟩;(focus (refine aM F F ?_;(refine aB F ?_);refine jK (aa 17 2047) ?_;refine jA 11 F ?_;((refine eI F F F (cx_dv ?_) F ?_;(focus omega);rintro _ G1 _ hle ⟨w1,b1,q1,rfl,hrep,htot,hone,rfl,hq1,hq2⟩;dsimp only [zA,fA];skip));refine jK (aa 17 4095) ?_;refine jA 12 F ?_;(refine jF fun _=>?_);refine jK (aa 17 8191) ?_;refine jA 13 F ?_;((refine bC F F F F F F F F F ?_ fun _ _=>?_;focus omega));refine jK (aa 17 16383) ?_;refine jW 1 [14,15] (aa 17 65535) ?_;refine jA 16 F ?_;(refine jD F F F ?_);refine jK (aa 17 131071) ?_;refine jQ ?_));rotate_left 1;(focus (refine aM F F ?_;((refine eI F F F (cx_dv ?_) F ?_;(focus omega);rintro _ G1 _ hle ⟨w1,b1,q1,rfl,hrep,htot,hone,rfl,hq1,hq2⟩;dsimp only [zA,fA];skip));refine jK (aa 17 4079) ?_;refine b7 [4,12] kR dC ⟨?_,?_,trivial⟩;(focus (refine aM F F ?_;(refine aB F ?_);refine jK (aa 17 4095) ?_;refine jA 12 F ?_;(refine jF fun _=>?_);refine jK (aa 17 8191) ?_;refine jA 13 F ?_;((refine bC F F F F F F F F F ?_ fun _ _=>?_;focus omega));refine jK (aa 17 16383) ?_;refine jW 1 [14,15] (aa 17 65535) ?_;refine jA 16 F ?_;(refine jD F F F ?_);refine jK (aa 17 131071) ?_;refine jQ ?_));rotate_left 1;(focus (refine aM F F ?_;(refine jF fun _=>?_);refine jK (aa 17 8175) ?_;refine jA 4 F ?_;(refine aB F ?_);refine jK (aa 17 8191) ?_;refine jA 13 F ?_;((refine bC F F F F F F F F F ?_ fun _ _=>?_;focus omega));refine jK (aa 17 16383) ?_;refine jW 1 [14,15] (aa 17 65535) ?_;refine jA 16 F ?_;(refine jD F F F ?_);refine jK (aa 17 131071) ?_;refine jQ ?_));rotate_left 1));rotate_left 2)
  all_goals repeat' (refine jM ?_)
  all_goals
   rename_i _ y1 yc
   have hl1 : (ks ++ [w1]).length = ks.length + 1:=by simp
   have hms : ct * (ks.length + 1) = ct * ks.length + ct:=Nat.mul_succ _ _
   have hts : V.tots (ks ++ [w1]) = V.tots ks + w1.tot:=by simp [fE,V.tots]
   rw [show ah dD bs ++ [Pt b1 0] = ah dD (bs ++ [b1]) from (bW dD bs b1).symm]
   exact bm (ks ++ [w1],bs ++ [b1],some ⟨y1,0,none⟩,yc,kk - 1,q1,G1) ⟨⟨⟨by simp [hbl],vB hbl (fun i hi=>(hreps i hi).mono hle) hrep⟩,hgq.trans hle⟩,by dsimp only;rw [hl1];omega,by dsimp only;rw [hl1,hms,hts];omega,by dsimp only;omega,by dsimp only;rw [hl1,Int.natCast_succ,Int.mul_add,Int.mul_one];omega⟩ (by dsimp only;omega) tU rfl (by rw [hl1];repeat (first | exact List.Sublist.refl _ | apply List.Sublist.cons_cons | apply List.Sublist.cons))
 ·have : kk = 0 ∨ deep ≤ 0:=oM
  repeat' (first | refine jR ?_ | (refine jo ?_;first | refine aP F ?_ | refine aE F ?_) | refine fu F F (fun _=>?_) (fun _=>?_) | (refine ad F (by first | rfl | (refine decide_eq_false ?_;(omega))) ?_))
  all_goals
   refine Nx.sealS (v:=.slice a ks.length c) fun G2 hG2 hsl=>?_
   refine Nx.sealC (b:=y) fun G3 hG3 hsg=>?_
   exact aW (vs:=[_]) F ⟨F,trivial⟩ F a7 ⟨hgq.trans (hG2.trans hG3),.nd 91 [] 0 ks,y,q,F,.lst kd y ks bs a c hsg (hsl.mono hG3) hbl (fun i hi=>(hreps i hi).mono (hG2.trans hG3)),by rw [bI];simp only [List.length_nil];omega,by rw [V.out];simp [c5],rfl,oM,oM⟩
theorem tm {u : Value} {vs : List cD} {kd : adB} {deep cp : Int} {ct : Nat} (hcp : 0 ≤ cp ∧ cp ≤ 100000000) (hct : ct ≤ 100000000) (hD : 0 < deep → fD u vs kd (deep - 1) cp ct) (hu : u.oneCell' = true) (hkl : kd.length ≤ 1000) (hd : -1000 ≤ deep ∧ deep ≤ 1000) : fD u vs (63 :: kd) deep (cp + 10) (ct + 200):=by
 intro G r code p l hR hs hp
 have hkd0 : bt (63 :: kd) (Int.toNat 0) = 63:=bD 63 kd
 have hkl2 : (63 :: kd).length = kd.length + 1:=rfl
 by_cases h0 : 0 < deep
 ·have cx_dv:=fun {p : Int} (hp : 0 ≤ p ∧ p + cp ≤ 600000000000)=>hD h0 G r code p l hR hs hp
  refine bK [(0,_),(1,_),(2,_),(3,_)] Tryz.func72 kR Tryz.ntmps72 F F tU fun B hB hW=>?_
  repeat' (first | refine jM ?_ | (refine jo ?_;first | refine jV (ay F F) ?_ | refine jO fun _=>?_ | refine aP F ?_ | (refine aL F F F (dG ?_ (by (repeat (assumption));done)) rfl ?_;(focus omega);rintro _ _ ⟨k,rfl,rfl,hk0,hk1⟩;dsimp only [zA,fA])) | refine aG F F (ax ‹_›) ?_ | refine ac F F ?_ | refine ad F F ?_ | refine eA F (fun _=>?_) (fun _=>?_))
  ·refine Nx.addNil vq 1 ?_
   (refine an (ao (id:=20) [] (fun _ h=>absurd h (by simp)) am ?_);refine jW 7 [0,1,2,3,5,6,7,8,9,10] (aa 17 2031) ?_;refine b7 [4,11] kR dC ⟨?_,?_,trivial⟩;(focus (refine aM F F ?_;(refine aB F ?_);refine jK (aa 17 2047) ?_;refine jA 11 F ?_;((refine eI F F F (cx_dv ?_) F ?_;(focus omega);rintro _ G1 _ hle ⟨w1,b1,q1,rfl,hrep,htot,hone,rfl,hq1,hq2⟩;dsimp only [zA,fA];skip));refine jK (aa 17 4095) ?_;refine jA 12 F ?_;(refine jF fun _=>?_);refine jK (aa 17 8191) ?_;refine jA 13 F ?_;((refine bC F F F F F F F F F ?_ fun _ _=>?_;focus omega));refine jK (aa 17 16383) ?_;refine jW 1 [14,15] (aa 17 65535) ?_;refine jA 16 F ?_;(refine jD F F F ?_);refine jK (aa 17 131071) ?_;refine jQ ?_));rotate_left 1;(focus (refine aM F F ?_;((refine eI F F F (cx_dv ?_) F ?_;(focus omega);rintro _ G1 _ hle ⟨w1,b1,q1,rfl,hrep,htot,hone,rfl,hq1,hq2⟩;dsimp only [zA,fA];skip));refine jK (aa 17 4079) ?_;refine b7 [4,12] kR dC ⟨?_,?_,trivial⟩;(focus (refine aM F F ?_;(refine aB F ?_);refine jK (aa 17 4095) ?_;refine jA 12 F ?_;(refine jF fun _=>?_);refine jK (aa 17 8191) ?_;refine jA 13 F ?_;((refine bC F F F F F F F F F ?_ fun _ _=>?_;focus omega));refine jK (aa 17 16383) ?_;refine jW 1 [14,15] (aa 17 65535) ?_;refine jA 16 F ?_;(refine jD F F F ?_);refine jK (aa 17 131071) ?_;refine jQ ?_));rotate_left 1;(focus (refine aM F F ?_;(refine jF fun _=>?_);refine jK (aa 17 8175) ?_;refine jA 4 F ?_;(refine aB F ?_);refine jK (aa 17 8191) ?_;refine jA 13 F ?_;((refine bC F F F F F F F F F ?_ fun _ _=>?_;focus omega));refine jK (aa 17 16383) ?_;refine jW 1 [14,15] (aa 17 65535) ?_;refine jA 16 F ?_;(refine jD F F F ?_);refine jK (aa 17 131071) ?_;refine jQ ?_));rotate_left 1));rotate_left 2)
   all_goals repeat' (refine jR ?_)
   all_goals
    rename_i y _ _ y1 yc
    refine Nx.sealS (v:=.slice (some ⟨y1,0,none⟩) (0 + 1) yc) fun G2 hG2 hsl=>?_
    refine Nx.sealC (b:=y) fun G3 hG3 hsg=>?_
    obtain ⟨_,⟨h,_⟩ | ⟨b2,o2,c2,e,hc2,hs2⟩⟩:=hsl
    ·cases h
    simp only [Value.slice.injEq,Option.some.injEq,Addr.mk.injEq,and_true] at e
    obtain ⟨⟨rfl,rfl⟩,-,rfl⟩:=e
    exact aW (vs:=[_]) F ⟨F,trivial⟩ F sB ⟨hle.trans (hG2.trans hG3),.nd 63 [] 0 [w1],y,q1,F,.opt kd y y1 b1 yc w1 oM hsg (hs2.mono hG3) (hrep.mono (hG2.trans hG3)),by simp only [bI,V.tots,List.length_nil];omega,by rw [V.out];simp [c5],rfl,oM,oM⟩
  ·rename_i y _
   refine Nx.sealC (b:=y) fun G2 hG2 hsy=>?_
   exact aW (vs:=[_]) F ⟨F,trivial⟩ F a7 ⟨hG2,.nd 63 [] 0 [],y,_,F,.non kd y hsy,by simp [bI,V.tots],by rw [V.out];simp [c5],rfl,oM,oM⟩
 ·refine bK [(0,_),(1,_),(2,_),(3,_)] Tryz.func72 kR Tryz.ntmps72 F F tU fun B hB hW=>?_
  repeat' (first | refine jM ?_ | (refine jo ?_;first | refine jV (ay F F) ?_ | refine jO fun _=>?_ | refine aE F ?_) | refine aw F F (aF ‹_›) ?_ | refine ac F F ?_ | refine ad F F ?_)
  rename_i y
  refine Nx.sealC (b:=y) fun G2 hG2 hsy=>?_
  exact aW (vs:=[_]) F ⟨F,trivial⟩ F a7 ⟨hG2,.nd 63 [] 0 [],y,_,F,.non kd y hsy,by simp [bI,V.tots],by rw [V.out];simp [c5],rfl,oM,oM⟩
abbrev oy : TypeId:=134
abbrev yy : TypeId:=47
abbrev yC : TypeId:=3
def qi (u : Value) (vs : List cD) (k : adB) (deep cp : Int) (ct : Nat) : Prop:=∀ (G : Gh) (r : Nat) (code : Value) (p : Int) (l : adB),SchR G u vs → aT G code 1 l.length (cE l) → 0 ≤ p ∧ p + cp ≤ 600000000000 →
 ff adA 117 [Pt r 0,u,S k,I deep] G [eN r code p dH] (fun v G' L'=>∃ w b q,v = Pt b 0 ∧ RepR G' (ag vs) w k b ∧ w.tot ≤ ct ∧ 1 ≤ w.out.length ∧ L' = [eN r code q dH] ∧ p ≤ q ∧ q ≤ p + cp)
theorem tj {u : Value} {vs : List cD} {k : adB} {deep cp : Int} {ct : Nat} (hD : qi u vs (64 :: k) deep cp ct) (hkl : k.length ≤ 1000) : fD u vs (64 :: k) deep cp ct:=by
 intro G r code p l hR hs hp
 have hkd0 : bt (64 :: k) (Int.toNat 0) = 64:=bD 64 k
 have hkl2 : (64 :: k).length = k.length + 1:=rfl
 have cx_dt:=fun {p : Int} (hp : 0 ≤ p ∧ p + cp ≤ 600000000000)=>hD G r code p l hR hs hp
 refine bK [(0,_),(1,_),(2,_),(3,_)] Tryz.func72 kR Tryz.ntmps72 F F tU fun B hB hW=>?_
 repeat' (first | refine jM ?_ | (refine jo ?_;first | refine jV (ay F F) ?_ | refine jO fun _=>?_ | (refine eI F F F (cx_dt ‹_›) F ?_;rintro _ G1 _ hle ⟨w1,b1,q1,rfl,hrep,htot,hone,rfl,hq1,hq2⟩;dsimp only [zA,fA];skip)) | refine ad F F ?_)
 exact aW (vs:=[_]) F ⟨F,trivial⟩ F sB ⟨hle,w1,b1,q1,F,hrep,htot,hone,F,hq1,hq2⟩
section
variable {u : Value} {vs : List cD} {kd nm : adB} {fs : List Fld} {a : Option Addr} {ca : Nat} {deep cp : Int} {ct : Nat}
theorem wL (hr : fg vs kd = some ((a,ca),⟨69,nm,fs⟩)) (hvl : vs.length ≤ 1000000) (hk : fe kd = true) (hkl : kd.length ≤ 1000) (h0 : 0 < fs.length) (h8 : fs.length ≤ 8) (hw : SchW (ag vs)) : qi u vs kd deep 10 300:=by
 intro G r code p l hR hs hp
 have href:=fj vs kd
 rw [hr] at href
 have cx_rf:=i9 (G:=G) (k:=kd) hR hvl hk oM
 rw [hr] at cx_rf
 have htm:=bj href.symm
 obtain ⟨bf,of,cf,ef,hsf⟩:=(hR.fl _ (gp hr)).expl h0
 simp only [gm,Value.slice.injEq] at ef
 obtain ⟨rfl,-,rfl⟩:=ef
 dsimp only at hsf
 have cx_rf : aZ adA 136 [u,S kd] G (· = Tu [Ag [U8 (69 : Nat),S nm,.slice (some ⟨bf,of,none⟩) fs.length ca],Bo true]):=cx_rf
 refine bK [(0,_),(1,_),(2,_),(3,_)] Tryz.func117 kR Tryz.ntmps117 F F tU fun B hB hW=>?_
 repeat' (first | refine jR ?_ | (refine jo ?_;first | refine jL fun _=>?_ | refine jC F F F ?_ | refine aB F ?_ | refine jF fun _=>?_ | refine jV (gU F F (by (repeat (first | exact BL.nil | apply BL.lit rfl));done)) ?_ | refine jV (ay F F) ?_ | refine jO fun _=>?_ | refine ae F F F cx_rf F ?_) | refine ac F F ?_)
 rename_i y9 _ y11
 (refine an (ao (id:=5) [.blk y9 (.cells (List.toArray [U8 (69 : Nat),S nm,.slice (some ⟨bf,of,none⟩) fs.length ca]) oy (0,0))] (by intro y hy;simp only [List.mem_cons,List.not_mem_nil,or_false] at hy ⊢;simp [hy]) am ?_);refine jW 11 [0,1,3,4] (aa 15 27) ?_;(refine jG (aa 15 31) 2 F (aX F F F) ?_);(refine jG (aa 15 63) 5 F (aX F F F) ?_);(refine jG (aa 15 127) 6 F (af F) ?_);refine jA 7 F ?_;((refine aL F F F (dG ?_ (by (repeat (assumption));done)) rfl ?_;(focus omega);rintro _ _ ⟨k,rfl,rfl,hk0,hk1⟩;dsimp only [zA,fA]));refine jK (aa 15 255) ?_;((refine jG (aa 15 511) 8 F (aQ F F ?_) ?_;focus omega));refine jW 5 [9] (aa 15 1023) ?_;((refine jG (aa 15 2047) 10 F (b8 F F aS ?_ F F) ?_;focus omega));refine jA 11 F ?_;(refine jF fun _=>?_);refine jK (aa 15 4095) ?_;refine jW 1 [12,13] (aa 15 16383) ?_;refine jA 14 F ?_;(refine jD F F F ?_);refine jK (aa 15 32767) ?_;refine jQ ?_)
 all_goals repeat' (refine jR ?_)
 all_goals
  rename_i y1
  refine Nx.sealC (b:=y1) fun G2 hG2 hsy=>?_
  refine Nx.sealC (b:=y11) fun G3 hG3 hsg=>?_
  have hdm : ab fs k.toNat ∈ fs:=bB oM
  exact aW (vs:=[_]) F ⟨F,trivial⟩ F sB ⟨hG2.trans hG3,.nd 69 [] (ab fs k.toNat).tag [],y11,_,F,.enm kd y11 y1 ⟨69,nm,fs⟩ (ab fs k.toNat) ⟨href.symm,F⟩ hdm hsg (hsy.mono hG3),by simp [bI,V.tots],by rw [V.out];simp [c5],rfl,oM,oM⟩
theorem wK (hr : fg vs kd = some ((a,ca),⟨85,nm,fs⟩)) (hvl : vs.length ≤ 1000000) (hk : fe kd = true) (hkl : kd.length ≤ 1000) (h0 : 0 < fs.length) (h8 : fs.length ≤ 8) (hw : SchW (ag vs)) (hcp : 0 ≤ cp ∧ cp ≤ 100000000) (hct : ct ≤ 100000000)
  (hD : ∀ d ∈ fs,(0 < deep ∨ d = ab fs 0) → fD u vs d.kind (deep - 1) cp ct) (hd : -1000 ≤ deep ∧ deep ≤ 1000) : qi u vs kd deep (cp + 10) (ct + 20):=by
 intro G r code p l hR hs hp
 have href:=fj vs kd
 rw [hr] at href
 have cx_rf:=i9 (G:=G) (k:=kd) hR hvl hk oM
 rw [hr] at cx_rf
 have htm:=bj href.symm
 obtain ⟨bf,of,cf,ef,hsf⟩:=(hR.fl _ (gp hr)).expl h0
 simp only [gm,Value.slice.injEq] at ef
 obtain ⟨rfl,-,rfl⟩:=ef
 dsimp only at hsf
 have cx_rf : aZ adA 136 [u,S kd] G (· = Tu [Ag [U8 (85 : Nat),S nm,.slice (some ⟨bf,of,none⟩) fs.length ca],Bo true]):=cx_rf
 refine bK [(0,_),(1,_),(2,_),(3,_)] Tryz.func117 kR Tryz.ntmps117 F F tU fun B hB hW=>?_
 repeat' (first | refine jM ?_ | (refine jo ?_;first | refine jL fun _=>?_ | refine jD F F F ?_ | refine jC F F F ?_ | refine aB F ?_ | (refine jV (dM F F aS ?_) ?_;focus omega) | refine jF fun _=>?_ | refine jV (gU F F (by (repeat (first | exact BL.nil | apply BL.lit rfl));done)) ?_ | refine jV (ay F F) ?_ | refine jO fun _=>?_ | refine jV (ak F F oM) ?_ | refine ae F F F cx_rf F ?_) | refine ac F F ?_ | refine ad F F ?_ | refine eA F (fun _=>?_) (fun _=>?_))
 ·rename_i y9 _ y11 y12 hd0
  (refine an (ao (id:=10) [.blk y9 (.cells (List.toArray [U8 (85 : Nat),S nm,.slice (some ⟨bf,of,none⟩) fs.length ca]) oy (0,0))] (by intro y hy;simp only [List.mem_cons,List.not_mem_nil,or_false] at hy ⊢;simp [hy]) am ?_);refine jW 7 [0,2,3] (aa 10 13) ?_;(refine jG (aa 10 15) 1 F (aX F F F) ?_);(refine jG (aa 10 31) 4 F (aX F F F) ?_);(refine jG (aa 10 63) 5 F (af F) ?_);refine jA 6 F ?_;((refine aL F F F (dG ?_ (by (repeat (assumption));done)) rfl ?_;(focus omega);rintro _ _ ⟨k,rfl,rfl,hk0,hk1⟩;dsimp only [zA,fA]));refine jK (aa 10 127) ?_;((refine jG (aa 10 255) 7 F (aQ F F ?_) ?_;focus omega));((refine jG (aa 10 511) 8 F (dM F F aS ?_) ?_;focus omega));refine jA 9 F ?_;(refine jC F F F ?_);refine jK (aa 10 1023) ?_;refine jQ ?_)
  all_goals have hdm : ab fs k.toNat ∈ fs:=bB oM
  all_goals have cx_dv:=fun {p : Int} (hp : 0 ≤ p ∧ p + cp ≤ 600000000000)=>hD (ab fs k.toNat) hdm (.inl hd0) G r code p l hR hs hp
  all_goals repeat' (first | refine jM ?_ | (refine jo ?_;first | refine jD F F F ?_ | refine aB F ?_ | refine jF fun _=>?_ | (refine eI F F F (cx_dv oM) F ?_;rintro _ G1 _ hle ⟨w1,b1,q1,rfl,hrep,htot,hone,rfl,hq1,hq2⟩;dsimp only [zA,fA];skip)))
  all_goals
   rename_i y1 y2
   refine Nx.sealC (b:=y1) fun G2 hG2 hs1=>?_
   refine Nx.sealC (b:=y2) fun G3 hG3 hs2=>?_
   refine Nx.sealC (b:=y11) fun G4 hG4 hsg=>?_
   exact aW (vs:=[_]) F ⟨F,trivial⟩ F sB ⟨((hle.trans hG2).trans hG3).trans hG4,.nd 85 [] (ab fs k.toNat).tag [w1],y11,_,F,.uni kd y11 y1 y2 b1 1 ⟨85,nm,fs⟩ (ab fs k.toNat) w1 (Nat.le_refl _) ⟨href.symm,F⟩ hdm hsg (hs1.mono (hG3.trans hG4)) (hs2.mono hG4) (hrep.mono ((hG2.trans hG3).trans hG4)),by simp only [bI,V.tots,List.length_nil];omega,by rw [V.out];simp [c5],rfl,oM,oM⟩
 ·have cx_dv:=fun {p : Int} (hp : 0 ≤ p ∧ p + cp ≤ 600000000000)=>hD (ab fs 0) (bB h0) (.inr rfl) G r code p l hR hs hp
  repeat' (first | refine jR ?_ | (refine jo ?_;first | refine jD F F F ?_ | refine jF fun _=>?_ | (refine eI F F F (cx_dv oM) F ?_;rintro _ G1 _ hle ⟨w1,b1,q1,rfl,hrep,htot,hone,rfl,hq1,hq2⟩;dsimp only [zA,fA];skip)))
  all_goals
   rename_i y9 _ y11 y12 _ y1 y2
   refine Nx.sealC (b:=y1) fun G2 hG2 hs1=>?_
   refine Nx.sealC (b:=y2) fun G3 hG3 hs2=>?_
   refine Nx.sealC (b:=y11) fun G4 hG4 hsg=>?_
   exact aW (vs:=[_]) F ⟨F,trivial⟩ F sB ⟨((hle.trans hG2).trans hG3).trans hG4,.nd 85 [] (ab fs 0).tag [w1],y11,_,F,.uni kd y11 y1 y2 b1 1 ⟨85,nm,fs⟩ (ab fs 0) w1 (Nat.le_refl _) ⟨href.symm,F⟩ (bB h0) hsg (hs1.mono (hG3.trans hG4)) (hs2.mono hG4) (hrep.mono ((hG2.trans hG3).trans hG4)),by simp only [bI,V.tots,List.length_nil];omega,by rw [V.out];simp [c5],rfl,oM,oM⟩
theorem zS (hr : fg vs kd = some ((a,ca),⟨82,nm,fs⟩)) (hvl : vs.length ≤ 1000000) (hk : fe kd = true) (hkl : kd.length ≤ 1000) (h8 : fs.length ≤ 8) (hd : -1000 ≤ deep ∧ deep ≤ 0) : qi u vs kd deep 10 100:=by
 intro G r code p l hR hs hp
 have href:=fj vs kd
 rw [hr] at href
 have cx_rf:=i9 (G:=G) (k:=kd) hR hvl hk oM
 rw [hr] at cx_rf
 have cx_rf : aZ adA 136 [u,S kd] G (· = Tu [Ag [U8 (82 : Nat),S nm,.slice a fs.length ca],Bo true]):=cx_rf
 refine bK [(0,_),(1,_),(2,_),(3,_)] Tryz.func117 kR Tryz.ntmps117 F F tU fun B hB hW=>?_
 repeat' (first | refine jR ?_ | (refine jo ?_;first | refine jL fun _=>?_ | refine jC F F F ?_ | refine aB F ?_ | refine jF fun _=>?_ | refine jV (gU F F (by (repeat (first | exact BL.nil | apply BL.lit rfl));done)) ?_ | refine jV (ay F F) ?_ | refine jO fun _=>?_ | refine ae F F F cx_rf F ?_) | refine ad F F ?_)
 rename_i y9 _ y11
 refine aV (ι:=Unit) (fun i=>True) (fun i=>[(0,Pt r 0),(1,u),(2,S kd),(3,I deep),(9,Pt y9 0),(11,Pt y11 0),(13,I 0)]) (fun _=>G) (fun i=>[.blk y11 (.cells (List.toArray [S kd,S [82],aK,aK]) nQ (0,0)),.blk y9 (.cells (List.toArray [U8 (82 : Nat),S nm,.slice a fs.length ca]) oy (0,0)),eN r code p dH]) (fun i=>0) () ?_ tU F sB (fun i Hi=>?_)
 ·trivial
 by_cases h0 : 0 < fs.length
 all_goals repeat' (first | refine jR ?_ | (refine jo ?_;first | refine aB F ?_ | refine jV (af F) ?_ | refine aP F ?_ | refine aE F ?_) | refine aG F F (ax oM) ?_ | refine aw F F (aF oM) ?_ | (refine ad F (by first | rfl | (refine decide_eq_false ?_;(omega))) ?_))
 all_goals
  refine Nx.sealC (b:=y11) fun G2 hG2 hsg=>?_
  exact aW (vs:=[_]) F ⟨F,trivial⟩ F sB ⟨hG2,.nd 82 [] 0 [],y11,p,F,.recd kd y11 ⟨82,nm,fs⟩ [] [] none none 0 0 ⟨href.symm,F⟩ hsg ⟨F,.inl ⟨F,F⟩⟩ ⟨F,.inl ⟨F,F⟩⟩ F (fun i hi=>absurd hi (by simp)) (fun i hi=>absurd hi (by simp)),by simp [bI,V.tots],by rw [V.out];simp [c5],rfl,oM,oM⟩
theorem abt (hr : fg vs kd = some ((a,ca),⟨82,nm,fs⟩)) (hvl : vs.length ≤ 1000000) (hk : fe kd = true) (hkl : kd.length ≤ 1000) (h8 : fs.length ≤ 8) (hw : SchW (ag vs)) (hcp : 0 ≤ cp ∧ cp ≤ 100000000) (hct : ct ≤ 100000000)
  (hD : ∀ d ∈ fs,fD u vs d.kind (deep - 1) cp ct) (hd : 0 < deep ∧ deep ≤ 1000) : qi u vs kd deep (8 * cp + 20) (8 * ct + 200):=by
 intro G r code p l hR hs hp
 have href:=fj vs kd
 rw [hr] at href
 have cx_rf:=i9 (G:=G) (k:=kd) hR hvl hk oM
 rw [hr] at cx_rf
 have htm:=bj href.symm
 have cx_rf : aZ adA 136 [u,S kd] G (· = Tu [Ag [U8 (82 : Nat),S nm,.slice a fs.length ca],Bo true]):=cx_rf
 refine bK [(0,_),(1,_),(2,_),(3,_)] Tryz.func117 kR Tryz.ntmps117 F F tU fun B hB hW=>?_
 repeat' (first | refine jR ?_ | (refine jo ?_;first | refine jL fun _=>?_ | refine jC F F F ?_ | refine aB F ?_ | refine jF fun _=>?_ | refine jV (gU F F (by (repeat (first | exact BL.nil | apply BL.lit rfl));done)) ?_ | refine jV (ay F F) ?_ | refine jO fun _=>?_ | refine ae F F F cx_rf F ?_) | refine ad F F ?_)
 rename_i y9 _ y11
 refine Nx.addNil yC 1 (Nx.addNil yy 1 ?_)
 refine Nx.perm (((List.perm_append_comm (l₁:=[_,_,_]) (l₂:=[_])).cons _).cons _) ?_
 dsimp only [zA,fA]
 refine aV (ι:=List (Fld × V) × List Nat × Option Addr × Nat × Option Addr × Nat × Nat × Int × Gh) (fun j=>((j.2.1.length = j.1.length ∧ (∀ i,i < j.1.length → (ab j.1 i).1 ∈ fs) ∧ ∀ i,i < j.1.length → RepR j.2.2.2.2.2.2.2.2 (ag vs) (ab j.1 i).2 (ab j.1 i).1.kind (ab j.2.1 i)) ∧ Gh.le G j.2.2.2.2.2.2.2.2) ∧ (j.1.length ≤ j.2.2.2.2.2.2.1 ∧ j.2.2.2.2.2.2.1 ≤ fs.length) ∧ V.tots (it j.1) ≤ (ct + 20) * j.1.length ∧ p ≤ j.2.2.2.2.2.2.2.1 ∧ j.2.2.2.2.2.2.2.1 ≤ p + (cp + 1) * ((j.2.2.2.2.2.2.1 : Nat) : Int)) (fun j=>[(0,Pt r 0),(1,u),(2,S kd),(3,I deep),(9,Pt y9 0),(11,Pt y11 0),(13,I ((j.2.2.2.2.2.2.1 : Nat) : Int))]) (fun j=>j.2.2.2.2.2.2.2.2) (fun j=>[.acc (.slice j.2.2.2.2.1 j.1.length j.2.2.2.2.2.1) yy 1 j.1.length (ah dD j.2.1),.acc (.slice j.2.2.1 j.1.length j.2.2.2.1) yC 1 j.1.length (ah cI (j.1.map fun p=>p.1.tag)),eN r code j.2.2.2.2.2.2.2.1 dH,.blk y11 (.cells (List.toArray [S kd,S [82],.slice j.2.2.1 j.1.length j.2.2.2.1,.slice j.2.2.2.2.1 j.1.length j.2.2.2.2.2.1]) nQ (0,0)),.blk y9 (.cells (List.toArray [U8 (82 : Nat),S nm,.slice a fs.length ca]) oy (0,0))]) (fun j=>fs.length - j.2.2.2.2.2.2.1) ([],[],none,0,none,0,0,p,G) ?_ tU F sB (fun j Hj=>?_)
 ·refine ⟨⟨⟨F,fun i hi=>absurd hi (by simp),fun i hi=>absurd hi (by simp)⟩,Gh.le.refl _⟩,?_,?_,?_,?_⟩
  ·exact ⟨Nat.le_refl _,Nat.zero_le _⟩
  ·simp [it,V.tots]
  ·dsimp only;omega
  ·dsimp only;simp
 obtain ⟨gs,bs,a1,c1,a2,c2,i,q,Gq⟩:=j
 dsimp only at Hj ⊢
 obtain ⟨⟨⟨hbl,hfm,hreps⟩,hgq⟩,hil,htt,hq0,hq1⟩:=Hj
 have hcl : (cp + 1) * ((i : Nat) : Int) ≤ (cp + 1) * 8:=Int.mul_le_mul_of_nonneg_left oM oM
 have hcl0 : 0 ≤ (cp + 1) * ((i : Nat) : Int):=Int.mul_nonneg oM oM
 have htl : (ct + 20) * gs.length ≤ (ct + 20) * 8:=Nat.mul_le_mul_left _ oM
 by_cases hgo : i < fs.length
 ·have hcl3 : (cp + 1) * ((i : Nat) : Int) + (cp + 1) ≤ (cp + 1) * 8:=by
   have:=Int.mul_le_mul_of_nonneg_left (show ((i : Nat) : Int) + 1 ≤ 8 by omega) (show 0 ≤ cp + 1 by omega)
   rwa [Int.mul_add,Int.mul_one] at this
  obtain ⟨bf,of,cf,ef,hsf⟩:=(hR.fl _ (gp hr)).expl (by dsimp only;omega)
  simp only [gm,Value.slice.injEq] at ef
  obtain ⟨rfl,-,rfl⟩:=ef
  dsimp only at hsf
  have hdm : ab fs i ∈ fs:=bB hgo
  have hdk : aA (ag vs) (ab fs i).kind = true:=dY hw htm (by simp) hdm
  have cx_dv:=fun {p : Int} (hp : 0 ≤ p ∧ p + cp ≤ 600000000000)=>hD (ab fs i) hdm Gq r code p l (hR.mono hgq) (hs.mono hgq) hp
  have hsf:=hsf.mono hgq
  repeat' (first | refine jM ?_ | (refine jo ?_;first | refine aB F ?_ | (refine jV (b8 F F aS ?_ F F) ?_;focus omega) | refine jV (af F) ?_ | refine jV (ak F F oM) ?_ | refine aP F ?_ | (refine eI F F F (cx_dv oM) F ?_;rintro _ G1 _ hle ⟨w1,b1,q1,rfl,hrep,htot,hone,rfl,hq1,hq2⟩;dsimp only [zA,fA];(try have hsf:=hsf.mono hle))) | refine aG F F (ax oM) ?_ | refine ac F (ax oM) ?_)
  have hgl:=hgq.trans hle
  have cx_pk3 : ∀ {p : Int},0 ≤ p ∧ p ≤ 1000000000000 → dO adA 38 [Pt r 0,I 3] G1 [eN r code p dH] (fun v L'=>L' = [eN r code (p + 1) dH] ∧ (v = I 0 ∨ ∃ k,v = I k ∧ 0 < k)):=fun {p} hp=>(dG (b:=r) (p:=p) (n:=3) ⟨hp.1,hp.2,by decide⟩ (hs.mono hgl)).mono fun v G' L' ⟨h1,k,h2,h3,h4,h5⟩=>⟨h1,h3,by subst h2;rcases (show k = 0 ∨ 0 < k by omega) with rfl | h;exact .inl F;exact .inr ⟨k,F,h⟩⟩
  have cx_out:=gc hw hrep oM
  have cx_sta:=mg (f:=ab fs i) (hR.mono hgl) hw hdk
  have hms : (cp + 1) * ((i + 1 : Nat) : Int) = (cp + 1) * ((i : Nat) : Int) + (cp + 1):=by rw [Int.natCast_succ,Int.mul_add,Int.mul_one]
  by_cases heq : w1.out = bR (ag vs) (ab fs i)
  ·(refine an (ao (id:=18) [.blk y9 (.cells (List.toArray [U8 (82 : Nat),S nm,.slice (some ⟨bf,of,none⟩) fs.length ca]) oy (0,0))] (by intro y hy;simp only [List.mem_cons,List.not_mem_nil,or_false] at hy ⊢;simp [hy]) am ?_);refine jW 14 [0] (aa 15 1) ?_;refine b7 [1] kR dC ⟨?_,trivial⟩;(refine aM F F ?_;(refine aL F F F (cx_pk3 oM) F ?_;rintro _ _ ⟨rfl,rfl | ⟨k,rfl,hk0⟩⟩ <;> dsimp only [zA,fA])) <;> (refine jS (aa 15 3) ?_;refine jT 11 [2,3] (aa 15 15) ?_;(try (first | (refine Nx.re (d:=107) (v':=Bo true) F (congrArg Value.bool (ax ‹_›)) ?_) | refine Nx.re (d:=107) (v':=Bo false) F (congrArg Value.bool F) ?_));refine jT 7 [4,6,7,9] (aa 15 735) ?_;(first | refine jG (aa 15 991) 8 F (aX F F F) ?_ | refine jN (aa 15 991) 8 F ?_);(first | refine jG (aa 15 2015) 10 F (ak F F oM) ?_ | refine jN (aa 15 2015) 10 F ?_);(first | (refine jG (aa 15 4063) 11 F (dM F F aS ?_) ?_;focus omega) | refine jN (aa 15 4063) 11 F ?_);(first | refine jN (aa 15 4095) 5 F ?_ | (refine jA 5 F ?_;(refine ae F F F cx_out F ?_);refine jS (aa 15 4095) ?_));(first | refine jN (aa 15 8191) 12 F ?_ | (refine jA 12 F ?_;(refine ae F F F cx_sta F ?_);refine jS (aa 15 8191) ?_));refine jT 1 [13] (aa 15 16383) ?_;(first | refine jG (aa 15 32767) 14 F (bO F F F) ?_ | refine jG (aa 15 32767) 14 F (bn F F F) ?_);refine jQ ?_))
   all_goals repeat' (first | refine jM ?_ | (refine ad F ?_ ?_;(focus ((first | rfl | (simp [*];done));done))))
   all_goals
    refine Nx.perm ((List.Perm.swap _ _ _).trans ((List.Perm.swap _ _ _).cons _)) ?_
    exact bm (gs,bs,a1,c1,a2,c2,i + 1,q1 + 1,G1) ⟨⟨⟨hbl,hfm,fun i hi=>(hreps i hi).mono hle⟩,hgl⟩,⟨by dsimp only;omega,by dsimp only;omega⟩,htt,by dsimp only;omega,by dsimp only;rw [hms];omega⟩ (by dsimp only;omega) tU rfl a7
  ·(refine an (ao (id:=18) [.blk y9 (.cells (List.toArray [U8 (82 : Nat),S nm,.slice (some ⟨bf,of,none⟩) fs.length ca]) oy (0,0))] (by intro y hy;simp only [List.mem_cons,List.not_mem_nil,or_false] at hy ⊢;simp [hy]) am ?_);refine jW 14 [0] (aa 15 1) ?_;refine b7 [1] kR dC ⟨?_,trivial⟩;(refine aM F F ?_;(refine aL F F F (cx_pk3 oM) F ?_;rintro _ _ ⟨rfl,rfl | ⟨k,rfl,hk0⟩⟩ <;> dsimp only [zA,fA])) <;> (refine jS (aa 15 3) ?_;refine jT 11 [2,3] (aa 15 15) ?_;(try (first | (refine Nx.re (d:=107) (v':=Bo true) F (congrArg Value.bool (ax ‹_›)) ?_) | refine Nx.re (d:=107) (v':=Bo false) F (congrArg Value.bool F) ?_));refine jT 7 [4,6,7,9] (aa 15 735) ?_;(first | refine jG (aa 15 991) 8 F (aX F F F) ?_ | refine jN (aa 15 991) 8 F ?_);(first | refine jG (aa 15 2015) 10 F (ak F F oM) ?_ | refine jN (aa 15 2015) 10 F ?_);(first | (refine jG (aa 15 4063) 11 F (dM F F aS ?_) ?_;focus omega) | refine jN (aa 15 4063) 11 F ?_);(first | refine jN (aa 15 4095) 5 F ?_ | (refine jA 5 F ?_;(refine ae F F F cx_out F ?_);refine jS (aa 15 4095) ?_));(first | refine jN (aa 15 8191) 12 F ?_ | (refine jA 12 F ?_;(refine ae F F F cx_sta F ?_);refine jS (aa 15 8191) ?_));refine jT 1 [13] (aa 15 16383) ?_;(first | refine jG (aa 15 32767) 14 F (bO F F F) ?_ | refine jG (aa 15 32767) 14 F (bn F F F) ?_);refine jQ ?_))
   ·repeat' (first | refine jM ?_ | refine ad F F ?_)
    refine Nx.perm ((List.Perm.swap _ _ _).trans ((List.Perm.swap _ _ _).cons _)) ?_
    exact bm (gs,bs,a1,c1,a2,c2,i + 1,q1 + 1,G1) ⟨⟨⟨hbl,hfm,fun i hi=>(hreps i hi).mono hle⟩,hgl⟩,⟨by dsimp only;omega,by dsimp only;omega⟩,htt,by dsimp only;omega,by dsimp only;rw [hms];omega⟩ (by dsimp only;omega) tU rfl a7
   ·repeat' (first | refine jR ?_ | refine ac F (ax ‹_›) ?_)
    have hl' : (gs ++ [(ab fs i,w1)]).length = gs.length + 1:=by simp
    have hbl' : (bs ++ [b1]).length = (gs ++ [(ab fs i,w1)]).length:=by simp [hbl]
    have hnth : ∀ j,j < (gs ++ [(ab fs i,w1)]).length → (j < gs.length ∧ ab (gs ++ [(ab fs i,w1)]) j = ab gs j ∧ ab (bs ++ [b1]) j = ab bs j) ∨ (ab (gs ++ [(ab fs i,w1)]) j = (ab fs i,w1) ∧ ab (bs ++ [b1]) j = b1):=fun j hj=>by
     by_cases h1 : j < gs.length
     ·exact .inl ⟨h1,by rw [aI hj,aI h1,List.getElem_append_left h1],by rw [aI oM,aI oM,List.getElem_append_left oM]⟩
     ·have h2 : j = gs.length:=oM
      exact .inr ⟨by rw [aI hj];simp [h2],by rw [aI oM];simp [h2,hbl]⟩
    have hfm' : ∀ j,j < (gs ++ [(ab fs i,w1)]).length → (ab (gs ++ [(ab fs i,w1)]) j).1 ∈ fs:=fun j hj=>by
     rcases hnth j hj with ⟨h1,h2,_⟩ | ⟨h2,_⟩
     ·rw [h2];exact hfm j h1
     ·rw [h2];exact hdm
    have hreps' : ∀ j,j < (gs ++ [(ab fs i,w1)]).length → RepR G1 (ag vs) (ab (gs ++ [(ab fs i,w1)]) j).2 (ab (gs ++ [(ab fs i,w1)]) j).1.kind (ab (bs ++ [b1]) j):=fun j hj=>by
     rcases hnth j hj with ⟨h1,h2,h3⟩ | ⟨h2,h3⟩
     ·rw [h2,h3];exact (hreps j h1).mono hle
     ·rw [h2,h3];exact hrep
    have hrow1 : ah cI (gs.map fun p=>p.1.tag) ++ [I (ab fs i).tag] = ah cI ((gs ++ [(ab fs i,w1)]).map fun p=>p.1.tag):=by rw [List.map_append];exact (bW cI _ (ab fs i).tag).symm
    have hrow2 : ah dD bs ++ [Pt b1 0] = ah dD (bs ++ [b1]):=(bW dD bs b1).symm
    have hnd : V.tots (it (gs ++ [(ab fs i,w1)])) = V.tots (it gs) + (20 + w1.tot):=by simp [it,fE,V.tots,bI]
    have hmt : (ct + 20) * (gs.length + 1) = (ct + 20) * gs.length + (ct + 20):=Nat.mul_succ _ _
    (refine an (ao (id:=19) [.blk y9 (.cells (List.toArray [U8 (82 : Nat),S nm,.slice (some ⟨bf,of,none⟩) fs.length ca]) oy (0,0))] (by intro y hy;simp only [List.mem_cons,List.not_mem_nil,or_false] at hy ⊢;simp [hy]) am ?_);refine jW 10 [0,1,2,3,5,7] (aa 16 175) ?_;(refine jG (aa 16 239) 6 F (aX F F F) ?_);((refine jG (aa 16 495) 8 F (ak F F ?_) ?_;focus omega));refine jW 7 [9] (aa 16 1007) ?_;((refine jG (aa 16 2031) 10 F (b8 F F aS ?_ F F) ?_;focus omega));refine b7 [4,11] kR dC ⟨?_,?_,trivial⟩;(focus (refine aM F F ?_;(refine aB F ?_);refine jK (aa 16 2047) ?_;refine jA 11 F ?_;(refine jF fun _=>?_);refine jK (aa 16 4095) ?_;refine jA 12 F ?_;((refine bC F F F F F F F F F ?_ fun _ _=>?_;focus omega));refine jK (aa 16 8191) ?_;refine jW 1 [13,14] (aa 16 32767) ?_;refine jA 15 F ?_;(refine jD F F F ?_);refine jK (aa 16 65535) ?_;refine jQ ?_));rotate_left 1;(focus (refine aM F F ?_;(refine jF fun _=>?_);refine jK (aa 16 4079) ?_;refine jA 4 F ?_;(refine aB F ?_);refine jK (aa 16 4095) ?_;refine jA 12 F ?_;((refine bC F F F F F F F F F ?_ fun _ _=>?_;focus omega));refine jK (aa 16 8191) ?_;refine jW 1 [13,14] (aa 16 32767) ?_;refine jA 15 F ?_;(refine jD F F F ?_);refine jK (aa 16 65535) ?_;refine jQ ?_));rotate_left 1)
    all_goals repeat' (first | refine jM ?_ | (refine jo ?_;first | refine jD F F F ?_ | refine aB F ?_ | refine jF fun _=>?_ | refine bC F F F F F F F F F oM fun _ _=>?_))
    all_goals
     rename_i _ y1 yc1 _ y2 yc2
     rw [hrow1,hrow2]
     exact bm (gs ++ [(ab fs i,w1)],bs ++ [b1],some ⟨y1,0,none⟩,yc1,some ⟨y2,0,none⟩,yc2,i + 1,q1 + 1,G1) ⟨⟨⟨hbl',hfm',hreps'⟩,hgl⟩,⟨by dsimp only;rw [hl'];omega,by dsimp only;omega⟩,by dsimp only;rw [hl',hmt,hnd];omega,by dsimp only;omega,by dsimp only;rw [hms];omega⟩ (by dsimp only;omega) tU rfl (by rw [hl'];repeat (first | exact List.Sublist.refl _ | apply List.Sublist.cons_cons | apply List.Sublist.cons))
 ·repeat' (first | refine jR ?_ | (refine jo ?_;first | refine aB F ?_ | refine jV (af F) ?_ | refine aE F ?_) | refine aw F F (aF oM) ?_ | refine ad F F ?_)
  refine Nx.sealS (v:=.slice a2 gs.length c2) fun G2 hG2 hs1=>?_
  refine Nx.sealS (v:=.slice a1 gs.length c1) fun G3 hG3 hs2=>?_
  refine Nx.sealC (b:=y11) fun G4 hG4 hsg=>?_
  exact aW (vs:=[_]) F ⟨F,trivial⟩ F sB ⟨hgq.trans ((hG2.trans hG3).trans hG4),.nd 82 [] 0 (it gs),y11,q,F,.recd kd y11 ⟨82,nm,fs⟩ gs bs a1 a2 c1 c2 ⟨href.symm,F⟩ hsg (hs2.mono hG4) (hs1.mono (hG3.trans hG4)) hbl hfm (fun i hi=>(hreps i hi).mono ((hG2.trans hG3).trans hG4)),by rw [bI];simp only [List.length_nil];omega,by rw [V.out];simp [c5],rfl,oM,oM⟩
end
theorem oI {ts : List Ty} {k : adB} (h : aA ts k = true) : ∃ c r,k = c :: r:=by
 cases k with
 | nil=>unfold aA bZ fe at h;simp at h
 | cons c r=>exact ⟨c,r,F⟩
def n8 : Nat → Int
 | 0=>105
 | d + 1=>8 * n8 d + 40
def nj : Nat → Nat
 | 0=>480
 | d + 1=>8 * nj d + 400
theorem wQ : ∀ d,d ≤ 4 → 0 ≤ n8 d ∧ n8 d ≤ 500000 ∧ nj d ≤ 3000000 ∧ 105 ≤ n8 d ∧ 480 ≤ nj d:=by decide
theorem acy {u : Value} {vs : List cD} (hw : SchW (ag vs)) (hu : u.oneCell' = true) : ∀ (n : Nat) {k : adB} {deep : Int},n ≤ 9 → deep ≤ 0 → (n : Int) - 900 ≤ deep → aA (ag vs) k = true → (∀ t,a8 (ag vs) k = some t → cr (ag vs) n t = true) → fD u vs k deep (15 + 10 * n) (300 + 20 * n):=by
 have hvl : vs.length ≤ 8:=by have:=hw.len;unfold ag at this;simpa using this
 intro n
 induction n with
 | zero =>
  intro k deep _ hd hd2 hk he
  obtain ⟨c,r,rfl⟩:=oI hk
  have hkk:=du (dL hk)
  simp only [List.length_cons] at hkk
  by_cases h1 : c.toNat = 91
  ·obtain rfl:=bX h1 dC
   exact (qF (cp:=0) (ct:=0) oM oM (fun h=>absurd h oM) hu oM oM).le oM oM
  by_cases h2 : c.toNat = 63
  ·obtain rfl:=bX h2 dC
   exact (tm (cp:=0) (ct:=0) oM oM (fun h=>absurd h oM) hu oM oM).le oM oM
  have h91 : ¬ (c.toNat = 91 ∨ c.toNat = 63):=fun h=>by rcases h with h | h <;> omega
  cases hr : a8 (ag vs) (c :: r) with
  | some t=>have:=he t hr;simp [cr] at this
  | none =>
   rcases d7 hk h91 hr with e1 | e1 | e1
   ·rw [e1];exact tp.le oM oM
   ·rw [e1];exact tl.le oM oM
   ·rw [e1];exact qG.le oM oM
 | succ n ih =>
  intro k deep hn hd hd2 hk he
  obtain ⟨c,r,rfl⟩:=oI hk
  have hkk:=du (dL hk)
  have hkk1:=hkk.1
  simp only [List.length_cons] at hkk
  by_cases h1 : c.toNat = 91
  ·obtain rfl:=bX h1 dC
   exact (qF (cp:=0) (ct:=0) oM oM (fun h=>absurd h oM) hu oM oM).le oM oM
  by_cases h2 : c.toNat = 63
  ·obtain rfl:=bX h2 dC
   exact (tm (cp:=0) (ct:=0) oM oM (fun h=>absurd h oM) hu oM oM).le oM oM
  have h91 : ¬ (c.toNat = 91 ∨ c.toNat = 63):=fun h=>by rcases h with h | h <;> omega
  cases hr : a8 (ag vs) (c :: r) with
  | none =>
   rcases d7 hk h91 hr with e1 | e1 | e1
   ·rw [e1];exact tp.le oM oM
   ·rw [e1];exact tl.le oM oM
   ·rw [e1];exact qG.le oM oM
  | some t =>
   obtain ⟨r',e⟩:=dW hr
   simp only [List.cons.injEq] at e
   obtain ⟨rfl,rfl⟩:=e
   have href:=fj vs (64 :: r)
   rw [hr] at href
   rcases hrv : fg vs (64 :: r) with _ | ⟨⟨a,ca⟩,⟨so,nm,fs⟩⟩
   ·rw [hrv] at href;cases href
   rw [hrv] at href
   obtain rfl:=(Option.some.inj href).symm
   dsimp only at hr he
   have hTW:=hw.ty _ (bj hr)
   have h8 : fs.length ≤ 8:=hTW.len
   refine tj ?_ oM
   rcases hTW.sort with h3 | h3 | h3 <;> dsimp only at h3 <;> subst h3
   ·exact fun G r code p l g1 g2 g3=>((zS hrv oM hkk1 (by simp only [List.length_cons];omega) h8 oM) G r code p l g1 g2 ⟨g3.1,oM⟩).mono fun _ _ _ ⟨h6,w,b,q,h7,h8,h9,h10,h11,h12,h13⟩=>⟨h6,w,b,q,h7,h8,oM,h10,h11,h12,oM⟩
   ·have h0 : 0 < fs.length:=List.length_pos_iff.2 (hTW.ne (by simp))
    refine fun G r code p l g1 g2 g3=>((wK (cp:=15 + 10 * n) (ct:=300 + 20 * n) hrv oM hkk1 (by simp only [List.length_cons];omega) h0 h8 hw oM oM (fun d hdm hc=>?_) oM) G r code p l g1 g2 ⟨g3.1,oM⟩).mono fun _ _ _ ⟨h6,w,b,q,h7,h8,h9,h10,h11,h12,h13⟩=>⟨h6,w,b,q,h7,h8,oM,h10,h11,h12,oM⟩
    rcases hc with hc | rfl
    ·omega
    refine ih oM oM oM (dY hw (bj hr) (by simp) hdm) fun t' ht'=>?_
    have:=he _ hr
    rw [cr,if_neg (by simp),jj] at this
    dsimp only at this
    rw [ht'] at this
    exact this
   ·have h0 : 0 < fs.length:=List.length_pos_iff.2 (hTW.ne (by simp))
    exact fun G r code p l g1 g2 g3=>((wL hrv oM hkk1 (by simp only [List.length_cons];omega) h0 h8 hw) G r code p l g1 g2 ⟨g3.1,oM⟩).mono fun _ _ _ ⟨h6,w,b,q,h7,h8,h9,h10,h11,h12,h13⟩=>⟨h6,w,b,q,h7,h8,oM,h10,h11,h12,oM⟩
theorem tq {u : Value} {vs : List cD} (hw : SchW (ag vs)) (hu : u.oneCell' = true) : ∀ (m : Nat) {k : adB} {deep : Int},m ≤ 4 → deep ≤ m → -800 ≤ deep → aA (ag vs) k = true → fD u vs k deep (n8 m) (nj m):=by
 have hvl : vs.length ≤ 8:=by have:=hw.len;unfold ag at this;simpa using this
 have hz : ∀ {k : adB} {deep : Int},deep ≤ 0 → -800 ≤ deep → aA (ag vs) k = true → fD u vs k deep 105 480:=fun {k deep} h1 h2 h3=>(acy hw hu ((ag vs).length + 1) (by have:=hw.len;omega) h1 (by have:=hw.len;omega) h3 (fun t ht=>qE hw t ht)).le (by have:=hw.len;omega) (by have:=hw.len;omega)
 intro m
 induction m with
 | zero=>intro k deep _ hd hd2 hk;exact hz hd hd2 hk
 | succ m ih =>
  intro k deep hm hd hd2 hk
  have hcm:=wQ m oM
  have e1 : n8 (m + 1) = 8 * n8 m + 40:=rfl
  have e2 : nj (m + 1) = 8 * nj m + 400:=rfl
  by_cases hd0 : deep ≤ 0
  ·exact (hz hd0 hd2 hk).le oM oM
  have hD : ∀ {k : adB},aA (ag vs) k = true → fD u vs k (deep - 1) (n8 m) (nj m):=fun {k} hk=>ih oM oM oM hk
  obtain ⟨c,r,rfl⟩:=oI hk
  have hkk:=du (dL hk)
  have hkk1:=hkk.1
  simp only [List.length_cons] at hkk
  by_cases h1 : c.toNat = 91
  ·obtain rfl:=bX h1 dC
   exact (qF oM oM (fun _=>hD (fI (.inl F) hk)) hu oM oM).le oM oM
  by_cases h2 : c.toNat = 63
  ·obtain rfl:=bX h2 dC
   exact (tm oM oM (fun _=>hD (fI (.inr F) hk)) hu oM oM).le oM oM
  have h91 : ¬ (c.toNat = 91 ∨ c.toNat = 63):=fun h=>by rcases h with h | h <;> omega
  cases hr : a8 (ag vs) (c :: r) with
  | none =>
   rcases d7 hk h91 hr with e1 | e1 | e1
   ·rw [e1];exact tp.le oM oM
   ·rw [e1];exact tl.le oM oM
   ·rw [e1];exact qG.le oM oM
  | some t =>
   obtain ⟨r',e⟩:=dW hr
   simp only [List.cons.injEq] at e
   obtain ⟨rfl,rfl⟩:=e
   have href:=fj vs (64 :: r)
   rw [hr] at href
   rcases hrv : fg vs (64 :: r) with _ | ⟨⟨a,ca⟩,⟨so,nm,fs⟩⟩
   ·rw [hrv] at href;cases href
   rw [hrv] at href
   obtain rfl:=(Option.some.inj href).symm
   dsimp only at hr
   have hTW:=hw.ty _ (bj hr)
   have h8 : fs.length ≤ 8:=hTW.len
   refine tj ?_ oM
   rcases hTW.sort with h3 | h3 | h3 <;> dsimp only at h3 <;> subst h3
   ·exact fun G r code p l g1 g2 g3=>((abt hrv oM hkk1 (by simp only [List.length_cons];omega) h8 hw oM oM (fun d hdm=>hD (dY hw (bj hr) (by simp) hdm)) oM) G r code p l g1 g2 ⟨g3.1,oM⟩).mono fun _ _ _ ⟨h6,w,b,q,h7,h8,h9,h10,h11,h12,h13⟩=>⟨h6,w,b,q,h7,h8,oM,h10,h11,h12,oM⟩
   ·have h0 : 0 < fs.length:=List.length_pos_iff.2 (hTW.ne (by simp))
    exact fun G r code p l g1 g2 g3=>((wK hrv oM hkk1 (by simp only [List.length_cons];omega) h0 h8 hw oM oM (fun d hdm _=>hD (dY hw (bj hr) (by simp) hdm)) oM) G r code p l g1 g2 ⟨g3.1,oM⟩).mono fun _ _ _ ⟨h6,w,b,q,h7,h8,h9,h10,h11,h12,h13⟩=>⟨h6,w,b,q,h7,h8,oM,h10,h11,h12,oM⟩
   ·have h0 : 0 < fs.length:=List.length_pos_iff.2 (hTW.ne (by simp))
    exact fun G r code p l g1 g2 g3=>((wL hrv oM hkk1 (by simp only [List.length_cons];omega) h0 h8 hw) G r code p l g1 g2 ⟨g3.1,oM⟩).mono fun _ _ _ ⟨h6,w,b,q,h7,h8,h9,h10,h11,h12,h13⟩=>⟨h6,w,b,q,h7,h8,oM,h10,h11,h12,oM⟩
theorem uk {r : Nat} {code : Value} {p : Int} {l : adB} (hp : 0 ≤ p ∧ p ≤ 600000000000) (hs : aT G code 1 l.length (cE l)) :
  dO adA 30 [Pt r 0] G [eN r code p dH] (fun v L'=>∃ x q,v = S x ∧ x.length ≤ 20000 ∧ L' = [eN r code q dH] ∧ p ≤ q ∧ q ≤ p + 700):=by
 refine jH [(0,_)] Tryz.func30 Tryz.ntmps30 fun B hB hW=>?_
 repeat' (first | refine jX ?_ | (refine jo ?_;first | refine jF fun _=>?_ | refine jV (aQ F F oM) ?_ | (refine gC 64 F F F ?_ F (fun xs hxs=>?_);(focus ((simp only [List.length_append,List.length_cons,List.length_nil,List.length_take];omega);done))) | refine aP F ?_ | refine aE F ?_ | (refine aL F F F (w5 ?_ (by (repeat (assumption));done) ?_ ?_) rfl ?_;(focus omega);(focus ((first | assumption | (simp;done));done));(focus ((simp;done);done));rintro _ _ ⟨ty,q1,rfl,hty,hty1,rfl,hq1,hq2⟩;dsimp only [zA,fA]) | (refine aL F F F (dG ?_ (by (repeat (assumption));done)) rfl ?_;(focus ((first | omega | (simp;omega));done));rintro _ _ ⟨k,rfl,rfl,hk0,hk1⟩;dsimp only [zA,fA]) | (refine ae F F F (ul ?_) F ?_;(focus ((simp;omega);done)))) | refine m4 F F (fun _=>?_) (fun _=>?_) | refine ad F F ?_ | refine eA F (fun _=>?_) (fun _=>?_))
 all_goals (first | exact aW (vs:=[_]) F ⟨F,trivial⟩ F sB ⟨F,_,_,F,by (simp only [List.length_append,List.length_cons,List.length_nil,List.length_take,List.length_drop];omega),rfl,oM,oM⟩ | skip)
 all_goals simp only [List.length_append,List.length_cons,List.length_nil] at hk1
 all_goals (refine an (ao (id:=6) [] (fun _ h=>absurd h (by simp)) am ?_);refine jW 7 [0,1,2,4,9,10,11,12] (aa 15 7703) ?_;refine b7 [3,5] kR dC ⟨?_,?_,trivial⟩;(focus (refine aM F F ?_;(refine jF fun _=>?_);refine jK (aa 15 7711) ?_;refine jA 5 F ?_;((refine aL F F F (dG ?_ (by (repeat (assumption));done)) rfl ?_;(focus omega);rintro _ _ ⟨k,rfl,rfl,hk0,hk1⟩;dsimp only [zA,fA]));refine jK (aa 15 7743) ?_;((refine jG (aa 15 7807) 6 F (aQ F F ?_) ?_;focus omega));refine jA 7 F ?_;((refine gC 64 F F F ?_ F (fun xs hxs=>?_);(focus ((simp only [List.length_append,List.length_cons,List.length_nil,List.length_take];omega);done))));refine jK (aa 15 7935) ?_;refine jW 0 [8,13,14] (aa 15 32767) ?_;refine jQ ?_));rotate_left 1;(focus (refine aM F F ?_;((refine aL F F F (dG ?_ (by (repeat (assumption));done)) rfl ?_;(focus omega);rintro _ _ ⟨k,rfl,rfl,hk0,hk1⟩;dsimp only [zA,fA]));refine jK (aa 15 7735) ?_;refine jA 3 F ?_;(refine jF fun _=>?_);refine jK (aa 15 7743) ?_;((refine jG (aa 15 7807) 6 F (aQ F F ?_) ?_;focus omega));refine jA 7 F ?_;((refine gC 64 F F F ?_ F (fun xs hxs=>?_);(focus ((simp only [List.length_append,List.length_cons,List.length_nil,List.length_take];omega);done))));refine jK (aa 15 7935) ?_;refine jW 0 [8,13,14] (aa 15 32767) ?_;refine jQ ?_));rotate_left 1)
 all_goals repeat' (refine jR ?_)
 all_goals exact aW (vs:=[_]) F ⟨F,trivial⟩ F sB ⟨F,_,_,F,by (simp only [List.length_append,List.length_cons,List.length_nil,List.length_take,List.length_drop];omega),rfl,oM,oM⟩
theorem w7 {r : Nat} {code : Value} {p : Int} {l s : adB} (hp : 0 ≤ p ∧ p ≤ 600000000000) (hs : aT G code 1 l.length (cE l)) (hsl : s.length ≤ 10000000) :
  dO adA 31 [Pt r 0,S s] G [eN r code p dH] (fun v L'=>∃ x q,v = S x ∧ x.length ≤ 400 ∧ L' = [eN r code q dH] ∧ p ≤ q ∧ q ≤ p + 20):=by
 have cx_lkg : ∀ {k : adB} (G : Gh),k.length ≤ 1000 → bG adA 49 [S s,S k] G (fun v _=>∃ u b,v = Tu [u,Bo b]):=fun {k} G h=>(hY (G:=G) (s:=s) (k:=k) oM oM).mono fun v G' L' ⟨h1,h2,u,vs,h3,_⟩=>⟨h1,h2,u,_,h3⟩
 refine jB (Post:=fun v G' L'=>G' = G ∧ _) [(0,_),(1,_)] Tryz.func31 Tryz.ntmps31 fun B hok hB hW=>?_
 repeat' (first | refine jR ?_ | (refine jo ?_;first | refine jF fun _=>?_ | refine jV (aQ F F oM) ?_ | (refine gC 64 F F F ?_ F (fun xs hxs=>?_);(focus ((simp only [List.length_append,List.length_cons,List.length_nil,List.length_take];omega);done))) | (refine aL F F F (dG ?_ (by (repeat (assumption));done)) rfl ?_;(focus omega);rintro _ _ ⟨k,rfl,rfl,hk0,hk1⟩;dsimp only [zA,fA]) | (refine aL F F F (rN ?_ (by (repeat (assumption));done)) rfl ?_;(focus omega);rintro _ _ ⟨kd,q1,rfl,hkd,rfl,hq1,hq2⟩;dsimp only [zA,fA]) | (refine ar F F F ((cx_lkg _) oM) F ?_;rintro _ G hle ⟨u1,b1,rfl⟩;skip)) | refine eA F (fun _=>?_) (fun _=>?_) | refine oJ F (fun _=>?_) (fun _=>?_))
 all_goals refine Nx.base hok hB ?_
 all_goals exact aW (vs:=[_]) F ⟨F,trivial⟩ F sB ⟨F,_,_,F,by (first | omega | (simp only [List.length_append,List.length_cons,List.length_nil,List.length_take,List.length_drop];omega)),rfl,oM,oM⟩
theorem aaf {r : Nat} {code : Value} {p : Int} {l s k : adB} (hp : 0 ≤ p ∧ p ≤ 500000000000) (hs : aT G code 1 l.length (cE l)) (hsl : s.length ≤ 10000000) (hkl : k.length ≤ 1000) :
  dO adA 32 [Pt r 0,S s,S k] G [eN r code p dH] (fun v L'=>∃ x q,v = S x ∧ x.length ≤ 20000 ∧ L' = [eN r code q dH] ∧ p ≤ q ∧ q ≤ p + 3000000):=by
 by_cases hk : dA s k = true
 case neg =>
  have hk2 : dA s k = false:=by simpa using hk
  have cx_lk1 : ∀ G,bG adA 49 [S s,S k] G (fun v _=>∃ u,v = Tu [u,Bo false]):=fun G=>by
   refine (hY (G:=G) (s:=s) (k:=k) oM oM).mono ?_
   rintro v G' L' ⟨h1,h2,u,vs,rfl,_⟩
   exact ⟨h1,h2,u,by rw [hk2]⟩
  refine jB (Post:=fun v G' L'=>G' = G ∧ _) [(0,_),(1,_),(2,_)] Tryz.func32 Tryz.ntmps32 fun B hok hB hW=>?_
  repeat' (first | refine jR ?_ | (refine jo ?_;(refine ar F F F (cx_lk1 _) F ?_;rintro _ G hle ⟨u1,rfl⟩;skip)) | refine ac F F ?_)
  all_goals refine Nx.base hok hB ?_
  all_goals exact aW (vs:=[_]) F ⟨F,trivial⟩ F a7 ⟨F,_,_,F,by (simp only [List.length_append,List.length_cons,List.length_nil,List.length_take,List.length_drop];omega),rfl,oM,oM⟩
 obtain ⟨ts,hsc,hki,hw⟩:=k7 hk
 have cx_lka : ∀ G,bG adA 49 [S s,S k] G (fun v G'=>∃ a c vs,v = Tu [.slice a vs.length c,Bo true] ∧ SchR G' (.slice a vs.length c) vs ∧ ag vs = ts):=fun G=>by
  refine (hY (G:=G) (s:=s) (k:=k) oM oM).mono ?_
  rintro v G' L' ⟨h1,h2,u,vs,rfl,h4,_,h6⟩
  obtain ⟨_,⟨rfl,h0⟩ | ⟨b,o,cap,rfl,_,_⟩⟩:=h4.sl
  ·exact ⟨h1,h2,none,0,vs,by rw [hk,h0],by rw [h0];exact h4,h6 ts hsc hki⟩
  ·exact ⟨h1,h2,_,cap,vs,by rw [hk],h4,h6 ts hsc hki⟩
 refine jB (Post:=fun v G' L'=>G' = G ∧ _) [(0,_),(1,_),(2,_)] Tryz.func32 Tryz.ntmps32 fun B hok hB hW=>?_
 repeat' (first | refine jR ?_ | (refine jo ?_;(refine ar F F F (cx_lka _) F ?_;rintro _ G hle ⟨av1,cv1,vs1,rfl,hR1,hT1⟩;skip)) | refine ad F F ?_)
 subst hT1
 have hg0:=hle
 have hu1:=hR1.sl.one
 have cx_dv:=fun {p : Int} (hp : 0 ≤ p ∧ p + n8 4 ≤ 600000000000)=>tq hw hu1 4 (k:=k) (deep:=4) oM oM oM hki G r code p l hR1 (hs.mono hle) hp
 have hc4 : n8 4 = 453480:=by decide
 have ht4 : nj 4 = 2200080:=by decide
 rw [hc4,ht4] at cx_dv
 repeat' ((refine jo ?_;(refine eI F F F (cx_dv oM) F ?_;rintro _ G1 _ hle ⟨w1,b1,q1,rfl,hrep,htot,hone,rfl,hq1,hq2⟩;dsimp only [zA,fA];skip)))
 have hg1:=hle
 have hob:=lR hw hrep
 unfold iF at hob
 have cx_out:=gc hw hrep oM
 repeat' (first | refine jR ?_ | (refine jo ?_;refine ae F F F cx_out F ?_))
 refine aV (ι:=adB × Int × Int × Gh) (fun j=>Gh.le G1 j.2.2.2 ∧ (0 ≤ j.2.1 ∧ j.2.1 ≤ 3) ∧ (1 ≤ j.1.length ∧ j.1.length ≤ 2 * nj (j.2.1.toNat + 1)) ∧ p ≤ j.2.2.1 ∧ j.2.2.1 ≤ p + 500000 * (4 - j.2.1)) (fun j=>[(0,Pt r 0),(2,S k),(7,.slice av1 vs1.length cv1),(9,S j.1),(10,I j.2.1)]) (fun j=>j.2.2.2) (fun j=>[eN r code j.2.2.1 dH]) (fun j=>j.2.1.toNat) (w1.out,3,q1,G1) ?_ tU F a7 (fun j Hj=>?_)
 ·refine ⟨Gh.le.refl _,by dsimp only;omega,⟨hone,?_⟩,by dsimp only;omega,by dsimp only;omega⟩
  show w1.out.length ≤ 2 * nj 4
  omega
 obtain ⟨t,d,q,Gq⟩:=j
 dsimp only at Hj ⊢
 obtain ⟨hgq,hd,⟨ht1,ht2⟩,hq3,hq4⟩:=Hj
 have hs2:=hs.mono ((hg0.trans hg1).trans hgq)
 clear cx_dv cx_out hrep
 by_cases hgo : 150 < t.length ∧ 0 < d
 ·obtain ⟨hgo1,hgo2⟩:=hgo
  have hcm:=wQ d.toNat oM
  have cx_dv:=fun {p : Int} (hp : 0 ≤ p ∧ p + 500000 ≤ 600000000000)=>((tq hw hu1 d.toNat (k:=k) (deep:=d) oM oM oM hki).le hcm.2.1 (Nat.le_refl _)) Gq r code p l (hR1.mono (hg1.trans hgq)) hs2 hp
  repeat' (first | refine jR ?_ | (refine jo ?_;first | refine aP F ?_ | (refine eI F F F (cx_dv oM) F ?_;rintro _ G1 _ hle ⟨w1,b1,q1,rfl,hrep,htot,hone,rfl,hq1,hq2⟩;dsimp only [zA,fA];skip)) | refine aG F F (ax oM) ?_ | refine ac F (ax ‹_›) ?_)
  have hob:=lR hw hrep
  unfold iF at hob
  have cx_out:=gc hw hrep oM
  have e : (d - 1).toNat + 1 = d.toNat:=oM
  repeat' (first | refine jM ?_ | (refine jo ?_;refine ae F F F cx_out F ?_))
  exact bm (w1.out,d - 1,q1,G1) ⟨hgq.trans hle,by dsimp only;omega,⟨hone,by dsimp only;rw [e];omega⟩,by dsimp only;omega,by dsimp only;omega⟩ (by dsimp only;omega) tU rfl a7
 ·have hx : t.length ≤ 150 ∨ d ≤ 0:=oM
  have hl : t.length ≤ 8480:=by
   rcases hx with hx | hx
   ·omega
   ·have e : d = 0:=oM
    subst e
    have : nj (Int.toNat 0 + 1) = 4240:=by decide
    omega
  repeat' (first | refine jR ?_ | (refine jo ?_;first | refine aP F ?_ | refine aE F ?_ | (refine aL F F F (dG ?_ (by (repeat (assumption));done)) rfl ?_;(focus omega);rintro _ _ ⟨k,rfl,rfl,hk0,hk1⟩;dsimp only [zA,fA])) | refine fu F F (fun _=>?_) (fun _=>?_) | (refine ad F (by first | rfl | (refine decide_eq_false ?_;(omega))) ?_) | refine eA F (fun _=>?_) (fun _=>?_))
  all_goals refine Nx.base hok hB ?_
  all_goals (first | exact aW (vs:=[_]) F ⟨F,trivial⟩ F a7 ⟨F,_,_,F,by (omega),F,oM,oM⟩ | skip)
  all_goals (refine an (ao (id:=11) [] (fun _ h=>absurd h (by simp)) am ?_);refine jW 7 [0,1,2,4,9,10,11,12] (aa 15 7703) ?_;refine b7 [3,5] kR dC ⟨?_,?_,trivial⟩;(focus (refine aM F F ?_;(refine jF fun _=>?_);refine jK (aa 15 7711) ?_;refine jA 5 F ?_;((refine aL F F F (dG ?_ (by (repeat (assumption));done)) rfl ?_;(focus omega);rintro _ _ ⟨k,rfl,rfl,hk0,hk1⟩;dsimp only [zA,fA]));refine jK (aa 15 7743) ?_;((refine jG (aa 15 7807) 6 F (aQ F F ?_) ?_;focus omega));refine jA 7 F ?_;((refine gC 64 F F F ?_ F (fun xs hxs=>?_);(focus ((simp only [List.length_append,List.length_cons,List.length_nil,List.length_take];omega);done))));refine jK (aa 15 7935) ?_;refine jW 0 [8,13,14] (aa 15 32767) ?_;refine jQ ?_));rotate_left 1;(focus (refine aM F F ?_;((refine aL F F F (dG ?_ (by (repeat (assumption));done)) rfl ?_;(focus omega);rintro _ _ ⟨k,rfl,rfl,hk0,hk1⟩;dsimp only [zA,fA]));refine jK (aa 15 7735) ?_;refine jA 3 F ?_;(refine jF fun _=>?_);refine jK (aa 15 7743) ?_;((refine jG (aa 15 7807) 6 F (aQ F F ?_) ?_;focus omega));refine jA 7 F ?_;((refine gC 64 F F F ?_ F (fun xs hxs=>?_);(focus ((simp only [List.length_append,List.length_cons,List.length_nil,List.length_take];omega);done))));refine jK (aa 15 7935) ?_;refine jW 0 [8,13,14] (aa 15 32767) ?_;refine jQ ?_));rotate_left 1)
  all_goals repeat' (refine jR ?_)
  all_goals exact aW (vs:=[_]) F ⟨F,trivial⟩ F sB ⟨F,_,_,F,by (simp only [List.length_append,List.length_cons,List.length_nil,List.length_take,List.length_drop];omega),rfl,oM,oM⟩
section
variable {P : Program} {n : Nat} {D : List Deferred} {E : bN} {B : Base} {G : Gh} {L : List Own} {K : Act → World → Prop} {Q : Exit → Act → World → Prop} {ty : TypeId} {pos : String} {aft : Array Edge}
theorem kV {fo : Operand} {l : List Operand} {ag : Array TypeId} {d : Nat} {g : Option (Nat × Bool)} {f : FuncId} {fi ca az vs : List Value} {Post : Value → Gh → List Own → Prop}
  (hf : ev E fo = some (.func (.func f) fi.toArray ca.toArray)) (ha : evs E l = some az) (hv : fi ++ az ++ ca = vs) (hc : ff P f vs G [] Post) (hlt : Nat.blt d n = true)
  (k : ∀ v G' L',Gh.le G G' → Post v G' L' → Nx n D ((d,v) :: E) B G' (L' ++ L) K) : Nx n D E B G L (ow P ⟨some d,.call ⟨.value fo,l.toArray,ag⟩,ty,pos,aft,g⟩ Q K) :=
 iC (Lp:=[]) hf ha hv hc (List.Perm.refl _) hlt fun v G' L' h=>k v G' L' h.1 h.2
end
variable {G : Gh}
theorem aT.pre {p : Option Addr} {n c sz m : Nat} {xs : List Value} (h : aT G (.slice p n c) sz n xs) (hm : m ≤ n) : aT G (.slice p m c) sz m (xs.take (m * sz)):=by
 obtain ⟨h1,⟨h2,h3⟩ | ⟨b',o',cap',e,hc,hs⟩⟩:=h
 ·simp only [Value.slice.injEq] at h2
  obtain ⟨rfl,rfl,rfl⟩:=h2
  obtain rfl : m = 0:=oM
  exact ⟨by simp [h3],.inl ⟨F,by simp [h3]⟩⟩
 ·simp only [Value.slice.injEq] at e
  obtain ⟨rfl,-,rfl⟩:=e
  refine ⟨by rw [List.length_take,h1];exact Nat.min_eq_left (Nat.mul_le_mul_right _ hm),.inr ⟨b',o',_,F,oM,?_⟩⟩
  obtain ⟨cs,h3,h4⟩:=hs
  refine ⟨cs,h3,fun i v hv=>h4 i v ?_⟩
  rw [List.getElem?_take] at hv
  split at hv
  ·exact hv
  ·cases hv
abbrev ChM (c : Ch) : Prop:=c.1.length ≤ 1000 ∧ c.2.length ≤ 1000
theorem ChM.all {l : List Ch} (h : ∀ x ∈ l,ChM x) : ∀ x ∈ l,t8 x:=fun x hx=>by have:=h x hx;exact ⟨oM,oM⟩
theorem qb {v : Value} {l : adB} (hs : aT G v 1 l.length (cE l)) : aZ adA 12 [v] G (fun r=>∃ s k x y,r = Tu [S s,S k,S x,S y] ∧ s.length ≤ 1048576 ∧ k.length ≤ 1048576 ∧ x.length ≤ 1048576 ∧ y.length ≤ 1048576):=by
 refine jE [(0,_)] Tryz.func12 Tryz.ntmps12 fun B hB=>?_
 repeat' (first | refine jR ?_ | (refine jo ?_;first | (refine fL F F F (yl (by (repeat (assumption));done)) rfl ?_;rintro _ _ ⟨b,code,l,rfl,rfl,hcd,hcl⟩;dsimp only [zA,fA]) | (refine aL F F F (uk ?_ (by (repeat (assumption));done)) rfl ?_;(focus omega);rintro _ _ ⟨sc,q1,rfl,hsc,rfl,hq1,hq2⟩;dsimp only [zA,fA]) | (refine aL F F F (w7 ?_ (by (repeat (assumption));done) ?_) rfl ?_;(focus omega);(focus omega);rintro _ _ ⟨kd,q1,rfl,hkd,rfl,hq1,hq2⟩;dsimp only [zA,fA]) | (refine aL F F F (aaf ?_ (by (repeat (assumption));done) ?_ ?_) rfl ?_;(focus omega);(focus omega);(focus omega);rintro _ _ ⟨tx,q1,rfl,htx,rfl,hq1,hq2⟩;dsimp only [zA,fA])))
 exact jZ (vs:=[_,_,_,_]) F ⟨F,F,F,F,trivial⟩ F ⟨F,F,_,_,_,_,F,oM,oM,oM,oM⟩
section
variable {P : Program} {n : Nat} {D : List Deferred} {E : bN} {M : World → Prop} {d : Option Nat} {ty : TypeId} {pos : String} {aft : Array Edge} {gd : Option (Nat × Bool)}
end
section
variable {P : Program} {n : Nat} {D : List Deferred} {E : bN} {B : Base} {G : Gh} {L : List Own} {K : Act → World → Prop} {Q : Exit → Act → World → Prop} {ty : TypeId} {pos : String} {aft : Array Edge} {gd : Option (Nat × Bool)} {d : Nat}
end
variable {G : Gh}
theorem xw {p : Option Addr} {n c sz : Nat} {xs : List Value} (h : aT G (.slice p n c) sz n xs) : n ≤ c:=by
 obtain ⟨_,⟨e,_⟩ | ⟨b,o,c',e,hc,_⟩⟩:=h
 ·simp only [Value.slice.injEq] at e;omega
 ·simp only [Value.slice.injEq] at e;omega
--?fin
--?s0
open Go.Proofs
section
variable {P : Program} {n : Nat} {D : List Deferred} {E : bN} {M : World → Prop} {d : Option Nat} {ty : TypeId} {pos : String} {aft : Array Edge} {gd : Option (Nat × Bool)}
theorem ew {T : TypeId} {x : Operand} {desc : TypeDesc} {size bytes : Nat} {zero : Value} {b o : Nat} {v : Value} {G0 : Gh} {L0 : List Own} {cs : List Value} [TI P T desc size bytes zero] [Kn M G0 L0] (hx : ev E x = some (Pt b o)) (ha : dJ desc = false) (hs : bT G0 b o cs) (hc : cs[0]? = some v) :
  Gives P n D E M ⟨d,.load T x,ty,pos,aft,gd⟩ v:=f8 hx ha (by have:=(eG (S:=M) hs).go 0 v hc;simpa using this)
theorem c8 {T : TypeId} {x : Operand} {desc : TypeDesc} {size bytes : Nat} {zero : Value} {b o : Nat} {vs : List Value} {G0 : Gh} {L0 : List Own} {cs : List Value} [TI P T desc size bytes zero] [Kn M G0 L0] (hx : ev E x = some (Pt b o)) (ha : dJ desc = true) (hs : bT G0 b o cs) (hc : lE cs 0 size = some vs) (hl : Nat.beq vs.length size = true) :
  Gives P n D E M ⟨d,.load T x,ty,pos,aft,gd⟩ (Ag vs):=j6 hx ha (Nat.eq_of_beq_eq_true hl) (by have:=(eG (S:=M) hs).take hc;simpa using this)
end
variable {G : Gh}
theorem mo {i : Int} {b n pc : Nat} {pa : Option Addr} {q : List Int} (hb : bT G b 0 [.slice pa n pc]) (hn : n = q.length) (hs : aT G (.slice pa n pc) 1 n (ah c9 (q.map be))) (hi : 0 ≤ i ∧ i ≤ 999999) (hq : n ≤ 100000) :
  bG adA 61 [I i,Pt b 0] G (fun v G'=>∃ pa' pc',v = .slice pa' (n + 1) pc' ∧ aT G' (.slice pa' (n + 1) pc') 1 (n + 1) (ah c9 ((q ++ [i]).map be))):=by
 have hpc:=xw hs
 have hrow : ah c9 ((q ++ [i]).map be) = ah c9 (q.map be) ++ [S (be i)]:=by rw [List.map_append];exact bW c9 (q.map be) (be i)
 rw [hrow]
 refine jB [(0,_),(1,_)] Tryz.func61 Tryz.ntmps61 fun B hok hB hW=>?_
 repeat' (first | refine jR ?_ | (refine an (ao (id:=1) _ (fun _ h=>h) am ?_);refine jT 10 [6] (aa 11 64) ?_;(refine jG (aa 11 65) 0 F (ew F F aS F) ?_);(refine jG (aa 11 67) 1 F (ew F F aS F) ?_);(refine jG (aa 11 71) 2 F (af F) ?_);(refine jG (aa 11 79) 3 F (ew F F aS F) ?_);(refine jG (aa 11 95) 4 F (af F) ?_);(refine jG (aa 11 127) 5 F (acn F F F oM) ?_);refine jA 7 F ?_;(refine ae F F F (iB oM) F ?_);refine jS (aa 11 255) ?_;refine jA 8 F ?_;(refine jF fun _=>?_);refine jS (aa 11 511) ?_;refine jA 9 F ?_;((refine acR F F aS F F F F F F F F ?_ fun _ _ G2 hG2 hpth=>?_;focus omega));refine jS (aa 11 1023) ?_;refine jT 0 [10] (aa 11 2047) ?_;refine jQ ?_))
 all_goals refine jZ (vs:=[_]) F ⟨F,trivial⟩ F ⟨(by (assumption)),F,?_⟩
 all_goals exact ⟨_,_,F,hpth⟩
theorem abE {c : VC} {b bf of j : Nat} {fs : List Fld} (hb : bT G b 0 [Pt bf (of + j * 6)]) (hsf : bT G bf of (ah gx fs)) (hj : j < fs.length) :
  aZ adA 65 [Ag (bi c),Pt b 0] G (· = Bo (decide (c.tag = (ab fs j).tag))):=by
 obtain ⟨w,tx,tg,a,mm,kc⟩:=c
 have e0 : bi ⟨w,tx,tg,a,mm,kc⟩ = [U8 (w : Nat),S tx,I tg,.slice a mm kc]:=rfl
 rw [e0]
 have hxj : ab fs j = ab fs j:=rfl
 refine jE [(0,_),(1,_)] Tryz.func65 Tryz.ntmps65 fun B hB=>?_
 repeat' (first | refine jR ?_ | (refine jo ?_;refine jO fun _=>?_) | (refine an (ao (id:=1) _ (fun _ h=>h) am ?_);refine jT 7 [0] (aa 8 1) ?_;(refine jG (aa 8 3) 1 F (aX F F F) ?_);(refine jG (aa 8 7) 2 F (ew F F aS F) ?_);refine jT 3 [3,4] (aa 8 31) ?_;((refine jG (aa 8 63) 5 F (fO F F aS ?_ aS F F) ?_;focus omega));refine jT 0 [6,7] (aa 8 255) ?_;refine jQ ?_))
 all_goals refine jY (vs:=[_]) ?_
 all_goals rfl
abbrev fIx : FuncId:=109
def gS (f : Fld) (cs : List VC) : Bool:=cs.any fun c=>decide (c.tag = f.tag)
theorem vo {f : Fld} {cs : List VC} {i : Nat} (hi : i < cs.length) : gS f (cs.drop i) = (decide ((ab cs i).tag = f.tag) || gS f (cs.drop (i + 1))):=by
 rw [iT hi];rfl
theorem yq {a : Option Addr} {m kc b bf of j : Nat} {cs : List VC} {fs : List Fld} (hb : bT G b 0 [Pt bf (of + j * 6)]) (hsf : bT G bf of (ah gx fs)) (hj : j < fs.length) (hm : m = cs.length) (hs : aT G (.slice a m kc) 4 m (ah bi cs)) (hl : m ≤ 1000000) :
  aZ adA fIx [.slice a m kc,.func (.func 65) (List.toArray []) (List.toArray [Pt b 0])] G (fun v=>∃ r : Int,v = I r ∧ (gS (ab fs j) cs = true → 0 ≤ r) ∧ (gS (ab fs j) cs = false → r = -1)):=by
 subst hm
 refine jE [(0,_),(1,_)] Tryz.func109 Tryz.ntmps109 fun B hB=>?_
 repeat' (first | refine jR ?_ | (refine jo ?_;refine jV (af F) ?_))
 refine aV (ι:=Nat) (fun i=>i ≤ cs.length ∧ gS (ab fs j) cs = gS (ab fs j) (cs.drop i)) (fun i=>[(0,.slice a cs.length kc),(1,.func (.func 65) (List.toArray []) (List.toArray [Pt b 0])),(7,I cs.length),(8,I i)]) (fun _=>G) (fun i=>[]) (fun i=>cs.length - i) 0 ?_ tU F a7 (fun i Hi=>?_)
 ·exact ⟨Nat.zero_le _,F⟩
 obtain ⟨hi0,hi1⟩:=Hi
 by_cases hi : i < cs.length
 ·obtain ⟨xb,xo,xc,e,hsx⟩:=hs.expl oM
  simp only [Value.slice.injEq] at e
  obtain ⟨rfl,-,rfl⟩:=e
  have hxi : ab cs i = ab cs i:=rfl
  rw [vo hi] at hi1
  repeat' (first | refine jR ?_ | (refine jo ?_;first | refine jV (ak F F oM) ?_ | (refine jV (gQ F F aS ?_ aS) ?_;focus omega)) | refine ac F (ax oM) ?_)
  have htl:=abE (G:=G) (c:=ab cs i) hb hsf hj
  by_cases ht : (ab cs i).tag = (ab fs j).tag
  ·rw [decide_eq_true ht] at htl hi1
   rw [Bool.true_or] at hi1
   refine jo ?_
   refine ae F F F htl F ?_
   repeat' (first | refine jR ?_ | refine ac F F ?_)
   refine jY (vs:=[_]) ?_
   exact ⟨(i : Nat),F,fun _=>by omega,fun h=>by rw [hi1] at h;cases h⟩
  ·rw [decide_eq_false ht] at htl hi1
   rw [Bool.false_or] at hi1
   refine jo ?_
   refine ae F F F htl F ?_
   repeat' (first | refine jM ?_ | refine ad F F ?_)
   exact bm (i + 1) ⟨oM,hi1⟩ oM tU F a7
 ·have e : i = cs.length:=oM
  rw [e,List.drop_length] at hi1
  repeat' (first | refine jR ?_ | refine ad F (aF oM) ?_)
  refine jY (vs:=[_]) ?_
  refine ⟨-1,F,fun h=>?_,fun _=>rfl⟩
  rw [hi1] at h
  cases h
theorem p7 {a : Option Addr} {m kc b bf of j : Nat} {cs : List VC} {fs : List Fld} (hb : bT G b 0 [Pt bf (of + j * 6)]) (hsf : bT G bf of (ah gx fs)) (hj : j < fs.length) (hm : m = cs.length) (hs : aT G (.slice a m kc) 4 m (ah bi cs)) (hl : m ≤ 1000000) :
  aZ adA 66 [.slice a m kc,.func (.func 65) (List.toArray []) (List.toArray [Pt b 0])] G (· = Bo (gS (ab fs j) cs)):=by
 have hix:=yq hb hsf hj hm hs hl
 refine jE [(0,_),(1,_)] Tryz.func66 Tryz.ntmps66 fun B hB=>?_
 repeat' (refine jR ?_)
 refine jo ?_
 refine ep F F F hix F ?_
 rintro _ ⟨r,rfl,h1,h2⟩
 cases h : gS (ab fs j) cs with
 | true =>
  have h3:=h1 h
  repeat' (refine jR ?_)
  refine jY (vs:=[_]) ?_
  rw [aR]
  exact congrArg Value.bool (decide_eq_true oM)
 | false =>
  obtain rfl:=h2 h
  repeat' (refine jR ?_)
  refine jY (vs:=[_]) ?_
  rfl
--?fin
--?s0
open Go.Proofs
variable {G : Gh}
abbrev fm : TypeId:=55
abbrev adi : TypeId:=22
abbrev yI (b : Nat) (v : Value) : Own:=.blk b (.cells (List.toArray [v]) adi (0,0))
theorem pK : ∀ {q : List Int},(∀ n ∈ q,0 ≤ n ∧ n ≤ 999999) → dt (q.map be) ≤ 6 * q.length
 | [],_=>by simp [dt]
 | n :: q,h=>by
  have h1:=kw (h n (by simp)).2
  have h2:=pK (q:=q) fun x hx=>h x (by simp [hx])
  simp only [List.map_cons,dt,List.length_cons,List.sum_cons] at h2 ⊢
  omega
def mC (b : Nat) (qs : List c6) (n : Nat) (k : adB) (a w : V) : Prop:=∀ (G : Gh) (ca cw : VC) (q : List Int) (m0 : Nat) (pa : Option Addr) (pc bu : Nat) (p : Option Addr) (m cap : Nat) (out : List Ch),ScI G b qs → V.rep G a ca → V.rep G w cw → m0 = q.length → aT G (.slice pa m0 pc) 1 m0 (ah c9 (q.map be)) → (∀ n ∈ q,0 ≤ n ∧ n ≤ 999999) → q.length + n ≤ 1000 → m = out.length → m + (bL (al qs) n k a w q).length ≤ 1000000 →
 ff adA 26 [Pt b 0,Ag (cR k),Ag (bi ca),Ag (bi cw),.slice pa m0 pc,Pt bu 0] G [.acc (.slice p m cap) fm 2 m (ah cY out),yI bu (.slice p m cap)]
  (fun _ _ L'=>∃ p' cap',L' = [.acc (.slice p' (m + (bL (al qs) n k a w q).length) cap') fm 2 (m + (bL (al qs) n k a w q).length) (ah cY (out ++ (bL (al qs) n k a w q).map cZ)),yI bu (.slice p' (m + (bL (al qs) n k a w q).length) cap')])
theorem aar {b n : Nat} {qs : List c6} {k : adB} {a w : V} (hw : SchW (al qs)) (ta : a.tot ≤ 1000000) (tw : w.tot ≤ 1000000) (ho : a.out = w.out) : mC b qs (n + 1) k a w:=by
 intro G ca cw q m0 pa pc bu p m cap out hS hra hrw hm0 hsp hq hql hm hmx
 have e : bL (al qs) (n + 1) k a w q = []:=by rw [bL,if_pos ho]
 rw [e]
 simp only [List.length_nil,Nat.add_zero,List.map_nil,List.append_nil]
 obtain ⟨w1,x1,t1,ks1⟩:=a
 obtain ⟨w2,x2,t2,ks2⟩:=w
 obtain ⟨ka,kc,cs,rfl,_⟩:=cS hra
 obtain ⟨ka2,kc2,cs2,rfl,_⟩:=cS hrw
 have e1 : bi ⟨w1,x1,t1,ka,ks1.length,kc⟩ = [U8 (w1 : Nat),S x1,I t1,.slice ka ks1.length kc]:=rfl
 have e2 : bi ⟨w2,x2,t2,ka2,ks2.length,kc2⟩ = [U8 (w2 : Nat),S x2,I t2,.slice ka2 ks2.length kc2]:=rfl
 rw [e1,e2]
 rw [show cR k = [S (sg k),S (bs k),S (nm k)] from rfl]
 refine bK [(0,_),(1,_),(2,_),(3,_),(4,_),(5,_)] Tryz.func26 kR Tryz.ntmps26 F F tU fun B hB hW=>?_
 repeat' (first | refine jR ?_ | (refine jo ?_;refine jO fun _=>?_))
 rename_i x7 x8 x9 x10
 refine Nx.sealC (b:=x7) fun G1 h1 s7=>?_
 refine Nx.sealC (b:=x8) fun G2 h2 s8=>?_
 refine Nx.sealC (b:=x9) fun G3 h3 s9=>?_
 refine Nx.sealC (b:=x10) fun G4 h4 s10=>?_
 have s7:=((s7.mono h2).mono h3).mono h4
 have s8:=(s8.mono h3).mono h4
 have s9:=s9.mono h4
 have hG:=((h1.trans h2).trans h3).trans h4
 have cx_pr:=eh (G:=G4) _ (Nat.le_refl _) ta (aD hG hra)
 have cx_pr2:=eh (G:=G4) _ (Nat.le_refl _) tw (aD hG hrw)
 rw [e1] at cx_pr
 rw [e2] at cx_pr2
 repeat' (first | refine jR ?_ | refine ac F (ax ‹_›) ?_ | (refine an (ao (id:=1) _ (fun _ h=>h) am ?_);(refine jG (aa 5 1) 0 F (c8 F F aS F F) ?_);(refine jG (aa 5 5) 2 F (c8 F F aS F F) ?_);refine jA 1 F ?_;(refine ae F F F cx_pr F ?_);refine jS (aa 5 7) ?_;refine jA 3 F ?_;(refine ae F F F cx_pr2 F ?_);refine jS (aa 5 15) ?_;refine jT 0 [4] (aa 5 31) ?_;refine jQ ?_))
 exact aW (vs:=[]) F trivial F a7 ⟨hG,_,_,F⟩
theorem yt {b n : Nat} {qs : List c6} {k : adB} {a w : V} (hw : SchW (al qs)) (oa : OfK (al qs) k a) (ow : OfK (al qs) k w) (ta : a.tot ≤ 1000000) (tw : w.tot ≤ 1000000) (ho : ¬ a.out = w.out) (hd : ¬ bY a w = true) : mC b qs (n + 1) k a w:=by
 intro G ca cw q m0 pa pc bu p m cap out hS hra hrw hm0 hsp hq hql hm hmx
 have e : bL (al qs) (n + 1) k a w q = [(q,w)]:=by rw [bL,if_neg ho,if_neg hd]
 rw [e]
 simp only [List.length_singleton,List.map_cons,List.map_nil]
 have hwh:=o6 oa ow
 have hrow : ah cY (out ++ [cZ (q,w)]) = ah cY out ++ [S (cy q),S w.out]:=bW cY out (cZ (q,w))
 rw [hrow]
 have hmm : m ≤ 1000000:=oM
 have hcs : (a.what = 91 ∧ a.kids.length ≠ w.kids.length) ∨ (a.what = 63 ∧ a.kids.length ≠ 1) ∨ (a.what = 63 ∧ a.kids.length = 1 ∧ w.kids.length ≠ 1) ∨ (a.what = 85 ∧ a.tag ≠ w.tag) ∨ (a.what ≠ 91 ∧ a.what ≠ 63 ∧ a.what ≠ 85 ∧ a.what ≠ 82):=by
  by_cases h82 : a.what = 82
  ·exact absurd (by unfold bY;rw [if_pos h82]) hd
  by_cases h85 : a.what = 85
  ·refine .inr (.inr (.inr (.inl ⟨h85,fun h=>hd ?_⟩)))
   unfold bY
   rw [if_neg h82,if_pos h85]
   exact decide_eq_true h
  by_cases h91 : a.what = 91
  ·refine .inl ⟨h91,fun h=>?_⟩
   by_cases h0 : 0 < a.kids.length
   ·refine hd ?_
    unfold bY
    rw [if_neg h82,if_neg h85,if_pos (.inl h91)]
    exact decide_eq_true ⟨h,h0⟩
   ·have ha0:=List.length_eq_zero_iff.1 (show a.kids.length = 0 by omega)
    have hw0:=List.length_eq_zero_iff.1 (show w.kids.length = 0 by omega)
    refine ho ?_
    have h91w : w.what = 91:=hwh ▸ h91
    clear e hrow hd
    cases oa <;> first | (rw [V.what] at h91;omega) | skip
    cases ow <;> first | (rw [V.what] at h91w;omega) | skip
    rw [V.kids] at ha0 hw0
    rw [ha0,hw0]
  by_cases h63 : a.what = 63
  ·by_cases h1 : a.kids.length = 1
   ·refine .inr (.inr (.inl ⟨h63,h1,fun h=>hd ?_⟩))
    unfold bY
    rw [if_neg h82,if_neg h85,if_pos (.inr h63)]
    exact decide_eq_true ⟨oM,oM⟩
   ·exact .inr (.inl ⟨h63,h1⟩)
  exact .inr (.inr (.inr (.inr ⟨h91,h63,h85,h82⟩)))
 have hle0:=pK hq
 have hml : m0 = (q.map be).length:=by simp [hm0]
 obtain ⟨w1,x1,t1,ks1⟩:=a
 obtain ⟨w2,x2,t2,ks2⟩:=w
 simp only [V.what,V.kids,V.tag] at hcs
 obtain ⟨ka,kc,cs,rfl,_⟩:=cS hra
 obtain ⟨ka2,kc2,cs2,rfl,_⟩:=cS hrw
 have e1 : bi ⟨w1,x1,t1,ka,ks1.length,kc⟩ = [U8 (w1 : Nat),S x1,I t1,.slice ka ks1.length kc]:=rfl
 have e2 : bi ⟨w2,x2,t2,ka2,ks2.length,kc2⟩ = [U8 (w2 : Nat),S x2,I t2,.slice ka2 ks2.length kc2]:=rfl
 rw [e1,e2]
 rw [show cR k = [S (sg k),S (bs k),S (nm k)] from rfl]
 have go : ∀ G4,Gh.le G G4 → aZ adA 68 [.slice pa m0 pc,S [47]] G4 (· = S (cy q)):=fun G4 h4=>by
  have hs2 : aT G4 (.slice pa m0 pc) 1 (q.map be).length (ah c9 (q.map be)):=by rw [← hml];exact hsp.mono h4
  exact xi (c:=47) hs2 oM
 clear hle0 hml
 rcases hcs with ⟨rfl,hc1⟩ | ⟨rfl,hc1⟩ | ⟨rfl,hc1,hc2⟩ | ⟨rfl,hc1⟩ | ⟨hc1,hc2,hc3,hc4⟩
 all_goals
  refine bK [(0,_),(1,_),(2,_),(3,_),(4,_),(5,_)] Tryz.func26 kR Tryz.ntmps26 F F tU fun B hB hW=>?_
  repeat' (first | refine jR ?_ | (refine jo ?_;refine jO fun _=>?_))
  rename_i x7 x8 x9 x10
  refine Nx.sealC (b:=x7) fun G1 h1 s7=>?_
  refine Nx.sealC (b:=x8) fun G2 h2 s8=>?_
  refine Nx.sealC (b:=x9) fun G3 h3 s9=>?_
  refine Nx.sealC (b:=x10) fun G4 h4 s10=>?_
  have s7:=((s7.mono h2).mono h3).mono h4
  have s8:=(s8.mono h3).mono h4
  have s9:=s9.mono h4
  have hG:=((h1.trans h2).trans h3).trans h4
  have cx_pr:=eh (G:=G4) _ (Nat.le_refl _) ta (aD hG hra)
  have cx_pr2:=eh (G:=G4) _ (Nat.le_refl _) tw (aD hG hrw)
  have cx_join:=go G4 hG
  rw [e1] at cx_pr
  rw [e2] at cx_pr2
  (refine an (ao (id:=1) _ (fun _ h=>h) am ?_);(refine jG (aa 5 1) 0 F (c8 F F aS F F) ?_);(refine jG (aa 5 5) 2 F (c8 F F aS F F) ?_);refine jA 1 F ?_;(refine ae F F F cx_pr F ?_);refine jS (aa 5 7) ?_;refine jA 3 F ?_;(refine ae F F F cx_pr2 F ?_);refine jS (aa 5 15) ?_;refine jT 0 [4] (aa 5 31) ?_;refine jQ ?_)
  repeat' (first | refine jR ?_ | (refine jo ?_;first | refine jV (ew F F aS F) ?_ | refine jV (aj F F aS F F) ?_ | refine jV (l3 F F) ?_ | refine jV (af F) ?_ | refine aP F ?_ | refine aE F ?_) | (refine aG F F (by first | rfl | (refine decide_eq_true ?_;(omega))) ?_) | (refine aw F F (by first | rfl | (refine decide_eq_false ?_;(omega))) ?_) | (refine ad F (by first | rfl | (refine decide_eq_false ?_;first | assumption | omega)) ?_))
  (refine an (ao (id:=23) [] (fun _ h=>absurd h (by simp)) am ?_);refine jW 10 [0,1,2] (aa 13 7) ?_;(refine jG (aa 13 23) 4 F (ew F F aS F) ?_);(refine jG (aa 13 87) 6 F (c8 F F aS F F) ?_);refine b7 [3,5] kR dC ⟨?_,?_,trivial⟩;(focus (refine aM F F ?_;(refine aB F ?_);refine jK (aa 13 95) ?_;refine jA 5 F ?_;(refine ae F F F cx_join F ?_);refine jK (aa 13 127) ?_;refine jA 7 F ?_;(refine ae F F F cx_pr2 F ?_);refine jK (aa 13 255) ?_;(refine jG (aa 13 511) 8 F (ay F F) ?_);refine jA 9 F ?_;(refine jF fun _=>?_);refine jK (aa 13 1023) ?_;refine jA 10 F ?_;((refine bC F F F F F F F F F ?_ fun _ _=>?_;focus omega));refine jK (aa 13 2047) ?_;refine jW 1 [11] (aa 13 4095) ?_;refine jA 12 F ?_;(refine jD F F F ?_);refine jK (aa 13 8191) ?_;refine jQ ?_));rotate_left 1;(focus (refine aM F F ?_;(refine ae F F F cx_join F ?_);refine jK (aa 13 119) ?_;refine b7 [3,7] kR dC ⟨?_,?_,trivial⟩;(focus (refine aM F F ?_;(refine aB F ?_);refine jK (aa 13 127) ?_;refine jA 7 F ?_;(refine ae F F F cx_pr2 F ?_);refine jK (aa 13 255) ?_;(refine jG (aa 13 511) 8 F (ay F F) ?_);refine jA 9 F ?_;(refine jF fun _=>?_);refine jK (aa 13 1023) ?_;refine jA 10 F ?_;((refine bC F F F F F F F F F ?_ fun _ _=>?_;focus omega));refine jK (aa 13 2047) ?_;refine jW 1 [11] (aa 13 4095) ?_;refine jA 12 F ?_;(refine jD F F F ?_);refine jK (aa 13 8191) ?_;refine jQ ?_));rotate_left 1;(focus (refine aM F F ?_;(refine ae F F F cx_pr2 F ?_);refine jK (aa 13 247) ?_;(refine jG (aa 13 503) 8 F (ay F F) ?_);refine b7 [3,9] kR dC ⟨?_,?_,trivial⟩;(focus (refine aM F F ?_;(refine aB F ?_);refine jK (aa 13 511) ?_;refine jA 9 F ?_;(refine jF fun _=>?_);refine jK (aa 13 1023) ?_;refine jA 10 F ?_;((refine bC F F F F F F F F F ?_ fun _ _=>?_;focus omega));refine jK (aa 13 2047) ?_;refine jW 1 [11] (aa 13 4095) ?_;refine jA 12 F ?_;(refine jD F F F ?_);refine jK (aa 13 8191) ?_;refine jQ ?_));rotate_left 1;(focus (refine aM F F ?_;(refine jF fun _=>?_);refine jK (aa 13 1015) ?_;refine jA 3 F ?_;(refine aB F ?_);refine jK (aa 13 1023) ?_;refine jA 10 F ?_;((refine bC F F F F F F F F F ?_ fun _ _=>?_;focus omega));refine jK (aa 13 2047) ?_;refine jW 1 [11] (aa 13 4095) ?_;refine jA 12 F ?_;(refine jD F F F ?_);refine jK (aa 13 8191) ?_;refine jQ ?_));rotate_left 1));rotate_left 2));rotate_left 3)
  all_goals repeat' (fail)
  all_goals exact ku (vs:=[]) F trivial F sB ⟨hG,_,_,F⟩
--?fin
--?s0
open Go.Proofs
section
variable {P : Program} {n : Nat} {D : List Deferred} {E : bN} {B : Base} {G : Gh} {L : List Own} {K : Act → World → Prop} {Q : Exit → Act → World → Prop} {ty : TypeId} {pos : String} {aft : Array Edge}
theorem lv {fo : Operand} {l : List Operand} {ag : Array TypeId} {g : Option (Nat × Bool)} {f : FuncId} {fi ca az vs : List Value} {b1 : Nat} {cs1 xs : List Value} {T1 el : TypeId} {u : Value} {sz m : Nat} {R1 R : List Own} {Post : Value → Gh → List Own → Prop} {d : Nat}
  [hd : DelB L b1 cs1 T1 R1] [ha2 : AccI R1 u el sz m xs R] (hf : ev E fo = some (.func (.func f) fi.toArray ca.toArray)) (ha : evs E l = some az) (hv : fi ++ az ++ ca = vs) (hc : ff P f vs G [.acc u el sz m xs,.blk b1 (.cells cs1.toArray T1 (0,0))] Post) (hlt : Nat.blt d n = true)
  (k : ∀ v G' L',Gh.le G G' → Post v G' L' → Nx n D ((d,v) :: E) B G' (L' ++ R) K) : Nx n D E B G L (ow P ⟨some d,.call ⟨.value fo,l.toArray,ag⟩,ty,pos,aft,g⟩ Q K) :=
 iC (Lp:=[.acc u el sz m xs,.blk b1 (.cells cs1.toArray T1 (0,0))]) hf ha hv hc ((hd.del.perm.trans (ha2.del.perm.cons _)).trans (List.Perm.swap _ _ _)) hlt fun v G' L' h=>k v G' L' h.1 h.2
end
variable {G : Gh}
abbrev fDp : FuncId:=61
theorem aas {b n : Nat} {qs : List c6} {k : adB} {ks1 ks2 : List V} (hw : SchW (al qs)) (oa : OfK (al qs) (91 :: k) (.nd 91 [] 0 ks1)) (ow : OfK (al qs) (91 :: k) (.nd 91 [] 0 ks2)) (hk : aA (al qs) (91 :: k) = true) (ta : (V.nd 91 [] 0 ks1).tot ≤ 1000000) (tw : (V.nd 91 [] 0 ks2).tot ≤ 1000000)
  (ho : ¬ (V.nd 91 [] 0 ks1).out = (V.nd 91 [] 0 ks2).out) (hd : bY (.nd 91 [] 0 ks1) (.nd 91 [] 0 ks2) = true) (ih : ∀ i ∈ aU (.nd 91 [] 0 ks1) (.nd 91 [] 0 ks2),∀ k1 y z,aC (al qs) (91 :: k) (.nd 91 [] 0 ks1) i = some (k1,y) → aC (al qs) (91 :: k) (.nd 91 [] 0 ks2) i = some (k1,z) → mC b qs n k1 y z) :
  mC b qs (n + 1) (91 :: k) (.nd 91 [] 0 ks1) (.nd 91 [] 0 ks2):=by
 intro G ca cw q m0 pa pc bu p m cap out hS hra hrw hm0 hsp hq hql hm hmx
 have e:=uH (ts:=al qs) (n:=n) (k:=91 :: k) (q:=q) ho hd
 rw [e] at hmx ⊢
 have hl : ks1.length = ks2.length:=by
  unfold bY at hd
  rw [V.what,if_neg dC,if_neg dC,if_pos (.inl rfl)] at hd
  exact (of_decide_eq_true hd).1
 have hstl:=qX (b:=.nd 91 [] 0 ks2) oa
 have hsv : aU (.nd 91 [] 0 ks1) (.nd 91 [] 0 ks2) = my ks1.length:=by unfold aU;rw [V.what,if_pos (.inl rfl)];rfl
 have hsl : (aU (.nd 91 [] 0 ks1) (.nd 91 [] 0 ks2)).length = ks1.length:=by rw [hsv,qm]
 have hsn : ∀ i,i < ks1.length → ab (aU (.nd 91 [] 0 ks1) (.nd 91 [] 0 ks2)) i = (i : Int):=fun i hi=>by
  rw [hsv,aI (by rw [qm];exact hi)]
  unfold my
  simp
 rw [hsl] at hmx hstl ⊢
 obtain ⟨ka,kc,cs,rfl,_,_,_,hcl,hsk,hrs⟩:=cS hra
 obtain ⟨ka2,kc2,cs2,rfl,_,_,_,hcl2,hsk2,hrs2⟩:=cS hrw
 obtain ⟨f1,f2,f3,_⟩:=hJ (c:=91) (k:=k) (.inl rfl)
 have e1 : bi ⟨91,[],0,ka,ks1.length,kc⟩ = [U8 (91 : Nat),S [],I 0,.slice ka ks1.length kc]:=rfl
 have e2 : bi ⟨91,[],0,ka2,ks2.length,kc2⟩ = [U8 (91 : Nat),S [],I 0,.slice ka2 ks2.length kc2]:=rfl
 rw [e1,e2]
 rw [show cR (91 :: k) = [S (91 :: sg k),S (bs k),S (nm k)] by unfold cR;rw [f1,f2,f3]]
 refine bK [(0,_),(1,_),(2,_),(3,_),(4,_),(5,_)] Tryz.func26 kR Tryz.ntmps26 F F tU fun B hB hW=>?_
 repeat' (first | refine jR ?_ | (refine jo ?_;refine jO fun _=>?_))
 rename_i x7 x8 x9 x10
 refine Nx.sealC (b:=x7) fun G1 h1 s7=>?_
 refine Nx.sealC (b:=x8) fun G2 h2 s8=>?_
 refine Nx.sealC (b:=x9) fun G3 h3 s9=>?_
 refine Nx.sealC (b:=x10) fun G4 h4 s10=>?_
 have s7:=((s7.mono h2).mono h3).mono h4
 have s8:=(s8.mono h3).mono h4
 have s9:=s9.mono h4
 have hG:=((h1.trans h2).trans h3).trans h4
 have cx_pr:=eh (G:=G4) _ (Nat.le_refl _) ta (aD hG hra)
 have cx_pr2:=eh (G:=G4) _ (Nat.le_refl _) tw (aD hG hrw)
 rw [e1] at cx_pr
 rw [e2] at cx_pr2
 (refine an (ao (id:=1) _ (fun _ h=>h) am ?_);(refine jG (aa 5 1) 0 F (c8 F F aS F F) ?_);(refine jG (aa 5 5) 2 F (c8 F F aS F F) ?_);refine jA 1 F ?_;(refine ae F F F cx_pr F ?_);refine jS (aa 5 7) ?_;refine jA 3 F ?_;(refine ae F F F cx_pr2 F ?_);refine jS (aa 5 15) ?_;refine jT 0 [4] (aa 5 31) ?_;refine jQ ?_)
 repeat' (first | refine jR ?_ | (refine jo ?_;first | refine jV (ew F F aS F) ?_ | refine jV (aj F F aS F F) ?_ | refine jV (l3 F F) ?_ | refine jV (af F) ?_ | refine aP F ?_) | refine aG F F F ?_ | refine ac F (ax oM) ?_ | refine ad F (aF ‹_›) ?_)
 rw [show ah cY out = ah cY (out ++ (dm (al qs) n (91 :: k) (.nd 91 [] 0 ks1) (.nd 91 [] 0 ks2) q 0).map cZ) by rw [show dm (al qs) n (91 :: k) (.nd 91 [] 0 ks1) (.nd 91 [] 0 ks2) q 0 = [] from rfl,List.map_nil,List.append_nil]]
 refine aV (ι:=Nat × Option Addr × Nat × Gh) (fun i=>i.1 ≤ ks1.length ∧ Gh.le G4 i.2.2.2) (fun i=>[(0,Pt b 0),(5,Pt bu 0),(7,Pt x7 0),(8,Pt x8 0),(9,Pt x9 0),(12,.func (.func fDp) (List.toArray []) (List.toArray [Pt x10 0])),(39,I ks1.length),(40,I i.1)]) (fun i=>i.2.2.2) (fun i=>[.acc (.slice i.2.1 (m + (dm (al qs) n (91 :: k) (.nd 91 [] 0 ks1) (.nd 91 [] 0 ks2) q i.1).length) i.2.2.1) fm 2 (m + (dm (al qs) n (91 :: k) (.nd 91 [] 0 ks1) (.nd 91 [] 0 ks2) q i.1).length) (ah cY (out ++ (dm (al qs) n (91 :: k) (.nd 91 [] 0 ks1) (.nd 91 [] 0 ks2) q i.1).map cZ)),yI bu (.slice i.2.1 (m + (dm (al qs) n (91 :: k) (.nd 91 [] 0 ks1) (.nd 91 [] 0 ks2) q i.1).length) i.2.2.1)]) (fun i=>ks1.length - i.1) (0,p,cap,G4) ?_ tU F a7 (fun i Hi=>?_)
 ·exact ⟨Nat.zero_le _,Gh.le.refl _⟩
 obtain ⟨i,p,cap,Gq⟩:=i
 dsimp only at Hi ⊢
 obtain ⟨hi0,hgq⟩:=Hi
 by_cases hi : i < ks1.length
 ·have hin : (i : Int) ∈ aU (.nd 91 [] 0 ks1) (.nd 91 [] 0 ks2):=by rw [← hsn i hi];exact bB oM
  have st1 : aC (al qs) (91 :: k) (.nd 91 [] 0 ks1) (i : Int) = some (k,ab ks1 i):=by
   rw [dU (.inl rfl),V.kids,if_pos oM];rfl
  have st2 : aC (al qs) (91 :: k) (.nd 91 [] 0 ks2) (i : Int) = some (k,ab ks2 i):=by
   rw [dU (.inl rfl),V.kids,if_pos oM];rfl
  have hps:=sK (ts:=al qs) (k:=91 :: k) (a:=.nd 91 [] 0 ks1) (b:=.nd 91 [] 0 ks2) (n:=n) (q:=q) (i:=i) (by rw [hsl];exact hi) (by rw [hsn i hi];exact st1) (by rw [hsn i hi];exact st2)
  rw [hsn i hi] at hps
  have hpe:=wu (ts:=al qs) (n:=n) (k:=91 :: k) (a:=.nd 91 [] 0 ks1) (b:=.nd 91 [] 0 ks2) (q:=q) (i + 1)
  rw [hsl] at hpe
  have hbt:=ih _ hin _ _ _ st1 st2
  generalize hPi : dm (al qs) n (91 :: k) (.nd 91 [] 0 ks1) (.nd 91 [] 0 ks2) q i = Di at *
  have hN1 : m + (dm (al qs) n (91 :: k) (.nd 91 [] 0 ks1) (.nd 91 [] 0 ks2) q (i + 1)).length = m + Di.length + (bL (al qs) n k (ab ks1 i) (ab ks2 i) (q ++ [(i : Int)])).length:=by rw [hps,List.length_append,Nat.add_assoc]
  have hN2 : out ++ (dm (al qs) n (91 :: k) (.nd 91 [] 0 ks1) (.nd 91 [] 0 ks2) q (i + 1)).map cZ = out ++ Di.map cZ ++ (bL (al qs) n k (ab ks1 i) (ab ks2 i) (q ++ [(i : Int)])).map cZ:=by rw [hps,List.map_append,List.append_assoc]
  have hmo : m + Di.length = (out ++ Di.map cZ).length:=by rw [List.length_append,List.length_map,hm]
  have hq2 : ∀ n ∈ q ++ [(i : Int)],0 ≤ n ∧ n ≤ 999999:=k9 hq ⟨oM,oM⟩
  have s7:=s7.mono hgq
  have s8:=s8.mono hgq
  have s9:=s9.mono hgq
  have s10:=s10.mono hgq
  have hGq:=hG.trans hgq
  have hrc:=fV (cL hGq hrs) i hi
  have hrc2:=fV (cL hGq hrs2) i oM
  obtain ⟨xb,xo,xc,ee,hsx⟩:=(hsk.mono hGq).expl oM
  simp only [Value.slice.injEq] at ee
  obtain ⟨rfl,-,rfl⟩:=ee
  obtain ⟨yb,yo,yc,ee,hsy⟩:=(hsk2.mono hGq).expl oM
  simp only [Value.slice.injEq] at ee
  obtain ⟨rfl,-,rfl⟩:=ee
  have hxi : ab cs i = ab cs i:=rfl
  have hyi : ab cs2 i = ab cs2 i:=rfl
  have cx_pt:=@lr Gq 91 (sg k) (bs k) (nm k)
  have cx_dp:=mo (G:=Gq) (i:=(i : Int)) s10 hm0 (hsp.mono hGq) ⟨oM,oM⟩ oM
  have cx_bt:=fun (G5 : Gh) (h5 : Gh.le Gq G5) (pa2 : Option Addr) (pc2 : Nat) (hs5 : aT G5 (.slice pa2 (m0 + 1) pc2) 1 (m0 + 1) (ah c9 ((q ++ [(i : Int)]).map be))) =>
   hbt G5 (ab cs i) (ab cs2 i) (q ++ [(i : Int)]) (m0 + 1) pa2 pc2 bu p (m + Di.length) cap (out ++ Di.map cZ) (hS.mono (hGq.trans h5)) (aD h5 hrc) (aD h5 hrc2) (by rw [List.length_append,hm0];rfl) hs5 hq2 (by rw [List.length_append,List.length_singleton];omega) hmo oM
  unfold cR at cx_bt
  repeat' (first | refine jR ?_ | refine ac F (ax oM) ?_)
  (refine an (ao (id:=7) [] (fun _ h=>absurd h (by simp)) am ?_);refine jW 10 [0,3,5,8,10,13,14,16] (aa 18 91433) ?_;(refine jG (aa 18 91435) 1 F (c8 F F aS F F) ?_);(refine jG (aa 18 91451) 4 F (aj F F aS F F) ?_);((refine jG (aa 18 91515) 6 F (ak F F ?_) ?_;focus omega));((refine jG (aa 18 91643) 7 F (gQ F F aS ?_ aS) ?_;focus omega));(refine jG (aa 18 92155) 9 F (aj F F aS F F) ?_);((refine jG (aa 18 94203) 11 F (ak F F ?_) ?_;focus omega));((refine jG (aa 18 98299) 12 F (gQ F F aS ?_ aS) ?_;focus omega));refine jA 2 F ?_;(refine ae F F F cx_pt F ?_);refine jK (aa 18 98303) ?_;refine jA 15 F ?_;(refine ar F F F cx_dp F ?_;rintro _ G5 hle5 ⟨pa2,pc2,rfl,hs5⟩);refine jK (aa 18 131071) ?_;refine jA 17 F ?_;(refine lv F F F (cx_bt _ hle5 _ _ hs5) F ?_;rintro _ G6 _ hle6 ⟨av,cv,rfl⟩;dsimp only [zA,fA];(have hle6:=Gh.le.trans hle5 hle6));refine jK (aa 18 262143) ?_;refine jQ ?_)
  all_goals repeat' (refine jM ?_)
  all_goals exact bm (i + 1,av,cv,G6) ⟨by dsimp only;omega,hgq.trans hle6⟩ (by dsimp only;omega) tU rfl (by dsimp only;rw [hN1,hN2];repeat (exact List.Sublist.refl _))
 ·obtain rfl : i = ks1.length:=oM
  repeat' (first | refine jR ?_ | refine ad F (aF oM) ?_)
  exact aW (vs:=[]) F trivial F a7 ⟨hG.trans hgq,_,_,F⟩
--?fin
--?s0
open Go.Proofs
variable {G : Gh}
theorem tv {ts : List Ty} {n : Nat} {k k1 : adB} {a w y z : V} {q : List Int} {i : Int} (ho : ¬ a.out = w.out) (hd : bY a w = true) (hs : aU a w = [i]) (e1 : aC ts k a i = some (k1,y)) (e2 : aC ts k w i = some (k1,z)) : bL ts (n + 1) k a w q = bL ts n k1 y z (q ++ [i]):=by
 rw [bL,if_neg ho,if_pos hd,hs,List.flatMap_singleton,e1,e2]
theorem abY {b n : Nat} {qs : List c6} {k : adB} {v1 v2 : V} (hw : SchW (al qs)) (ta : (V.nd 63 [] 0 [v1]).tot ≤ 1000000) (tw : (V.nd 63 [] 0 [v2]).tot ≤ 1000000)
  (ho : ¬ (V.nd 63 [] 0 [v1]).out = (V.nd 63 [] 0 [v2]).out) (ih : mC b qs n k v1 v2) : mC b qs (n + 1) (63 :: k) (.nd 63 [] 0 [v1]) (.nd 63 [] 0 [v2]):=by
 intro G ca cw q m0 pa pc bu p m cap out hS hra hrw hm0 hsp hq hql hm hmx
 have hd : bY (.nd 63 [] 0 [v1]) (.nd 63 [] 0 [v2]) = true:=rfl
 have e:=tv (ts:=al qs) (n:=n) (k:=63 :: k) (k1:=k) (y:=v1) (z:=v2) (q:=q) (i:=0) ho hd rfl (by rw [dU (.inr rfl)];rfl) (by rw [dU (.inr rfl)];rfl)
 rw [e] at hmx ⊢
 obtain ⟨ka,kc,cs,rfl,_,_,_,hcl,hsk,hrs⟩:=cS hra
 obtain ⟨ka2,kc2,cs2,rfl,_,_,_,hcl2,hsk2,hrs2⟩:=cS hrw
 obtain ⟨f1,f2,f3,_⟩:=hJ (c:=63) (k:=k) (.inr rfl)
 have e1 : bi ⟨63,[],0,ka,([v1] : List V).length,kc⟩ = [U8 (63 : Nat),S [],I 0,.slice ka 1 kc]:=rfl
 have e2 : bi ⟨63,[],0,ka2,([v2] : List V).length,kc2⟩ = [U8 (63 : Nat),S [],I 0,.slice ka2 1 kc2]:=rfl
 rw [e1,e2]
 rw [show cR (63 :: k) = [S (63 :: sg k),S (bs k),S (nm k)] by unfold cR;rw [f1,f2,f3]]
 rw [V.reps] at hrs hrs2
 obtain ⟨c1,cs1,rfl,hr1,hr1'⟩:=hrs
 obtain ⟨c2,cs3,rfl,hr2,hr2'⟩:=hrs2
 rw [V.reps] at hr1' hr2'
 subst hr1' hr2'
 have hsk : aT G (.slice ka 1 kc) 4 ([c1] : List VC).length (ah bi [c1]):=hsk
 have hsk2 : aT G (.slice ka2 1 kc2) 4 ([c2] : List VC).length (ah bi [c2]):=hsk2
 have hq2 : ∀ n ∈ q ++ [(0 : Int)],0 ≤ n ∧ n ≤ 999999:=k9 hq ⟨oM,oM⟩
 have cx_pr0:=ta
 refine bK [(0,_),(1,_),(2,_),(3,_),(4,_),(5,_)] Tryz.func26 kR Tryz.ntmps26 F F tU fun B hB hW=>?_
 repeat' (first | refine jR ?_ | (refine jo ?_;refine jO fun _=>?_))
 rename_i x7 x8 x9 x10
 refine Nx.sealC (b:=x7) fun G1 h1 s7=>?_
 refine Nx.sealC (b:=x8) fun G2 h2 s8=>?_
 refine Nx.sealC (b:=x9) fun G3 h3 s9=>?_
 refine Nx.sealC (b:=x10) fun G4 h4 s10=>?_
 have s7:=((s7.mono h2).mono h3).mono h4
 have s8:=(s8.mono h3).mono h4
 have s9:=s9.mono h4
 have hG:=((h1.trans h2).trans h3).trans h4
 have cx_pr:=eh (G:=G4) _ (Nat.le_refl _) ta (aD hG hra)
 have cx_pr2:=eh (G:=G4) _ (Nat.le_refl _) tw (aD hG hrw)
 rw [e1] at cx_pr
 rw [e2] at cx_pr2
 (refine an (ao (id:=1) _ (fun _ h=>h) am ?_);(refine jG (aa 5 1) 0 F (c8 F F aS F F) ?_);(refine jG (aa 5 5) 2 F (c8 F F aS F F) ?_);refine jA 1 F ?_;(refine ae F F F cx_pr F ?_);refine jS (aa 5 7) ?_;refine jA 3 F ?_;(refine ae F F F cx_pr2 F ?_);refine jS (aa 5 15) ?_;refine jT 0 [4] (aa 5 31) ?_;refine jQ ?_)
 obtain ⟨xb,xo,xc,ee,hsx⟩:=(hsk.mono hG).expl (by simp)
 simp only [Value.slice.injEq] at ee
 obtain ⟨rfl,-,rfl⟩:=ee
 obtain ⟨yb,yo,yc,ee,hsy⟩:=(hsk2.mono hG).expl (by simp)
 simp only [Value.slice.injEq] at ee
 obtain ⟨rfl,-,rfl⟩:=ee
 have hxi : ab [c1] (Int.toNat 0) = c1:=rfl
 have hyi : ab [c2] (Int.toNat 0) = c2:=rfl
 have cx_pt:=@lr G4 63 (sg k) (bs k) (nm k)
 have cx_dp:=mo (G:=G4) (i:=0) s10 hm0 (hsp.mono hG) ⟨oM,oM⟩ oM
 have cx_bt:=fun (G5 : Gh) (h5 : Gh.le G4 G5) (pa2 : Option Addr) (pc2 : Nat) (hs5 : aT G5 (.slice pa2 (m0 + 1) pc2) 1 (m0 + 1) (ah c9 ((q ++ [(0 : Int)]).map be))) =>
  ih G5 c1 c2 (q ++ [(0 : Int)]) (m0 + 1) pa2 pc2 bu p m cap out (hS.mono (hG.trans h5)) (aD (hG.trans h5) hr1) (aD (hG.trans h5) hr2) (by rw [List.length_append,hm0];rfl) hs5 hq2 (by rw [List.length_append,List.length_singleton];omega) hm hmx
 unfold cR at cx_bt
 repeat' (first | refine jR ?_ | (refine jo ?_;first | refine jV (ew F F aS F) ?_ | refine jV (aj F F aS F F) ?_ | refine jV (l3 F F) ?_ | refine jV (af F) ?_ | refine aP F ?_ | refine aE F ?_) | refine aG F F F ?_ | refine aw F F F ?_ | refine ac F F ?_ | (refine ad F (by first | rfl | (refine decide_eq_false ?_;(assumption))) ?_))
 (refine an (ao (id:=10) [] (fun _ h=>absurd h (by simp)) am ?_);refine jW 10 [0,3,7,11,13] (aa 15 10377) ?_;(refine jG (aa 15 10379) 1 F (c8 F F aS F F) ?_);(refine jG (aa 15 10395) 4 F (aj F F aS F F) ?_);((refine jG (aa 15 10427) 5 F (aQ F F ?_) ?_;focus omega));(refine jG (aa 15 10491) 6 F (c8 F F aS F F) ?_);(refine jG (aa 15 10747) 8 F (aj F F aS F F) ?_);((refine jG (aa 15 11259) 9 F (aQ F F ?_) ?_;focus omega));(refine jG (aa 15 12283) 10 F (c8 F F aS F F) ?_);refine jA 2 F ?_;(refine ae F F F cx_pt F ?_);refine jK (aa 15 12287) ?_;refine jA 12 F ?_;(refine ar F F F cx_dp F ?_;rintro _ G5 hle5 ⟨pa2,pc2,rfl,hs5⟩);refine jK (aa 15 16383) ?_;refine jA 14 F ?_;(refine lv F F F (cx_bt _ hle5 _ _ hs5) F ?_;rintro _ G6 _ hle6 ⟨av,cv,rfl⟩;dsimp only [zA,fA];(have hle6:=Gh.le.trans hle5 hle6));refine jK (aa 15 32767) ?_;refine jQ ?_)
 all_goals repeat' (refine jR ?_)
 all_goals exact aW (vs:=[]) F trivial F a7 ⟨hG.trans hle6,_,_,F⟩
theorem abW {b n : Nat} {qs : List c6} {k : adB} {t : Ty} {d : Fld} {v1 v2 : V} (hw : SchW (al qs)) (hki : aA (al qs) k = true) (hrf : a8 (al qs) k = some t) (hs82 : t.sort ≠ 82) (hs69 : t.sort ≠ 69) (hdm : d ∈ t.fields) (ta : (V.nd 85 [] d.tag [v1]).tot ≤ 1000000) (tw : (V.nd 85 [] d.tag [v2]).tot ≤ 1000000)
  (ho : ¬ (V.nd 85 [] d.tag [v1]).out = (V.nd 85 [] d.tag [v2]).out) (hst : aU (.nd 85 [] d.tag [v1]) (.nd 85 [] d.tag [v2]) = [d.tag]) (ih : mC b qs n d.kind v1 v2) : mC b qs (n + 1) k (.nd 85 [] d.tag [v1]) (.nd 85 [] d.tag [v2]):=by
 intro G ca cw q m0 pa pc bu p m cap out hS hra hrw hm0 hsp hq hql hm hmx
 have hTW:=hw.ty t (bj hrf)
 have hdt:=(hTW.fld d hdm).tag
 have hfd : co t.fields d.tag = some d:=by
  cases h : co t.fields d.tag with
  | none =>
   have:=List.find?_eq_none.1 h d hdm
   simp at this
  | some f =>
   have h1:=List.mem_of_find?_eq_some h
   have h2 : f.tag = d.tag:=by have:=List.find?_some h;simpa using this
   rw [eW hTW h1 hdm h2]
 have hd : bY (.nd 85 [] d.tag [v1]) (.nd 85 [] d.tag [v2]) = true:=by unfold bY;rw [V.what,if_neg dC,if_pos rfl];exact decide_eq_true F
 have e:=tv (ts:=al qs) (n:=n) (k:=k) (k1:=d.kind) (y:=v1) (z:=v2) (q:=q) (i:=d.tag) ho hd hst
  (by rw [em hrf,hfd];dsimp only;rw [if_neg hs69,if_neg hs82,if_pos (show V.tag (.nd 85 [] d.tag [v1]) = d.tag from rfl)];rfl) (by rw [em hrf,hfd];dsimp only;rw [if_neg hs69,if_neg hs82,if_pos (show V.tag (.nd 85 [] d.tag [v2]) = d.tag from rfl)];rfl)
 rw [e] at hmx ⊢
 obtain ⟨hkd,pt,hfq,hqm⟩:=lU hki hrf
 obtain ⟨fv,ln,hsg,hfv⟩:=hS.ty _ hqm
 dsimp only at hsg hfv
 have hkv:=fX qs (nm k)
 rw [hfq] at hkv
 dsimp only [Option.map_some] at hkv
 obtain ⟨u,mm,g1,g2,g3⟩:=hS.at'
 have hfl:=hTW.len
 obtain ⟨j,hj,hjf,hjn,hjx⟩:=gw hfd
 obtain ⟨bf,of,cf,rfl,hsf⟩:=hfv.expl oM
 rw [hkd]
 obtain ⟨ka,kc,cs,rfl,_,_,_,hcl,hsk,hrs⟩:=cS hra
 obtain ⟨ka2,kc2,cs2,rfl,_,_,_,hcl2,hsk2,hrs2⟩:=cS hrw
 have e1 : bi ⟨85,[],d.tag,ka,([v1] : List V).length,kc⟩ = [U8 (85 : Nat),S [],I d.tag,.slice ka 1 kc]:=rfl
 have e2 : bi ⟨85,[],d.tag,ka2,([v2] : List V).length,kc2⟩ = [U8 (85 : Nat),S [],I d.tag,.slice ka2 1 kc2]:=rfl
 rw [e1,e2]
 rw [V.reps] at hrs hrs2
 obtain ⟨c1,cs1,rfl,hr1,hr1'⟩:=hrs
 obtain ⟨c2,cs3,rfl,hr2,hr2'⟩:=hrs2
 rw [V.reps] at hr1' hr2'
 subst hr1' hr2'
 have hsk : aT G (.slice ka 1 kc) 4 ([c1] : List VC).length (ah bi [c1]):=hsk
 have hsk2 : aT G (.slice ka2 1 kc2) 4 ([c2] : List VC).length (ah bi [c2]):=hsk2
 have hq2 : ∀ n ∈ q ++ [d.tag],0 ≤ n ∧ n ≤ 999999:=k9 hq ⟨oM,oM⟩
 refine bK [(0,_),(1,_),(2,_),(3,_),(4,_),(5,_)] Tryz.func26 kR Tryz.ntmps26 F F tU fun B hB hW=>?_
 repeat' (first | refine jR ?_ | (refine jo ?_;refine jO fun _=>?_))
 rename_i x7 x8 x9 x10
 refine Nx.sealC (b:=x7) fun G1 h1 s7=>?_
 refine Nx.sealC (b:=x8) fun G2 h2 s8=>?_
 refine Nx.sealC (b:=x9) fun G3 h3 s9=>?_
 refine Nx.sealC (b:=x10) fun G4 h4 s10=>?_
 have s7:=((s7.mono h2).mono h3).mono h4
 have s8:=(s8.mono h3).mono h4
 have s9:=s9.mono h4
 have hG:=((h1.trans h2).trans h3).trans h4
 have cx_pr:=eh (G:=G4) _ (Nat.le_refl _) ta (aD hG hra)
 have cx_pr2:=eh (G:=G4) _ (Nat.le_refl _) tw (aD hG hrw)
 rw [e1] at cx_pr
 rw [e2] at cx_pr2
 (refine an (ao (id:=1) _ (fun _ h=>h) am ?_);(refine jG (aa 5 1) 0 F (c8 F F aS F F) ?_);(refine jG (aa 5 5) 2 F (c8 F F aS F F) ?_);refine jA 1 F ?_;(refine ae F F F cx_pr F ?_);refine jS (aa 5 7) ?_;refine jA 3 F ?_;(refine ae F F F cx_pr2 F ?_);refine jS (aa 5 15) ?_;refine jT 0 [4] (aa 5 31) ?_;refine jQ ?_)
 obtain ⟨xb,xo,xc,ee,hsx⟩:=(hsk.mono hG).expl (by simp)
 simp only [Value.slice.injEq] at ee
 obtain ⟨rfl,-,rfl⟩:=ee
 obtain ⟨yb,yo,yc,ee,hsy⟩:=(hsk2.mono hG).expl (by simp)
 simp only [Value.slice.injEq] at ee
 obtain ⟨rfl,-,rfl⟩:=ee
 have hxi : ab [c1] (Int.toNat 0) = c1:=rfl
 have hyi : ab [c2] (Int.toNat 0) = c2:=rfl
 have hsg:=hsg.mono hG
 have hsf:=hsf.mono hG
 have g1:=g1.mono hG
 have g3:=hG _ _ g3
 have cx_fld:=gE hsg hsf oM hj hjf hjn
 have cx_dp:=mo (G:=G4) (i:=d.tag) s10 hm0 (hsp.mono hG) ⟨oM,oM⟩ oM
 have cx_bt:=fun (G5 : Gh) (h5 : Gh.le G4 G5) (pa2 : Option Addr) (pc2 : Nat) (hs5 : aT G5 (.slice pa2 (m0 + 1) pc2) 1 (m0 + 1) (ah c9 ((q ++ [d.tag]).map be))) =>
  ih G5 c1 c2 (q ++ [d.tag]) (m0 + 1) pa2 pc2 bu p m cap out (hS.mono (hG.trans h5)) (aD (hG.trans h5) hr1) (aD (hG.trans h5) hr2) (by rw [List.length_append,hm0];rfl) hs5 hq2 (by rw [List.length_append,List.length_singleton];omega) hm hmx
 unfold cR at cx_bt
 rw [show sg d.kind = sg (ab t.fields j).kind by rw [hjx],show bs d.kind = bs (ab t.fields j).kind by rw [hjx],show nm d.kind = nm (ab t.fields j).kind by rw [hjx]] at cx_bt
 repeat' (first | refine jR ?_ | (refine jo ?_;first | refine jV (ew F F aS F) ?_ | refine jV (aj F F aS F F) ?_ | refine jV (l3 F F) ?_ | refine aP F ?_ | refine aE F ?_) | refine aG F F F ?_ | refine aw F F F ?_ | refine ac F ‹_› ?_ | (refine ad F (by first | rfl | (refine decide_eq_false ?_;(assumption))) ?_))
 (refine an (ao (id:=12) [] (fun _ h=>absurd h (by simp)) am ?_);refine jW 17 [0,1,2,3,5,8,14,18,22,23,26] (aa 28 79970607) ?_;(refine jG (aa 28 79970623) 4 F (aj F F aS F F) ?_);(refine jG (aa 28 79970687) 6 F (aj F F aS F F) ?_);((refine jG (aa 28 79970815) 7 F (db F F (fW aS) aS F) ?_));(refine jG (aa 28 79971327) 9 F (aj F F aS F F) ?_);(refine jG (aa 28 80004095) 15 F (aj F F aS F F) ?_);((refine jG (aa 28 80069631) 16 F (aQ F F ?_) ?_;focus omega));(refine jG (aa 28 80200703) 17 F (c8 F F aS F F) ?_);(refine jG (aa 28 80724991) 19 F (aj F F aS F F) ?_);((refine jG (aa 28 81773567) 20 F (aQ F F ?_) ?_;focus omega));(refine jG (aa 28 83870719) 21 F (c8 F F aS F F) ?_);(refine jG (aa 28 100647935) 24 F (aj F F aS F F) ?_);refine jA 10 F ?_;(refine ae F F F cx_fld F ?_);refine jK (aa 28 100648959) ?_;refine jW 3 [11,12] (aa 28 100655103) ?_;((refine jG (aa 28 100663295) 13 F (f9 F F aS ?_ F F) ?_;focus omega));refine jA 25 F ?_;(refine ar F F F cx_dp F ?_;rintro _ G5 hle5 ⟨pa2,pc2,rfl,hs5⟩);refine jK (aa 28 134217727) ?_;refine jA 27 F ?_;(refine lv F F F (cx_bt _ hle5 _ _ hs5) F ?_;rintro _ G6 _ hle6 ⟨av,cv,rfl⟩;dsimp only [zA,fA];(have hle6:=Gh.le.trans hle5 hle6));refine jK (aa 28 268435455) ?_;refine jQ ?_)
 all_goals repeat' (refine jR ?_)
 all_goals exact aW (vs:=[]) F trivial F a7 ⟨hG.trans hle6,_,_,F⟩
--?fin
--?s0
open Go.Proofs
variable {G : Gh}
theorem sm : ∀ {a b : List Int},a.Pairwise (· < ·) → b.Pairwise (· < ·) → (∀ x,x ∈ a ↔ x ∈ b) → a = b
 | [],[],_,_,_=>rfl
 | [],y :: b,_,_,h=>by have:=(h y).2 (by simp);cases this
 | x :: a,[],_,_,h=>by have:=(h x).1 (by simp);cases this
 | x :: a,y :: b,ha,hb,h=>by
  replace ha:=List.pairwise_cons.1 ha
  replace hb:=List.pairwise_cons.1 hb
  have e : x = y:=by
   rcases List.mem_cons.1 ((h x).1 (by simp)) with e | h1
   ·exact e
   ·rcases List.mem_cons.1 ((h y).2 (by simp)) with e | h2
    ·exact e.symm
    ·have:=hb.1 x h1
     have:=ha.1 y h2
     omega
  subst e
  rw [sm ha.2 hb.2 fun z=>⟨fun hz=>?_,fun hz=>?_⟩]
  ·rcases List.mem_cons.1 ((h z).1 (by simp [hz])) with e | h1
   ·have:=ha.1 z hz;omega
   ·exact h1
  ·rcases List.mem_cons.1 ((h z).2 (by simp [hz])) with e | h1
   ·have:=hb.1 z hz;omega
   ·exact h1
def jp (a w : V) (f : Fld) : Bool:=(cJ a).contains f.tag || (cJ w).contains f.tag
def pH (ts : List Ty) (n : Nat) (k : adB) (a w : V) (q : List Int) (f : Fld) : List (List Int × V):=if jp a w f = true then uv ts n k a w q f.tag else []
def jh (ts : List Ty) (n : Nat) (k : adB) (a w : V) (q : List Int) (fs : List Fld) (j : Nat) : List (List Int × V):=(fs.take j).flatMap (pH ts n k a w q)
theorem xH {ts : List Ty} {n : Nat} {k : adB} {a w : V} {q : List Int} {fs : List Fld} {j : Nat} (hj : j < fs.length) : jh ts n k a w q fs (j + 1) = jh ts n k a w q fs j ++ pH ts n k a w q (ab fs j):=by
 unfold jh
 rw [dl hj,List.flatMap_append,List.flatMap_singleton]
theorem aaT {ts : List Ty} {n : Nat} {k : adB} {a w : V} {q : List Int} {fs : List Fld} (j : Nat) : (jh ts n k a w q fs j).length ≤ (jh ts n k a w q fs fs.length).length:=by
 unfold jh
 rw [List.take_length]
 conv=>rhs;rw [← List.take_append_drop j fs,List.flatMap_append,List.length_append]
 omega
theorem ry (ts : List Ty) (n : Nat) (k : adB) (a w : V) (q : List Int) : ∀ fs : List Fld,fs.flatMap (pH ts n k a w q) = ((fs.filter (jp a w)).map Fld.tag).flatMap (uv ts n k a w q)
 | []=>rfl
 | f :: fs=>by
  rw [List.flatMap_cons,ry ts n k a w q fs]
  by_cases h : jp a w f = true
  ·rw [List.filter_cons_of_pos h,List.map_cons,List.flatMap_cons,pH,if_pos h]
  ·rw [List.filter_cons_of_neg h,pH,if_neg h,List.nil_append]
theorem zt {ts : List Ty} (hw : SchW ts) {n : Nat} {k : adB} {t : Ty} (hr : a8 ts k = some t) {fs gs : List (Fld × V)} (hf : ∀ p ∈ fs,p.1 ∈ t.fields) (hg : ∀ p ∈ gs,p.1 ∈ t.fields) {q : List Int} (ho : ¬ (V.nd 82 [] 0 (fs.map aq)).out = (V.nd 82 [] 0 (gs.map aq)).out) :
  bL ts (n + 1) k (.nd 82 [] 0 (fs.map aq)) (.nd 82 [] 0 (gs.map aq)) q = jh ts n k (.nd 82 [] 0 (fs.map aq)) (.nd 82 [] 0 (gs.map aq)) q t.fields t.fields.length:=by
 have hTW:=hw.ty t (bj hr)
 have hd : bY (.nd 82 [] 0 (fs.map aq)) (.nd 82 [] 0 (gs.map aq)) = true:=by unfold bY;rw [V.what,if_pos rfl]
 rw [bL,if_neg ho,if_pos hd]
 unfold jh
 rw [List.take_length,ry]
 have hna : ¬ ((V.nd 82 [] 0 (fs.map aq)).what = 91 ∨ (V.nd 82 [] 0 (fs.map aq)).what = 63):=by rw [V.what];omega
 have e : aU (.nd 82 [] 0 (fs.map aq)) (.nd 82 [] 0 (gs.map aq)) = (t.fields.filter (jp (.nd 82 [] 0 (fs.map aq)) (.nd 82 [] 0 (gs.map aq)))).map Fld.tag:=by
  refine sm (g8 _ _) ?_ fun x=>⟨fun h=>?_,fun h=>?_⟩
  ·exact List.pairwise_map.2 ((hTW.asc.imp fun h=>h.1).filter _)
  ·have hx : ∃ f ∈ t.fields,f.tag = x:=by
    rcases g7 hna h with h | h
    ·obtain ⟨p,hp,e⟩:=gZ.1 h;exact ⟨p.1,hf p hp,e⟩
    ·obtain ⟨p,hp,e⟩:=gZ.1 h;exact ⟨p.1,hg p hp,e⟩
   obtain ⟨f,hf1,rfl⟩:=hx
   refine List.mem_map.2 ⟨f,List.mem_filter.2 ⟨hf1,?_⟩,F⟩
   unfold jp
   rw [Bool.or_eq_true,List.contains_iff_mem,List.contains_iff_mem]
   exact g7 hna h
  ·obtain ⟨f,hf1,rfl⟩:=List.mem_map.1 h
   obtain ⟨hf2,hf3⟩:=List.mem_filter.1 hf1
   unfold jp at hf3
   rw [Bool.or_eq_true,List.contains_iff_mem,List.contains_iff_mem] at hf3
   exact ia hna (hTW.fld f hf2).tag hf3
 rw [e]
 rfl
theorem mD {f : Fld} : ∀ {ks : List V} {cs : List VC},V.reps G ks cs → gS f cs = (ks.map V.tag).contains f.tag
 | [],cs,h=>by rw [V.reps] at h;subst h;rfl
 | v :: ks,cs,h=>by
  rw [V.reps] at h
  obtain ⟨c,cs',rfl,h1,h2⟩:=h
  obtain ⟨w,x,t,vs⟩:=v
  obtain ⟨a,k,c',rfl,_⟩:=cS h1
  have ih:=mD (f:=f) h2
  unfold gS at ih ⊢
  rw [List.any_cons,ih,List.map_cons,List.contains_cons]
  congr 1
  show decide (t = f.tag) = (f.tag == t)
  by_cases e : t = f.tag
  ·subst e;simp
  ·rw [decide_eq_false e];symm;simpa using fun h=>e h.symm
theorem qB {t : Ty} (hTW : TyW t) {f : Fld} (hf : f ∈ t.fields) : co t.fields f.tag = some f:=by
 cases h : co t.fields f.tag with
 | none =>
  have:=List.find?_eq_none.1 h f hf
  simp at this
 | some g =>
  have h1:=List.mem_of_find?_eq_some h
  have h2 : g.tag = f.tag:=by have:=List.find?_some h;simpa using this
  rw [eW hTW h1 hf h2]
theorem abX {b n : Nat} {qs : List c6} {k : adB} {t : Ty} {fs gs : List (Fld × V)} (hw : SchW (al qs)) (hki : aA (al qs) k = true) (hrf : a8 (al qs) k = some t) (hso : t.sort = 82) (hfm : ∀ p ∈ fs,p.1 ∈ t.fields) (hgm : ∀ p ∈ gs,p.1 ∈ t.fields) (ta : (V.nd 82 [] 0 (fs.map aq)).tot ≤ 1000000) (tw : (V.nd 82 [] 0 (gs.map aq)).tot ≤ 1000000)
  (ho : ¬ (V.nd 82 [] 0 (fs.map aq)).out = (V.nd 82 [] 0 (gs.map aq)).out) (ih : ∀ f ∈ t.fields,jp (.nd 82 [] 0 (fs.map aq)) (.nd 82 [] 0 (gs.map aq)) f = true → mC b qs n f.kind (cX (al qs) (.nd 82 [] 0 (fs.map aq)) f) (cX (al qs) (.nd 82 [] 0 (gs.map aq)) f)) :
  mC b qs (n + 1) k (.nd 82 [] 0 (fs.map aq)) (.nd 82 [] 0 (gs.map aq)):=by
 intro G ca cw q m0 pa pc bu p m cap out hS hra hrw hm0 hsp hq hql hm hmx
 have hTW:=hw.ty t (bj hrf)
 have e:=zt (n:=n) (q:=q) hw hrf hfm hgm ho
 rw [e] at hmx ⊢
 clear e
 obtain ⟨hkd,pt,hfq,hqm⟩:=lU hki hrf
 obtain ⟨fv,ln,hsg,hfv⟩:=hS.ty _ hqm
 dsimp only at hsg hfv
 have hkv:=fX qs (nm k)
 rw [hfq] at hkv
 dsimp only [Option.map_some] at hkv
 obtain ⟨u,mm,g1,g2,g3⟩:=hS.at'
 have hfl:=hTW.len
 have htm:=bj hrf
 rw [hkd]
 have hll : fs.length ≤ 1000000:=by
  have h7:=dk (fs.map aq)
  rw [bI] at ta
  have e1 : (fs.map aq).length = fs.length:=by simp
  omega
 have hlg : gs.length ≤ 1000000:=by
  have h7:=dk (gs.map aq)
  rw [bI] at tw
  have e1 : (gs.map aq).length = gs.length:=by simp
  omega
 obtain ⟨ka,kc,cs,rfl,_,_,_,hcl,hsk,hrs⟩:=cS hra
 obtain ⟨ka2,kc2,cs2,rfl,_,_,_,hcl2,hsk2,hrs2⟩:=cS hrw
 have hml : (fs.map aq).length = fs.length:=by simp
 have hml2 : (gs.map aq).length = gs.length:=by simp
 have e1 : bi ⟨82,[],0,ka,(fs.map aq).length,kc⟩ = [U8 (82 : Nat),S [],I 0,.slice ka fs.length kc]:=by rw [← hml];rfl
 have e2 : bi ⟨82,[],0,ka2,(gs.map aq).length,kc2⟩ = [U8 (82 : Nat),S [],I 0,.slice ka2 gs.length kc2]:=by rw [← hml2];rfl
 rw [e1,e2]
 have hsk : aT G (.slice ka fs.length kc) 4 fs.length (ah bi cs):=by have h:=hsk;rw [hcl,hml] at h;exact h
 have hsk2 : aT G (.slice ka2 gs.length kc2) 4 gs.length (ah bi cs2):=by have h:=hsk2;rw [hcl2,hml2] at h;exact h
 have hcl : fs.length = cs.length:=oM
 have hcl2 : gs.length = cs2.length:=oM
 have ht1 : ∀ f,gS f cs = (cJ (.nd 82 [] 0 (fs.map aq))).contains f.tag:=fun f=>by rw [mD hrs];unfold cJ;rw [V.what,if_pos rfl,V.kids]
 have ht2 : ∀ f,gS f cs2 = (cJ (.nd 82 [] 0 (gs.map aq))).contains f.tag:=fun f=>by rw [mD hrs2];unfold cJ;rw [V.what,if_pos rfl,V.kids]
 have hg1:=fun (G5 : Gh) (h5 : Gh.le G G5) (i bf of : Nat) (hi : i < t.fields.length) (hsf : bT G5 bf of (ah gx t.fields))=>tO (G:=G5) (hS.mono h5) hw htm hso hsf hi (aD h5 hra) hll
 have hg2:=fun (G5 : Gh) (h5 : Gh.le G G5) (i bf of : Nat) (hi : i < t.fields.length) (hsf : bT G5 bf of (ah gx t.fields))=>tO (G:=G5) (hS.mono h5) hw htm hso hsf hi (aD h5 hrw) hlg
 rw [e1] at hg1
 rw [e2] at hg2
 have hstD : ∀ f ∈ t.fields,uv (al qs) n k (.nd 82 [] 0 (fs.map aq)) (.nd 82 [] 0 (gs.map aq)) q f.tag = bL (al qs) n f.kind (cX (al qs) (.nd 82 [] 0 (fs.map aq)) f) (cX (al qs) (.nd 82 [] 0 (gs.map aq)) f) (q ++ [f.tag]):=fun f hf=>by
  have hfd:=qB hTW hf
  have hv : ∀ v : V,aC (al qs) k v f.tag = some (f.kind,cX (al qs) v f):=fun v=>by
   rw [em hrf,hfd]
   dsimp only
   rw [if_neg oM,if_pos hso]
  unfold uv
  rw [hv,hv]
 generalize hA : V.nd 82 [] 0 (fs.map aq) = A at *
 generalize hW : V.nd 82 [] 0 (gs.map aq) = W at *
 refine bK [(0,_),(1,_),(2,_),(3,_),(4,_),(5,_)] Tryz.func26 kR Tryz.ntmps26 F F tU fun B hB hW=>?_
 repeat' (first | refine jR ?_ | (refine jo ?_;refine jO fun _=>?_))
 rename_i x7 x8 x9 x10
 refine Nx.sealC (b:=x7) fun G1 h1 s7=>?_
 refine Nx.sealC (b:=x8) fun G2 h2 s8=>?_
 refine Nx.sealC (b:=x9) fun G3 h3 s9=>?_
 refine Nx.sealC (b:=x10) fun G4 h4 s10=>?_
 have s7:=((s7.mono h2).mono h3).mono h4
 have s8:=(s8.mono h3).mono h4
 have s9:=s9.mono h4
 have hG:=((h1.trans h2).trans h3).trans h4
 have cx_pr:=eh (G:=G4) _ (Nat.le_refl _) ta (aD hG hra)
 have cx_pr2:=eh (G:=G4) _ (Nat.le_refl _) tw (aD hG hrw)
 rw [e1] at cx_pr
 rw [e2] at cx_pr2
 (refine an (ao (id:=1) _ (fun _ h=>h) am ?_);(refine jG (aa 5 1) 0 F (c8 F F aS F F) ?_);(refine jG (aa 5 5) 2 F (c8 F F aS F F) ?_);refine jA 1 F ?_;(refine ae F F F cx_pr F ?_);refine jS (aa 5 7) ?_;refine jA 3 F ?_;(refine ae F F F cx_pr2 F ?_);refine jS (aa 5 15) ?_;refine jT 0 [4] (aa 5 31) ?_;refine jQ ?_)
 have hsg:=hsg.mono hG
 have g1:=g1.mono hG
 have g3:=hG _ _ g3
 repeat' (first | refine jR ?_ | (refine jo ?_;first | refine jV (ew F F aS F) ?_ | refine jV (l3 F F) ?_ | refine aE F ?_) | refine aw F F F ?_ | refine ac F F ?_ | (refine ad F (by first | rfl | (refine decide_eq_false ?_;(assumption))) ?_))
 (refine an (ao (id:=14) _ (fun _ h=>h) am ?_);refine jT 4 [0,1,2,4] (aa 8 23) ?_;(refine jG (aa 8 31) 3 F (aj F F aS F F) ?_);(refine jG (aa 8 63) 5 F (aj F F aS F F) ?_);((refine jG (aa 8 127) 6 F (db F F (fW aS) aS F) ?_));refine jT 0 [7] (aa 8 255) ?_;refine jQ ?_)
 repeat' (first | refine jR ?_ | (refine jo ?_;first | refine jV (aj F F aS F F) ?_ | refine jV (eY F aS) ?_))
 rw [show ah cY out = ah cY (out ++ (jh (al qs) n k A W q t.fields 0).map cZ) by rw [show jh (al qs) n k A W q t.fields 0 = [] from rfl,List.map_nil,List.append_nil]]
 refine aV (ι:=Nat × Option Addr × Nat × Gh) (fun i=>i.1 ≤ t.fields.length ∧ Gh.le G4 i.2.2.2) (fun i=>[(0,Pt b 0),(5,Pt bu 0),(7,Pt x7 0),(8,Pt x8 0),(9,Pt x9 0),(12,.func (.func fDp) (List.toArray []) (List.toArray [Pt x10 0])),(14,Pt pt 0),(147,I t.fields.length),(148,I i.1)]) (fun i=>i.2.2.2) (fun i=>[.acc (.slice i.2.1 (m + (jh (al qs) n k A W q t.fields i.1).length) i.2.2.1) fm 2 (m + (jh (al qs) n k A W q t.fields i.1).length) (ah cY (out ++ (jh (al qs) n k A W q t.fields i.1).map cZ)),yI bu (.slice i.2.1 (m + (jh (al qs) n k A W q t.fields i.1).length) i.2.2.1)]) (fun i=>t.fields.length - i.1) (0,p,cap,G4) ?_ tU F a7 (fun i Hi=>?_)
 ·exact ⟨Nat.zero_le _,Gh.le.refl _⟩
 obtain ⟨i,p,cap,Gq⟩:=i
 dsimp only at Hi ⊢
 obtain ⟨hi0,hgq⟩:=Hi
 by_cases hi : i < t.fields.length
 ·have hfm:=bB hi
  have hft:=(hTW.fld _ hfm).tag
  have hGq:=hG.trans hgq
  obtain ⟨bf,of,cf,rfl,hsf⟩:=(hfv.mono hGq).expl oM
  have hsg:=hsg.mono hgq
  have s8:=s8.mono hgq
  have s9:=s9.mono hgq
  repeat' (first | refine jR ?_ | (refine jo ?_;first | refine jV (aj F F aS F F) ?_ | refine jV (l3 F F) ?_ | refine jV (ak F F oM) ?_ | refine jL fun _=>?_ | refine jD F F F ?_) | refine ac F (ax oM) ?_)
  rename_i x16
  refine Nx.sealC (b:=x16) fun Gs hs s16=>?_
  have hGs:=hGq.trans hs
  have hsf:=hsf.mono hs
  have cx_ct1:=p7 (G:=Gs) s16 hsf hi hcl (hsk.mono hGs) hll
  have cx_ct2:=p7 (G:=Gs) s16 hsf hi hcl2 (hsk2.mono hGs) hlg
  rw [ht1] at cx_ct1
  rw [ht2] at cx_ct2
  have s8:=s8.mono hs
  have s9:=s9.mono hs
  have s10:=(s10.mono hgq).mono hs
  have hps:=xH (ts:=al qs) (n:=n) (k:=k) (a:=A) (w:=W) (q:=q) hi
  have hpe:=aaT (ts:=al qs) (n:=n) (k:=k) (a:=A) (w:=W) (q:=q) (fs:=t.fields) (i + 1)
  by_cases hT : jp A W (ab t.fields i) = true
  ·have hpc : pH (al qs) n k A W q (ab t.fields i) = bL (al qs) n (ab t.fields i).kind (cX (al qs) A (ab t.fields i)) (cX (al qs) W (ab t.fields i)) (q ++ [(ab t.fields i).tag]):=by
    rw [pH,if_pos hT]
    exact hstD _ hfm
   rw [hpc] at hps
   have hbt:=ih _ hfm hT
   generalize hPi : jh (al qs) n k A W q t.fields i = Di at *
   have hN1 : m + (jh (al qs) n k A W q t.fields (i + 1)).length = m + Di.length + (bL (al qs) n (ab t.fields i).kind (cX (al qs) A (ab t.fields i)) (cX (al qs) W (ab t.fields i)) (q ++ [(ab t.fields i).tag])).length:=by rw [hps,List.length_append,Nat.add_assoc]
   have hN2 : out ++ (jh (al qs) n k A W q t.fields (i + 1)).map cZ = out ++ Di.map cZ ++ (bL (al qs) n (ab t.fields i).kind (cX (al qs) A (ab t.fields i)) (cX (al qs) W (ab t.fields i)) (q ++ [(ab t.fields i).tag])).map cZ:=by rw [hps,List.map_append,List.append_assoc]
   have hmo : m + Di.length = (out ++ Di.map cZ).length:=by rw [List.length_append,List.length_map,hm]
   have hq2 : ∀ n ∈ q ++ [(ab t.fields i).tag],0 ≤ n ∧ n ≤ 999999:=k9 hq ⟨oM,oM⟩
   have cx_g1:=hg1 Gs hGs i bf of hi hsf
   have cx_g2:=fun (G5 : Gh) (h5 : Gh.le Gs G5)=>hg2 G5 (hGs.trans h5) i bf of hi (hsf.mono h5)
   have cx_dp:=fun (G5 : Gh) (h5 : Gh.le Gs G5)=>mo (G:=G5) (i:=(ab t.fields i).tag) (s10.mono h5) hm0 (hsp.mono (hGs.trans h5)) ⟨oM,oM⟩ oM
   have cx_bt:=fun (G5 : Gh) (h5 : Gh.le Gs G5) (d1 d2 : VC) (hd1 : V.rep G5 (cX (al qs) A (ab t.fields i)) d1) (hd2 : V.rep G5 (cX (al qs) W (ab t.fields i)) d2) (pa2 : Option Addr) (pc2 : Nat) (hs5 : aT G5 (.slice pa2 (m0 + 1) pc2) 1 (m0 + 1) (ah c9 ((q ++ [(ab t.fields i).tag]).map be))) =>
    hbt G5 d1 d2 (q ++ [(ab t.fields i).tag]) (m0 + 1) pa2 pc2 bu p (m + Di.length) cap (out ++ Di.map cZ) (hS.mono (hGs.trans h5)) hd1 hd2 (by rw [List.length_append,hm0];rfl) hs5 hq2 (by rw [List.length_append,List.length_singleton];omega) hmo oM
   unfold cR at cx_bt
   have hor : (cJ A).contains (ab t.fields i).tag = true ∨ ((cJ A).contains (ab t.fields i).tag = false ∧ (cJ W).contains (ab t.fields i).tag = true):=by
    unfold jp at hT
    cases h1 : (cJ A).contains (ab t.fields i).tag with
    | true=>exact .inl F
    | false=>rw [h1,Bool.false_or] at hT;exact .inr ⟨F,hT⟩
   rcases hor with h1 | ⟨h1,h2⟩
   ·rw [h1] at cx_ct1
    repeat' (first | refine jR ?_ | (refine jo ?_;first | refine aP F ?_ | refine ae F F F cx_ct1 F ?_) | refine aG F F F ?_ | refine ac F F ?_)
    (refine an (ao (id:=21) [] (fun _ h=>absurd h (by simp)) am ?_);refine jW 16 [0,5,9,13,19] (aa 21 533025) ?_;(refine jG (aa 21 533027) 1 F (ew F F aS F) ?_);refine jW 13 [2,3] (aa 21 533039) ?_;((refine jG (aa 21 533055) 4 F (f9 F F aS ?_ F F) ?_;focus omega));(refine jG (aa 21 533119) 6 F (c8 F F aS F F) ?_);(refine jG (aa 21 533247) 7 F (ew F F aS F) ?_);(refine jG (aa 21 534271) 10 F (c8 F F aS F F) ?_);(refine jG (aa 21 536319) 11 F (ew F F aS F) ?_);(refine jG (aa 21 552703) 14 F (ew F F aS F) ?_);refine jW 5 [15,16] (aa 21 651007) ?_;((refine jG (aa 21 782079) 17 F (b8 F F aS ?_ F F) ?_;focus omega));refine jA 8 F ?_;(refine ar F F F cx_g1 F ?_;rintro _ Ga ha ⟨cv1,rfl,hr1⟩);refine jK (aa 21 782335) ?_;refine jA 12 F ?_;(refine ar F F F (cx_g2 _ ha) F ?_;rintro _ Gb hb0 ⟨cv2,rfl,hr2⟩;have hr1:=aD hb0 hr1;have hb:=ha.trans hb0);refine jK (aa 21 786431) ?_;refine jA 18 F ?_;(refine ar F F F (cx_dp _ hb) F ?_;rintro _ Gc hc0 ⟨pa2,pc2,rfl,hs5⟩;have hr1:=aD hc0 hr1;have hr2:=aD hc0 hr2;have hc:=hb.trans hc0);refine jK (aa 21 1048575) ?_;refine jA 20 F ?_;(refine lv F F F (cx_bt _ hc _ _ hr1 hr2 _ _ hs5) F ?_;rintro _ G6 _ hc6 ⟨av,cv,rfl⟩;dsimp only [zA,fA];have hle6:=hc.trans hc6);refine jK (aa 21 2097151) ?_;refine jQ ?_)
    all_goals repeat' (refine jM ?_)
    all_goals exact bm (i + 1,av,cv,G6) ⟨by dsimp only;omega,(hgq.trans hs).trans hle6⟩ (by dsimp only;omega) tU rfl (by dsimp only;rw [hN1,hN2];repeat (exact List.Sublist.refl _))
   ·rw [h1] at cx_ct1
    rw [h2] at cx_ct2
    repeat' (first | refine jR ?_ | (refine jo ?_;first | refine jV (aj F F aS F F) ?_ | refine aE F ?_ | refine ae F F F cx_ct1 F ?_ | refine ae F F F cx_ct2 F ?_) | refine aw F F F ?_ | refine ac F F ?_)
    (refine an (ao (id:=21) [] (fun _ h=>absurd h (by simp)) am ?_);refine jW 16 [0,5,9,13,19] (aa 21 533025) ?_;(refine jG (aa 21 533027) 1 F (ew F F aS F) ?_);refine jW 13 [2,3] (aa 21 533039) ?_;((refine jG (aa 21 533055) 4 F (f9 F F aS ?_ F F) ?_;focus omega));(refine jG (aa 21 533119) 6 F (c8 F F aS F F) ?_);(refine jG (aa 21 533247) 7 F (ew F F aS F) ?_);(refine jG (aa 21 534271) 10 F (c8 F F aS F F) ?_);(refine jG (aa 21 536319) 11 F (ew F F aS F) ?_);(refine jG (aa 21 552703) 14 F (ew F F aS F) ?_);refine jW 5 [15,16] (aa 21 651007) ?_;((refine jG (aa 21 782079) 17 F (b8 F F aS ?_ F F) ?_;focus omega));refine jA 8 F ?_;(refine ar F F F cx_g1 F ?_;rintro _ Ga ha ⟨cv1,rfl,hr1⟩);refine jK (aa 21 782335) ?_;refine jA 12 F ?_;(refine ar F F F (cx_g2 _ ha) F ?_;rintro _ Gb hb0 ⟨cv2,rfl,hr2⟩;have hr1:=aD hb0 hr1;have hb:=ha.trans hb0);refine jK (aa 21 786431) ?_;refine jA 18 F ?_;(refine ar F F F (cx_dp _ hb) F ?_;rintro _ Gc hc0 ⟨pa2,pc2,rfl,hs5⟩;have hr1:=aD hc0 hr1;have hr2:=aD hc0 hr2;have hc:=hb.trans hc0);refine jK (aa 21 1048575) ?_;refine jA 20 F ?_;(refine lv F F F (cx_bt _ hc _ _ hr1 hr2 _ _ hs5) F ?_;rintro _ G6 _ hc6 ⟨av,cv,rfl⟩;dsimp only [zA,fA];have hle6:=hc.trans hc6);refine jK (aa 21 2097151) ?_;refine jQ ?_)
    all_goals repeat' (refine jM ?_)
    all_goals exact bm (i + 1,av,cv,G6) ⟨by dsimp only;omega,(hgq.trans hs).trans hle6⟩ (by dsimp only;omega) tU rfl (by dsimp only;rw [hN1,hN2];repeat (exact List.Sublist.refl _))
  ·have hpc : pH (al qs) n k A W q (ab t.fields i) = []:=by rw [pH,if_neg hT]
   rw [hpc,List.append_nil] at hps
   have h1 : (cJ A).contains (ab t.fields i).tag = false:=by
    unfold jp at hT
    cases h1 : (cJ A).contains (ab t.fields i).tag with
    | true=>rw [h1] at hT;exact absurd F hT
    | false=>rfl
   have h2 : (cJ W).contains (ab t.fields i).tag = false:=by
    unfold jp at hT
    cases h2 : (cJ W).contains (ab t.fields i).tag with
    | true=>rw [h2,Bool.or_true] at hT;exact absurd F hT
    | false=>rfl
   rw [h1] at cx_ct1
   rw [h2] at cx_ct2
   repeat' (first | refine jM ?_ | (refine jo ?_;first | refine jV (aj F F aS F F) ?_ | refine aE F ?_ | refine ae F F F cx_ct1 F ?_ | refine ae F F F cx_ct2 F ?_) | refine aw F F F ?_ | refine ad F F ?_)
   exact bm (i + 1,p,cap,Gs) ⟨by dsimp only;omega,hgq.trans hs⟩ (by dsimp only;omega) tU rfl (by dsimp only;rw [hps];repeat (exact List.Sublist.refl _))
 ·obtain rfl : i = t.fields.length:=oM
  repeat' (first | refine jR ?_ | refine ad F (aF oM) ?_)
  exact aW (vs:=[]) F trivial F a7 ⟨hG.trans hgq,_,_,F⟩
theorem wn {a w : V} {i : Int} (ha : a.what = 85) (hw : w.what = 85) (h1 : a.tag = i) (h2 : w.tag = i) (hi : 1 ≤ i ∧ i ≤ 200) : aU a w = [i]:=by
 have hna : ¬ (a.what = 91 ∨ a.what = 63):=oM
 refine sm (g8 a w) (List.pairwise_singleton _ _) fun x=>⟨fun h=>?_,fun h=>?_⟩
 ·rcases g7 hna h with h | h
  ·unfold cJ at h
   rw [if_neg oM,h1] at h
   exact h
  ·unfold cJ at h
   rw [if_neg oM,h2] at h
   exact h
 ·rw [List.mem_singleton.1 h]
  refine ia hna hi (.inl ?_)
  unfold cJ
  rw [if_neg oM,h1]
  simp
theorem mV {ts : List Ty} {c : UInt8} {r : adB} {a : V} (hr : a8 ts (c :: r) = none) (h : OfK ts (c :: r) a) : (c = 91 ∧ ∃ ks,a = .nd 91 [] 0 ks) ∨ (c = 63 ∧ (a = .nd 63 [] 0 [] ∨ ∃ v,a = .nd 63 [] 0 [v])) ∨ (a.what ≠ 91 ∧ a.what ≠ 63 ∧ a.what ≠ 82 ∧ a.what ≠ 85):=by
 generalize hkk : c :: r = k' at h hr
 cases h with
 | num=>exact .inr (.inr ⟨by rw [V.what];decide,by rw [V.what];decide,by rw [V.what];decide,by rw [V.what];decide⟩)
 | txt=>exact .inr (.inr ⟨by rw [V.what];decide,by rw [V.what];decide,by rw [V.what];decide,by rw [V.what];decide⟩)
 | flg=>exact .inr (.inr ⟨by rw [V.what];decide,by rw [V.what];decide,by rw [V.what];decide,by rw [V.what];decide⟩)
 | lst k ks=>injection hkk with e1 e2;exact .inl ⟨e1,ks,F⟩
 | non k=>injection hkk with e1 e2;exact .inr (.inl ⟨e1,.inl F⟩)
 | opt k v=>injection hkk with e1 e2;exact .inr (.inl ⟨e1,.inr ⟨v,F⟩⟩)
 | recd _ t' fs g1=>rw [hr] at g1;cases g1
 | enm _ t' d g1=>rw [hr] at g1;cases g1
 | uni _ t' d v g1=>rw [hr] at g1;cases g1
theorem abZ {b : Nat} {qs : List c6} (hw : SchW (al qs)) : ∀ (n : Nat) {k : adB} {a w : V},OfK (al qs) k a → OfK (al qs) k w → aA (al qs) k = true → (a.deep ≤ 12 ∧ a.out.length ≤ 400) → (w.deep ≤ 12 ∧ w.out.length ≤ 400) → ji (al qs) n k a w → mC b qs n k a w:=by
 intro n
 induction n with
 | zero=>intro k a w _ _ _ _ _ h;exact h.elim
 | succ n ih =>
  intro k a w oa ow hk fa fw hl
  have ta : a.tot ≤ 1000000:=by have:=nI hw oa fa;omega
  have tw : w.tot ≤ 1000000:=by have:=nI hw ow fw;omega
  by_cases ho : a.out = w.out
  ·exact aar hw ta tw ho
  by_cases hd : bY a w = true
  case neg=>exact yt hw oa ow ta tw ho hd
  have hls : ∀ i ∈ aU a w,∀ y z,aC (al qs) k a i = some y → aC (al qs) k w i = some z → ji (al qs) n y.1 y.2 z.2:=by
   rcases hl with h | h | h
   ·exact absurd h ho
   ·rw [hd] at h;cases h
   ·exact h
  have hrec : ∀ i ∈ aU a w,∀ k1 y z,aC (al qs) k a i = some (k1,y) → aC (al qs) k w i = some (k1,z) → mC b qs n k1 y z:=fun i hi k1 y z e1 e2=>by
   have hi0:=(kF oa hi).1
   obtain ⟨y1,y2⟩:=cP hw oa hk hi0 e1
   obtain ⟨z1,_⟩:=cP hw ow hk hi0 e2
   exact ih y1 z1 y2 (gG hw oa hk hi0 e1 fa.1 fa.2) (gG hw ow hk hi0 e2 fw.1 fw.2) (hls i hi _ _ e1 e2)
  have hwh:=o6 oa ow
  obtain ⟨c,r,rfl⟩:=dX hk
  cases hrf : a8 (al qs) (c :: r) with
  | none =>
   rcases mV hrf oa with ⟨rfl,ks,rfl⟩ | ⟨rfl,rfl | ⟨v,rfl⟩⟩ | h
   ·rcases mV hrf ow with ⟨_,ks2,rfl⟩ | ⟨h,_⟩ | h
    ·exact aas hw oa ow hk ta tw ho hd hrec
    ·exact absurd h dC
    ·rw [V.what] at hwh;omega
   ·exfalso
    unfold bY at hd
    rw [V.what,if_neg dC,if_neg dC,if_pos (.inr rfl)] at hd
    have:=(of_decide_eq_true hd).2
    rw [V.kids] at this
    exact absurd this dC
   ·rcases mV hrf ow with ⟨h,_⟩ | ⟨_,rfl | ⟨v2,rfl⟩⟩ | h
    ·exact absurd h dC
    ·exfalso
     unfold bY at hd
     rw [V.what,if_neg dC,if_neg dC,if_pos (.inr rfl)] at hd
     have:=(of_decide_eq_true hd).1
     simp [V.kids] at this
    ·exact abY hw ta tw ho (hrec 0 (show (0 : Int) ∈ [0] from List.mem_singleton.2 F) r v v2 (by rw [dU (.inr F)];rfl) (by rw [dU (.inr rfl)];rfl))
    ·rw [V.what] at hwh;omega
   ·exfalso
    unfold bY at hd
    rw [if_neg oM,if_neg oM,if_neg oM] at hd
    cases hd
  | some t =>
   have htm:=bj hrf
   have hTW:=hw.ty t htm
   rcases bH oa hrf with ⟨a1,fs,rfl,a3,_,_,_⟩ | ⟨a1,d,rfl,_⟩ | ⟨a1,a2,d,v,rfl,a4,a5⟩
   ·rcases bH ow hrf with ⟨b1,gs,rfl,b3,_,_,_⟩ | ⟨b1,_⟩ | ⟨b1,_⟩
    ·refine abX hw hk hrf a1 a3 b3 ta tw ho fun f hf hT=>?_
     have hna : ¬ ((V.nd 82 [] 0 (fs.map aq)).what = 91 ∨ (V.nd 82 [] 0 (fs.map aq)).what = 63):=by rw [V.what];omega
     have hfd:=qB hTW hf
     have hv : ∀ v : V,aC (al qs) (c :: r) v f.tag = some (f.kind,cX (al qs) v f):=fun v=>by
      rw [em hrf,hfd]
      dsimp only
      rw [if_neg oM,if_pos a1]
     unfold jp at hT
     rw [Bool.or_eq_true,List.contains_iff_mem,List.contains_iff_mem] at hT
     exact hrec f.tag (ia hna (hTW.fld f hf).tag hT) _ _ _ (hv _) (hv _)
    ·omega
    ·omega
   ·exfalso
    unfold bY at hd
    rw [V.what,if_neg dC,if_neg dC,if_neg dC] at hd
    cases hd
   ·rcases bH ow hrf with ⟨b1,_⟩ | ⟨b1,_⟩ | ⟨b1,b2,e,v2,rfl,b4,b5⟩
    ·omega
    ·omega
    ·have hde : d.tag = e.tag:=by
      unfold bY at hd
      rw [V.what,if_neg dC,if_pos rfl] at hd
      exact of_decide_eq_true hd
     obtain rfl:=eW hTW a4 b4 hde
     have hst:=wn (a:=.nd 85 [] d.tag [v]) (w:=.nd 85 [] d.tag [v2]) (i:=d.tag) rfl rfl rfl rfl (hTW.fld d a4).tag
     have hfd:=qB hTW a4
     refine abW hw hk hrf a1 a2 a4 ta tw ho hst (hrec d.tag (by rw [hst];simp) _ _ _ ?_ ?_)
     ·rw [em hrf,hfd];dsimp only;rw [if_neg a2,if_neg a1,if_pos (show V.tag (.nd 85 [] d.tag [v]) = d.tag from rfl)];rfl
     ·rw [em hrf,hfd];dsimp only;rw [if_neg a2,if_neg a1,if_pos (show V.tag (.nd 85 [] d.tag [v2]) = d.tag from rfl)];rfl
--?fin
open Go.Proofs
variable {G : Gh}
set_option maxHeartbeats 8000000 in
theorem kD {s k w t : adB} (h : s.length ≤ 1048576 ∧ k.length ≤ 1048576 ∧ w.length ≤ 1048576 ∧ t.length ≤ 1048576) :
  ff adA 8 [S s,S k,S w,S t] G [] (fun v _ L'=>∃ p c,v = Tu [.slice p ((cA s k w t).getD []).length c,Bo (cA s k w t).isSome] ∧ L' = [.acc (.slice p ((cA s k w t).getD []).length c) fm 2 ((cA s k w t).getD []).length (ah cY ((cA s k w t).getD []))]):=by
 have hgo:=Gh.le.refl G
 have h1 : s.length ≤ 1048576 ∧ k.length ≤ 1048576 ∧ w.length ≤ 1048576:=oM
 have h2 : s.length ≤ 1048576 ∧ k.length ≤ 1048576 ∧ t.length ≤ 1048576:=oM
 cases ha : cW s k w with
 | none =>
  have cx_ga0:=fun G=>kB (G:=G) h1 ha
  rw [pV (.inl ha)]
  cases hb : cW s k t with
  | none =>
   have cx_gb0:=fun G=>kB (G:=G) h2 hb
   refine bK [(0,_),(1,_),(2,_),(3,_)] Tryz.func8 kR Tryz.ntmps8 F F tU fun B hB hW=>?_
   repeat' (first | refine jR ?_ | (refine jo ?_;first | refine jL fun _=>?_ | refine jC F F F ?_ | refine aP F ?_ | (refine ar F F F (cx_ga0 _) F ?_;rintro _ G hle ⟨p1,a1,b1,c1,rfl⟩;(have hgo:=Gh.le.trans hgo hle);(try have hRg:=ScI.mono hRg hle);(try have hrv:=aD hle hrv)) | (refine ar F F F (cx_gb0 _) F ?_;rintro _ G hle ⟨p2,a2,b2,c2,rfl⟩;(have hgo:=Gh.le.trans hgo hle);(try have hRg:=ScI.mono hRg hle);(try have hrv:=aD hle hrv))) | refine aG F F F ?_ | refine ac F F ?_)
   refine Nx.addNil fm 2 ?_
   refine aW (vs:=[_,_]) F ⟨F,F,trivial⟩ F sB ⟨hgo,_,_,F,F⟩
  | some b =>
   obtain ⟨ts,hs,hki,hvb,htb,_⟩:=cV hb
   have cx_gb1:=fun G=>kA (G:=G) h2 hs hki hvb
   refine bK [(0,_),(1,_),(2,_),(3,_)] Tryz.func8 kR Tryz.ntmps8 F F tU fun B hB hW=>?_
   repeat' (first | refine jR ?_ | (refine jo ?_;first | refine jL fun _=>?_ | refine jC F F F ?_ | refine aP F ?_ | (refine ar F F F (cx_ga0 _) F ?_;rintro _ G hle ⟨p1,a1,b1,c1,rfl⟩;(have hgo:=Gh.le.trans hgo hle);(try have hRg:=ScI.mono hRg hle);(try have hrv:=aD hle hrv)) | (refine ar F F F (cx_gb1 _) F ?_;rintro _ G hle ⟨bh,qh,cw,rfl,hTh,hRh,hrw⟩;(have hgo:=Gh.le.trans hgo hle);(try have hRg:=ScI.mono hRg hle);(try have hrv:=aD hle hrv))) | refine aG F F F ?_ | refine ac F F ?_)
   refine Nx.addNil fm 2 ?_
   refine aW (vs:=[_,_]) F ⟨F,F,trivial⟩ F sB ⟨hgo,_,_,F,F⟩
 | some a =>
  obtain ⟨ts,hs,hki,hvo,hto,hwf⟩:=cV ha
  have cx_ga1:=fun G=>kA (G:=G) h1 hs hki hvo
  cases hb : cW s k t with
  | none =>
   have cx_gb0:=fun G=>kB (G:=G) h2 hb
   rw [pV (.inr hb)]
   refine bK [(0,_),(1,_),(2,_),(3,_)] Tryz.func8 kR Tryz.ntmps8 F F tU fun B hB hW=>?_
   repeat' (first | refine jR ?_ | (refine jo ?_;first | refine jL fun _=>?_ | refine jC F F F ?_ | refine aE F ?_ | (refine ar F F F (cx_ga1 _) F ?_;rintro _ G hle ⟨bg,qg,cv,rfl,hTg,hRg,hrv⟩;(have hgo:=Gh.le.trans hgo hle);(try have hRg:=ScI.mono hRg hle);(try have hrv:=aD hle hrv)) | (refine ar F F F (cx_gb0 _) F ?_;rintro _ G hle ⟨p2,a2,b2,c2,rfl⟩;(have hgo:=Gh.le.trans hgo hle);(try have hRg:=ScI.mono hRg hle);(try have hrv:=aD hle hrv))) | refine aw F F F ?_ | refine ac F F ?_)
   refine Nx.addNil fm 2 ?_
   refine aW (vs:=[_,_]) F ⟨F,F,trivial⟩ F sB ⟨hgo,_,_,F,F⟩
  | some b =>
   obtain ⟨ts',i1,_,hvb,htb,_⟩:=cV hb
   obtain rfl : ts = ts':=Option.some.inj (hs.symm.trans i1)
   have cx_gb1:=fun G=>kA (G:=G) h2 hs hki hvb
   have hw:=d9 hs
   have oa:=dq hvo
   have ob:=dq hvb
   obtain ⟨a1,a2,a3⟩:=eU hvo
   obtain ⟨b1,b2,b3⟩:=eU hvb
   have fa : a.deep ≤ 12 ∧ a.out.length ≤ 400:=⟨a3,by rw [a1];exact a2⟩
   have fb : b.deep ≤ 12 ∧ b.out.length ≤ 400:=⟨b3,by rw [b1];exact b2⟩
   have hlst:=vE hw 12 oa ob hki (Or.inl a3) (Or.inl b3)
   have hdl:=oP (n:=13) (q:=[]) (wa:=40000) (wb:=40000) hw oa ob hki (Or.inl hto) (Or.inl htb) oM
   have hin:=ll (n:=13) (q:=[]) hw oa ob hki fa fb (fun m hm=>by cases hm)
   have hcv : cA s k w t = if (dN ts k a b).length ≤ 30 ∧ (jl s k w (dN ts k a b)).isSome = true then some (dN ts k a b) else none:=by
    unfold cA
    rw [hs,ha,hb]
   refine bK [(0,_),(1,_),(2,_),(3,_)] Tryz.func8 kR Tryz.ntmps8 F F tU fun B hB hW=>?_
   repeat' (first | refine jR ?_ | (refine jo ?_;first | refine jL fun _=>?_ | refine jC F F F ?_ | refine aE F ?_ | refine bM F ?_ | (refine ar F F F (cx_ga1 _) F ?_;rintro _ G hle ⟨bg,qg,cv,rfl,hTg,hRg,hrv⟩;(have hgo:=Gh.le.trans hgo hle);(try have hRg:=ScI.mono hRg hle);(try have hrv:=aD hle hrv)) | (refine ar F F F (cx_gb1 _) F ?_;rintro _ G hle ⟨bh,qh,cw,rfl,hTh,hRh,hrw⟩;(have hgo:=Gh.le.trans hgo hle);(try have hRg:=ScI.mono hRg hle);(try have hrv:=aD hle hrv))) | refine aw F F F ?_ | refine ad F F ?_)
   rename_i x18
   refine Nx.addNil fm 2 ?_
   subst hTg
   have hbt:=abZ hw 13 oa ob hki fa fb hlst G cv cw [] 0 none 0 x18 none 0 0 [] hRg hrv hrw rfl aT.nil0 (fun n hn=>by cases hn) (by simp) rfl oM
   unfold cR at hbt
   refine jo ?_
   refine lv F F F hbt F ?_
   rintro _ G3 _ hle3 ⟨av,cv2,rfl⟩
   clear hbt hlst hRg hrv hrw cx_ga1 cx_gb1
   dsimp only [zA,fA]
   rw [Nat.zero_add,← List.length_map (f:=cZ)]
   have hgo:=hgo.trans hle3
   have hCh : ∀ x ∈ dN (al qg) k a b,t8 x:=fun x hx=>by
    obtain ⟨c,hc,rfl⟩:=List.mem_map.1 hx
    have h1:=hin c hc
    have h2:=gt h1.1
    have h3:=h1.2.1
    simp only [List.length_nil,Nat.zero_add] at h3
    exact ⟨by unfold cZ;dsimp only;omega,by unfold cZ;dsimp only;omega⟩
   have hml : (dN (al qg) k a b).length = (bL (al qg) 13 k a b []).length:=by unfold dN;simp
   rw [show (bL (al qg) 13 k a b []).map cZ = dN (al qg) k a b from rfl]
   generalize hls : dN (al qg) k a b = l at *
   have hll : l.length ≤ 1048576:=oM
   have cx_cdi:=rW (G:=G3) (p:=av) (c:=cv2) (T:=fm) (l:=l) h1 hll hCh
   unfold mA at cx_cdi
   have nw:=trivial
   clear hCh hin hdl hls hml fa fb oa ob hw hto htb hvo hvb ha hb hs i1
   by_cases h30 : l.length ≤ 30
   ·cases hz : jl s k w l with
    | none =>
     rw [hz] at cx_cdi hcv
     rw [if_neg (by simp)] at hcv
     rw [hcv]
     dsimp only [Option.getD,Option.isSome] at cx_cdi
     repeat' (first | refine jR ?_ | (refine jo ?_;first | refine aB F ?_ | refine jV (af F) ?_ | (refine gF F F F cx_cdi F ?_;rintro _ _ ⟨rfl,rfl⟩;dsimp only [zA,fA])) | refine ac F F ?_ | refine ad F (aF oM) ?_)
     all_goals refine Nx.addNil fm 2 ?_
     all_goals refine aW (vs:=[_,_]) F ⟨F,F,trivial⟩ F sB ⟨hgo,_,_,F,F⟩
    | some z =>
     rw [hz] at cx_cdi hcv
     rw [if_pos ⟨h30,rfl⟩] at hcv
     rw [hcv]
     dsimp only [Option.getD,Option.isSome] at cx_cdi
     repeat' (first | refine jR ?_ | (refine jo ?_;first | refine aB F ?_ | refine jV (af F) ?_ | (refine gF F F F cx_cdi F ?_;rintro _ _ ⟨rfl,rfl⟩;dsimp only [zA,fA])) | (refine ad F (by first | rfl | (refine decide_eq_false ?_;(omega))) ?_))
     all_goals refine aW (vs:=[_,_]) F ⟨F,F,trivial⟩ F sB ⟨hgo,_,_,F,F⟩
   ·rw [if_neg (fun h=>h30 h.1)] at hcv
    rw [hcv]
    repeat' (first | refine jR ?_ | (refine jo ?_;first | refine aB F ?_ | refine jV (af F) ?_) | refine ac F (ax oM) ?_)
    all_goals refine Nx.addNil fm 2 ?_
    all_goals refine aW (vs:=[_,_]) F ⟨F,F,trivial⟩ F sB ⟨hgo,_,_,F,F⟩
theorem zV {s k w t : adB} : ((cA s k w t).getD []).length ≤ 30:=by
 cases h : cA s k w t with
 | none=>exact (by decide : (0 : Nat) ≤ 30)
 | some l=>exact (n9 h).1
theorem nu {s k w t : adB} (h : s.length ≤ 9223372036854775807 ∧ k.length ≤ 9223372036854775807 ∧ w.length ≤ 9223372036854775807 ∧ t.length ≤ 9223372036854775807) :
  aZ adA 3 [S s,S k,S w,S t] G (· = Bo true):=by
 refine jB (Post:=fun v G' L'=>G' = G ∧ L' = [] ∧ _) [(0,_),(1,_),(2,_),(3,_)] Tryz.func3 Tryz.ntmps3 fun B hok hB hW=>?_
 repeat' (first | refine jR ?_ | refine eA F (fun _=>?_) (fun _=>?_))
 ·refine Nx.base hok hB ?_
  refine jY (vs:=[_]) ?_
  rfl
 ·refine Nx.base hok hB ?_
  refine jY (vs:=[_]) ?_
  rfl
 ·refine Nx.base hok hB ?_
  refine jY (vs:=[_]) ?_
  rfl
 ·refine Nx.base hok hB ?_
  refine jY (vs:=[_]) ?_
  rfl
 have hsd : s.length ≤ 1048576 ∧ k.length ≤ 1048576 ∧ w.length ≤ 1048576 ∧ t.length ≤ 1048576:=oM
 have hrl:=zV (s:=s) (k:=k) (w:=w) (t:=t)
 have cs:=fun G=>nv (G:=G) hsd
 have ci:=fun G=>kD (G:=G) hsd
 refine jo ?_
 refine kV F F F (cs _) F ?_
 rintro _ G2 _ hle2 ⟨pw,cw,rfl,rfl⟩
 dsimp only [zA,fA]
 generalize (cA s k w t).isSome = ok0 at *
 generalize (cA s k w t).getD [] = res at *
 refine Nx.sealS (v:=.slice pw res.length cw) fun G3 hle3 hw0=>?_
 repeat' (refine jR ?_)
 refine jo ?_
 refine kV F F F (ci _) F ?_
 rintro _ G4 _ hle4 ⟨pg,cg,rfl,rfl⟩
 dsimp only [zA,fA]
 have hw0:=hw0.mono hle4
 have cx_eqo:=nr (G:=G4) (p:=pg) (c:=cg) (T:=fm) (a:=res) (b:=res) hw0 oM oM
 rw [decide_eq_true rfl] at cx_eqo
 have cx_mkx:=aad (G:=G4) (p:=pg) (c:=cg) (T:=fm) (l:=res) (k:=1) oM oM
 have cx_hdx:=vb (G:=G4) (p:=pg) (c:=cg) (T:=fm) (n:=res.length) (k:=1) oM oM
 repeat' (first | refine jR ?_ | (refine jo ?_;first | refine aE F ?_ | (refine gF F F F cx_eqo F ?_;rintro _ _ ⟨rfl,rfl⟩;dsimp only [zA,fA]) | (refine gF F F F cx_mkx F ?_;rintro _ _ ⟨rfl,rfl⟩;dsimp only [zA,fA]) | (refine gF F F F cx_hdx F ?_;rintro _ _ ⟨rfl,rfl⟩;dsimp only [zA,fA])) | refine aw F F F ?_ | (refine ad F ?_ ?_;(focus ((first | rfl | (refine decide_eq_false ?_;(omega)) | (simp [*];done));done))))
 refine jo ?_
 refine kV F F F (ci _) F ?_
 rintro _ G5 _ hle5 ⟨ph,ch,rfl,rfl⟩
 dsimp only [zA,fA]
 have hw0:=hw0.mono hle5
 have cx_eqo:=nr (G:=G5) (p:=ph) (c:=ch) (T:=fm) (a:=res) (b:=res) hw0 oM oM
 rw [decide_eq_true rfl] at cx_eqo
 have cx_hdx:=vb (G:=G5) (p:=pg) (c:=cg) (T:=fm) (n:=res.length) (k:=1) oM oM
 repeat' (first | refine jR ?_ | (refine jo ?_;first | refine aE F ?_ | (refine gF F F F cx_eqo F ?_;rintro _ _ ⟨rfl,rfl⟩;dsimp only [zA,fA]) | (refine gF F F F cx_hdx F ?_;rintro _ _ ⟨rfl,rfl⟩;dsimp only [zA,fA])) | refine aw F F F ?_ | (refine ad F ?_ ?_;(focus ((first | rfl | (refine decide_eq_false ?_;(omega)) | (simp [*];done));done))))
 all_goals refine Nx.base hok hB ?_
 all_goals refine jY (vs:=[_]) ?_
 all_goals rfl
section
variable {P : Program} {n : Nat} {D : List Deferred} {E : bN} {M : World → Prop} {d : Option Nat} {ty : TypeId} {pos : String} {aft : Array Edge} {gd : Option (Nat × Bool)}
theorem acs {T T' : TypeId} {x y : Operand} {a b c e : adB} [hk : PK P T] (hx : ev E x = some (Ag [S a,S b])) (hy : ev E y = some (Ag [S c,S e])) (hb : (a.length ≤ 1000000 ∧ b.length ≤ 1000000) ∧ c.length ≤ 1000000 ∧ e.length ≤ 1000000) : Gives P n D E M ⟨d,.binOp .neq T x y T',ty,pos,aft,gd⟩ (Bo (!decide (a = c ∧ b = e))):=Gives.mk fun a' w hs _=>by
 have h1 : (eqGuard .neq T x y (Ag [S a,S b]) (Ag [S c,S e])).run P w = .ok () w:=by
  simp [eqGuard,hk.gd]
 have h2 : binOp .neq T (Ag [S a,S b]) (Ag [S c,S e]) = (do pure (.bool (!(← Op.equal T (Ag [S a,S b]) (Ag [S c,S e]))))):=rfl
 simp only [execOp,hs.ev hx,hs.ev hy,Sem.run_bind,h1,Result.andThen_ok,h2,hk.eq' w a b c e hb.1 hb.2,Sem.run_pure]
end
abbrev ChB (a : List Ch) : Prop:=∀ x ∈ a,x.1.length ≤ 1000000 ∧ x.2.length ≤ 1000000
abbrev aaG : TypeId:=55
instance : PK adA aaG:=PK.mk' (N:=adA.types.size - 1) (st:=9) (fs:=cd adA aaG) kR kR kR kR kR kR kR kR kR kR kR kR
theorem od {u v : Value} {a b : List Ch} (hu : aT G u 2 a.length (ah cY a)) (hv : aT G v 2 b.length (ah cY b)) (hn : a.length ≤ 1048576) (hca : ChB a) (hcb : ChB b) :
  aZ adA 13 [u,v] G (· = Bo (decide (a = b))):=by
 refine jE [(0,_),(1,_)] Tryz.func13 Tryz.ntmps13 fun B hB=>?_
 repeat' (first | refine jR ?_ | (refine jo ?_;refine jV (eY F aS) ?_) | refine eA F (fun _=>?_) (fun _=>?_))
 ·refine jY (vs:=[_]) ?_
  rw [aR]
  exact congrArg Bo (decide_eq_false (fun h=>by subst h;simp_all)).symm
 ·have hl : a.length = b.length:=by simp_all;omega
  refine aV (ι:=Nat) (fun i=>i ≤ a.length ∧ a.take i = b.take i) (fun i=>[(0,u),(1,v),(5,I i)]) (fun _=>G) (fun i=>[]) (fun i=>a.length - i) 0 ?_ tU F a7 (fun i Hi=>?_)
  ·exact ⟨oM,F⟩
  by_cases hi : i < a.length
  ·obtain ⟨ba,oa,ca,rfl,sa⟩:=hu.expl oM
   obtain ⟨bb,ob,cb,rfl,sb⟩:=hv.expl oM
   have hcc : ((ab a i).1.length ≤ 1000000 ∧ (ab a i).2.length ≤ 1000000) ∧ (ab b i).1.length ≤ 1000000 ∧ (ab b i).2.length ≤ 1000000:=⟨hca _ (bB hi),hcb _ (bB oM)⟩
   repeat' (first | refine jM ?_ | (refine jo ?_;refine jV (af F) ?_) | refine ac F (ax oM) ?_ | refine oJ F (fun _=>?_) (fun _=>?_) | (refine an (ao (id:=6) _ (fun _ h=>h) am ?_);refine jT 5 [0,1,4,5] (aa 9 51) ?_;(refine jG (aa 9 55) 2 F (ak F F oM) ?_);((refine jG (aa 9 63) 3 F (dM F F aS ?_) ?_;focus omega));(refine jG (aa 9 127) 6 F (ak F F oM) ?_);((refine jG (aa 9 255) 7 F (dM F F aS ?_) ?_;focus omega));(refine jG (aa 9 511) 8 F (acs F F ‹_›) ?_);refine jQ ?_))
   ·rename_i hne
    refine jY (vs:=[_]) ?_
    rw [aR]
    refine congrArg Bo (decide_eq_false fun h=>?_).symm
    subst h
    simp at hne
   ·rename_i hne
    have he : ab a i = ab b i:=by
     simp [cY] at hne
     exact Prod.ext hne.1 hne.2
    refine bm (i + 1) ?_ ?_ tU F a7
    ·refine ⟨oM,?_⟩
     rw [dl hi,dl oM,Hi.2,he]
    ·omega
  ·repeat' (first | refine jR ?_ | (refine jo ?_;refine jV (eY F aS) ?_) | refine ad F (aF oM) ?_)
   refine jY (vs:=[_]) ?_
   have ei : i = a.length:=oM
   rw [aR]
   refine congrArg Bo (decide_eq_true ?_).symm
   have:=Hi.2
   rw [ei,List.take_length,hl,List.take_length] at this
   exact this
theorem abw {s k w t : adB} {l : List Ch} (h : cA s k w t = some l) : l.length ≤ 30 ∧ (∀ x ∈ l,t8 x) ∧ ChB l:=by
 obtain ⟨h1,h2⟩:=n9 h
 exact ⟨h1,fun x hx=>by have:=h2 x hx;exact ⟨oM,oM⟩,fun x hx=>by have:=h2 x hx;exact ⟨oM,oM⟩⟩
theorem vR {a b : adB} {l : List Ch} (h : a = b ↔ l = []) : (a = b ↔ (l.length : Int) = 0):=by
 rw [h,← List.length_eq_zero_iff];omega
theorem rU {v : Value} {l : adB} (hs : aT G v 1 l.length (cE l)) : aZ adA 4 [v] G (· = Bo true):=by
 obtain ⟨a,cap,rfl⟩:=hs.sl
 refine jB (Post:=fun v G' L'=>G' = G ∧ L' = [] ∧ _) [(0,_)] Tryz.func4 Tryz.ntmps4 fun B hok hB hW=>?_
 repeat' (first | refine jR ?_ | (refine jo ?_;first | refine jV (af F) ?_ | (refine ep F F F (qb (by (repeat (assumption));done)) rfl ?_;rintro _ ⟨s1,k1,x1,y1,rfl,hsz⟩)) | refine eA F (fun _=>?_) (fun _=>?_))
 ·refine Nx.base hok hB ?_
  refine jY (vs:=[_]) ?_
  rfl
 have cs:=fun G=>nv (G:=G) hsz
 have ci:=fun G=>kD (G:=G) hsz
 cases h : cA s1 k1 x1 y1 with
 | none =>
  rw [h] at cs ci
  dsimp only [Option.getD,Option.isSome] at cs ci
  refine jo ?_
  refine kV F F F (ci _) F ?_
  rintro _ G2 _ hle2 ⟨pw,cw,rfl,rfl⟩
  dsimp only [zA,fA]
  refine Nx.sealS (v:=.slice pw ([] : List Ch).length cw) fun G3 hle3 hx0=>?_
  repeat' (refine jR ?_)
  refine jo ?_
  refine kV F F F (cs _) F ?_
  rintro _ G4 _ hle4 ⟨pg,cg,rfl,rfl⟩
  dsimp only [zA,fA]
  have hx0:=hx0.mono hle4
  refine Nx.sealS (v:=.slice pg ([] : List Ch).length cg) fun G5 hle5 hw0=>?_
  have hx0:=hx0.mono hle5
  have cx_wf:=od (G:=G5) hx0 hw0 dC (fun _ h=>by cases h) (fun _ h=>by cases h)
  rw [decide_eq_true rfl] at cx_wf
  repeat' (first | refine jR ?_ | (refine jo ?_;first | refine aP F ?_ | refine aE F ?_ | refine ae F F F cx_wf F ?_) | refine aG F F F ?_ | refine aw F F F ?_ | refine ac F F ?_)
  all_goals refine Nx.base hok hB ?_
  all_goals refine jY (vs:=[_]) ?_
  all_goals rfl
 | some ls =>
  obtain ⟨g1,g2,g3⟩:=uh h
  obtain ⟨hln,hlc,hlb⟩:=abw h
  have cn:=fun G=>kD (G:=G) (s:=s1) (k:=k1) (w:=x1) (t:=x1) oM
  rw [h] at cs ci
  rw [g2] at cn
  dsimp only [Option.getD,Option.isSome] at cs ci cn
  have g3:=vR g3
  refine jo ?_
  refine kV F F F (ci _) F ?_
  rintro _ G2 _ hle2 ⟨pw,cw,rfl,rfl⟩
  dsimp only [zA,fA]
  refine Nx.sealS (v:=.slice pw ls.length cw) fun G3 hle3 hx0=>?_
  repeat' (refine jR ?_)
  refine jo ?_
  refine kV F F F (cs _) F ?_
  rintro _ G4 _ hle4 ⟨pg,cg,rfl,rfl⟩
  dsimp only [zA,fA]
  have hx0:=hx0.mono hle4
  refine Nx.sealS (v:=.slice pg ls.length cg) fun G5 hle5 hw0=>?_
  have hx0:=hx0.mono hle5
  have cx_wf:=od (G:=G5) hx0 hw0 oM hlb hlb
  rw [decide_eq_true rfl] at cx_wf
  have cx_d1:=nw (G:=G5) (s:=s1) (k:=k1) (w:=x1) oM hx0 oM hlc
  rw [g1] at cx_d1
  unfold mA at cx_d1
  dsimp only [Option.getD,Option.isSome] at cx_d1
  repeat' (first | refine jR ?_ | (refine jo ?_;first | refine aP F ?_ | refine aE F ?_ | refine ae F F F cx_wf F ?_ | refine ae F F F cx_d1 F ?_) | refine aG F F F ?_ | refine aw F F F ?_ | refine ad F F ?_)
  refine jo ?_
  refine kV F F F (cn _) F ?_
  rintro _ G6 _ hle6 ⟨ph,ch,rfl,rfl⟩
  dsimp only [zA,fA]
  by_cases he : x1 = y1
  ·have hl:=g3.1 he
   clear h g1 g2 g3
   repeat' (first | refine jR ?_ | (refine jo ?_;first | refine jV (af F) ?_ | refine aP F ?_) | (refine aG F F (by first | rfl | (refine decide_eq_true ?_;(rfl))) ?_))
   all_goals refine Nx.base hok hB ?_
   all_goals refine jY (vs:=[_]) ?_
   all_goals (rw [aR,decide_eq_true he,decide_eq_true hl];rfl)
  ·have hl:=fun e=>he (g3.2 e)
   clear h g1 g2 g3
   repeat' (first | refine jR ?_ | (refine jo ?_;first | refine jV (af F) ?_ | refine aP F ?_) | (refine aG F F (by first | rfl | (refine decide_eq_true ?_;(rfl))) ?_))
   all_goals refine Nx.base hok hB ?_
   all_goals refine jY (vs:=[_]) ?_
   all_goals (rw [aR,decide_eq_false he,decide_eq_false hl];rfl)
end Go.E
