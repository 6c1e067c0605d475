/- Contracts and plain laws that the statement rests on, part 8. Conditions: as each says. -/
import Derived.Test.YtlkjjgmfhafnaaaGreatDoorU7
set_option linter.unusedVariables false
set_option linter.unusedSimpArgs false
namespace Go.E
open Go.Proofs
section
variable {P : Program} {n : Nat} {D : List Deferred} {E : bn} {M : World → Prop} {d : Option Nat} {ty : TypeId} {pos : String} {aft : Array Edge} {gd : Option (Nat × Bool)}
theorem z4 {T : TypeId} {x : Operand} {desc : TypeDesc} {size bytes : Nat} {zero : Value} {b o : Nat} {v : Value} {G0 : Gh} {L0 : List Own} {cs : List Value} [TI P T desc size bytes zero] [Kn M G0 L0] (hx : ev E x = some (Pt b o)) (ha : c9 desc = false) (hs : bZ G0 b o cs) (hc : cs[0]? = some v) :
  Gives P n D E M ⟨d,.load T x,ty,pos,aft,gd⟩ v:=e8 hx ha (by have:=(dL (S:=M) hs).go 0 v hc;simpa using this)
theorem pk {T : TypeId} {x : Operand} {desc : TypeDesc} {size bytes : Nat} {zero : Value} {b o : Nat} {vs : List Value} {G0 : Gh} {L0 : List Own} {cs : List Value} [TI P T desc size bytes zero] [Kn M G0 L0] (hx : ev E x = some (Pt b o)) (ha : c9 desc = true) (hs : bZ G0 b o cs) (hc : jj cs 0 size = some vs) (hl : Nat.beq vs.length size = true) :
  Gives P n D E M ⟨d,.load T x,ty,pos,aft,gd⟩ (Ag vs):=gP hx ha (Nat.eq_of_beq_eq_true hl) (by have:=(dL (S:=M) hs).take hc;simpa using this)
end
set_option maxRecDepth 20000
set_option maxHeartbeats 2000000
--?s0
open Go.Proofs
variable {G : Gh}
theorem xG {s x w t : acA} {a : List Mt} {n : Int} {out : Bool} (h : dT s a n x out w = (t,true)) : x.length ≤ 3 ∧ w.length ≤ 400 ∧ t.length ≤ 200:=by
 obtain ⟨m,b,h1,h2,h3,h4,h5,rfl⟩:=xH h
 obtain ⟨v,hc,ho⟩:=uR h4
 obtain ⟨ts,_,_,_,_,_,h6,_⟩:=j3 hc
 have h7:=gh _ (Nat.le_trans h5 oM)
 exact ⟨nr h2 h1,by rw [← ho];exact h6,oM⟩
theorem yp {b : acA} : (gi b).length ≤ 200:=by
 unfold gi
 split
 ·rename_i hl
  have h7:=gh _ (Nat.le_trans hl oM)
  omega
 ·simp
theorem tN {s x w : acA} {a : List Mt} {n : Int} {out : Bool} : (dT s a n x out w).1.length ≤ 200:=by
 unfold dT
 cases dv a x with
 | none=>simp
 | some m =>
  dsimp only
  by_cases h : du s a = true ∧ 0 ≤ n ∧ n ≤ 999
  ·rw [if_pos h]
   cases c7 s (bif out then m.2.2 else m.2.1) w with
   | none=>simp
   | some b=>exact yp
  ·rw [if_neg h];simp
theorem yQ {s x : acA} {u : Value} {a : List Mt} (hu : bj G u 3 a.length (aF fR a)) (hn : a.length ≤ 1048576) (ha : ∀ x ∈ a,kB x) : ao acz 59 [Ag [S s,u],S x] G (fun v=>∃ m1 m2 m3 b,v = Tu [Ag [S m1,S m2,S m3],Bo b] ∧ (m2.length ≤ 1048576 ∧ m3.length ≤ 1048576)):=by
 have h2:=mF (s:=s) (x:=x) hu hn
 cases hf : dv a x with
 | none=>rw [hf] at h2;exact h2.mono fun v G' L' h=>⟨h.1,h.2.1,[],[],[],_,h.2.2,by simp,by simp⟩
 | some m =>
  have hm:=ha m (List.mem_of_find?_eq_some hf)
  rw [hf] at h2
  exact h2.mono fun v G' L' h=>⟨h.1,h.2.1,m.1,m.2.1,m.2.2,_,h.2.2,hm.2.1,hm.2.2⟩
theorem qu {v : Value} {l : acA} (hs : bj G v 1 l.length (bz l)) : bo acz 22 [v] G (fun r G'=>∃ s a ms c x,r = Tu [Ag [S s,.slice a (ms : List Mt).length c],S x] ∧ bj G' (.slice a ms.length c) 3 ms.length (aF fR ms) ∧ ((s.length ≤ 1048576 ∧ ms.length ≤ 1048576) ∧ x.length ≤ 1048576) ∧ (∀ x ∈ ms,kB x)):=by
 refine jB [(0,_)] Tryz.func22 Tryz.ntmps22 fun B hok hB hW=>?_
 repeat' (first | refine jR ?_ | (refine jo ?_;first | refine jL fun _=>?_ | refine jC F F F ?_ | refine jF fun _=>?_ | refine jV (aQ F F oM) ?_ | (refine eK 64 F F F ?_ F (fun xs hxs=>?_);(focus ((simp only [List.length_append,List.length_cons,List.length_nil,List.length_take];omega);done))) | refine aK F ?_ | (refine dq F F F (wL (by (repeat (assumption));done)) rfl ?_;rintro _ _ ⟨b,code,l,rfl,rfl,hcd,hcl⟩;dsimp only [zA,fA]) | (refine cP F F F (rJ ?_ (by (repeat (assumption));done)) rfl ?_;(focus omega);rintro _ G1 _ hle ⟨sv,a1,ms,ca,q1,rfl,hsl1,hb1,rfl,hq1,hq2⟩;dsimp only [zA,fA];skip) | (refine af F F F (cA ?_ (by (repeat (first | assumption | refine bj.mono ?_ aS));done)) rfl ?_;(focus omega);rintro _ _ ⟨k,rfl,rfl,hk0,hk1⟩;dsimp only [zA,fA])))
 rename_i x2 x5 xA
 refine Nx.sealC (b:=x5) fun G2 h2 s7=>?_
 have hsl1:=hsl1.mono h2
 have hcd:=(hcd.mono hle).mono h2
 have hms:=hb1.2.2
 refine jo ?_
 refine cO F F F (yQ hsl1 oM hb1.2.2) F ?_
 rintro _ ⟨m1,m2,m3,mb,rfl,hm2,hm3⟩
 repeat' (first | refine jR ?_ | (refine jo ?_;first | refine jL fun _=>?_ | refine jC F F F ?_ | refine ah F ?_) | refine kV F (fun _=>?_) (fun _=>?_))
 all_goals (refine aj (am (id:=8) [] (fun _ h=>absurd h (by simp)) ai ?_);refine jW 10 [1,3,4,5,7] (aa 15 186) ?_;(refine jG (aa 15 187) 0 F (pk F F aS F F) ?_);(refine jG (aa 15 251) 6 F (z4 F F aS F) ?_);refine jA 2 F ?_;((refine af F F F (cA ?_ (by (repeat (assumption));done)) rfl ?_;(focus omega);rintro _ _ ⟨k,rfl,rfl,hk0,hk1⟩;dsimp only [zA,fA]));refine jK (aa 15 255) ?_;refine jA 8 F ?_;((refine af F F F (yI ?_ (by (repeat (assumption));done) ?_ ?_) rfl ?_;(focus omega);(focus omega);(focus ((first | assumption | (simp;done));done));rintro _ _ ⟨tx,q1,rfl,htx,rfl,hq1,hq2⟩;dsimp only [zA,fA]));refine jK (aa 15 511) ?_;refine jA 9 F ?_;((refine ab F F F (ut oM (by (repeat (assumption));done) oM (by (repeat (assumption));done) ?_) rfl ?_;focus omega));refine jK (aa 15 1023) ?_;refine jW 0 [10,11,12,13,14] (aa 15 32767) ?_;refine jQ ?_)
 all_goals
  have hpl:=tN (s:=sv) (a:=ms) (n:=k) (x:=xs) (out:=false) (w:=tx)
  generalize (dT sv ms k xs false tx).1 = t at *
  generalize (dT sv ms k xs false tx).2 = ok at *
  repeat' (first | refine jR ?_ | (refine jo ?_;first | refine jC F F F ?_ | refine jV (pk F F aS F F) ?_ | refine aH F ?_ | refine av F ?_ | (refine af F F F (cA ?_ (by (repeat (assumption));done)) rfl ?_;(focus omega);rintro _ _ ⟨k,rfl,rfl,hk0,hk1⟩;dsimp only [zA,fA])) | refine dF F F (fun _=>?_) (fun _=>?_) | refine ad F F ?_ | refine cB F (fun _=>?_) (fun _=>?_))
 all_goals (try (refine aj (am (id:=10) [] (fun _ h=>absurd h (by simp)) ai ?_);refine jW 6 [0,1,2,3,4,5] (aa 12 63) ?_;refine jA 6 F ?_;((refine af F F F (cA ?_ (by (repeat (assumption));done)) rfl ?_;(focus omega);rintro _ _ ⟨k,rfl,rfl,hk0,hk1⟩;dsimp only [zA,fA]));refine jS (aa 12 127) ?_;refine jT 4 [7] (aa 12 255) ?_;refine jA 8 F ?_;(refine jF fun _=>?_);refine jS (aa 12 511) ?_;((refine jG (aa 12 1023) 9 F (dc F F (by (repeat (first | exact BL.nil | apply BL.cons));done)) ?_));refine jW 0 [10,11] (aa 12 4095) ?_;refine jQ ?_))
 all_goals repeat' (first | refine jR ?_ | (refine jo ?_;first | refine jC F F F ?_ | refine jV (pk F F aS F F) ?_))
 all_goals exact jZ (vs:=[_,_]) F ⟨aD F F F F,F,trivial⟩ F ⟨hle.trans h2,F,_,_,_,_,_,F,hsl1,⟨⟨oM,oM⟩,by (first | omega | (simp only [List.length_append,List.length_cons,List.length_nil,List.length_take,List.length_drop];omega))⟩,hms⟩
theorem sy {v : Value} {l : acA} (hs : bj G v 1 l.length (bz l)) : ao acz 8 [v] G (· = Bo true):=by
 obtain ⟨a,cap,rfl⟩:=hs.sl
 refine jB (Post:=fun v G' L'=>G' = G ∧ L' = [] ∧ _) [(0,_)] Tryz.func8 Tryz.ntmps8 fun B hok hB hW=>?_
 repeat' (first | refine jR ?_ | (refine jo ?_;first | refine jV (ar F) ?_ | refine jL fun _=>?_ | refine jC F F F ?_ | refine aK F ?_ | (refine aI F F F (qu (by (repeat (assumption));done)) rfl ?_;rintro _ G hle ⟨sv,a1,ms,ca,x1,rfl,hsl1,hsz,hms⟩;skip)) | refine cB F (fun _=>?_) (fun _=>?_))
 ·refine Nx.base hok hB ?_
  refine jY (vs:=[_]) ?_
  rfl
 have cx_cg1:=ux (s:=sv) (a:=ms) (x:=x1) ⟨oM,oM⟩ hsl1 oM hms
 have cx_cg2:=uw (s:=sv) (a:=ms) (x:=x1) ⟨oM,oM⟩ hsl1 oM hms
 cases h : fN sv ms x1 with
 | none =>
  rw [h] at cx_cg1 cx_cg2
  unfold mC at cx_cg1 cx_cg2
  dsimp only at cx_cg1 cx_cg2
  repeat' (first | refine jR ?_ | (refine jo ?_;first | refine aK F ?_ | refine aH F ?_ | refine av F ?_ | refine ab F F F cx_cg1 F ?_ | refine ab F F F cx_cg2 F ?_) | refine aA F F F ?_ | refine an F F F ?_ | refine ac F F ?_)
  all_goals refine Nx.base hok hB ?_
  all_goals refine jY (vs:=[_]) ?_
  all_goals rfl
 | some z =>
  obtain ⟨n,nm,u⟩:=z
  rw [h] at cx_cg1 cx_cg2
  have hp:=wF h
  have hl:=xG hp
  have cx_cp1:=uv (s:=sv) (a:=ms) (x:=nm) (w:=u.out) (n:=n) oM hsl1 oM hms ⟨oM,oM⟩
  rw [hp] at cx_cp1
  dsimp only at cx_cp1
  unfold mC at cx_cg1 cx_cg2
  dsimp only at cx_cg1 cx_cg2
  clear h hp
  generalize u.out = uo at *
  repeat' (first | refine jR ?_ | (refine jo ?_;first | refine aK F ?_ | refine aH F ?_ | refine av F ?_ | refine ab F F F cx_cg1 F ?_ | refine ab F F F cx_cg2 F ?_ | refine ab F F F cx_cp1 F ?_) | (refine aA F F (by first | rfl | (refine decide_eq_true ?_;(rfl))) ?_) | refine an F F F ?_ | refine ad F F ?_)
  all_goals refine Nx.base hok hB ?_
  all_goals refine jY (vs:=[_]) ?_
  all_goals (exact congrArg Value.bool (decide_eq_true F))
end Go.E
