/- Contracts and plain laws that the statement rests on, part 6. Conditions: as each says. -/
import Derived.Test.YtaafndolbdancabGreatDoorT5
set_option linter.unusedVariables false
set_option linter.unusedSimpArgs false
namespace Go.E
set_option maxRecDepth 20000
set_option maxHeartbeats 2000000
open Go.Proofs
variable {G : Gh}
theorem stepsOf_snoc {x : List UInt8} : ∀ {xs : List (List UInt8)} {ps : List Int},stepsOf xs = some ps → stepsOf (xs ++ [x]) = (numOf x 999999).map fun n=>ps ++ [n]
 | [],ps,h=>by
  simp only [stepsOf,Option.some.injEq] at h;subst h
  simp only [List.nil_append,stepsOf]
  cases numOf x 999999 <;> rfl
 | y :: ys,ps,h=>by
  unfold stepsOf at h
  cases hn : numOf y 999999 with
  | none=>rw [hn] at h;cases h
  | some n =>
   rw [hn] at h
   dsimp only at h
   cases hs : stepsOf ys with
   | none=>rw [hs] at h;cases h
   | some q =>
    rw [hs] at h
    simp only [Option.map_some,Option.some.injEq] at h
    subst h
    rw [List.cons_append]
    unfold stepsOf
    rw [hn]
    dsimp only
    rw [stepsOf_snoc hs]
    cases numOf x 999999 <;> rfl
theorem stepsOf_no {x : List UInt8} {ys : List (List UInt8)} (h : numOf x 999999 = none) : ∀ {xs : List (List UInt8)},stepsOf (xs ++ x :: ys) = none
 | []=>by simp only [List.nil_append,stepsOf,h]
 | y :: xs=>by
  rw [List.cons_append]
  unfold stepsOf
  cases numOf y 999999 with
  | none=>rfl
  | some n=>dsimp only;rw [stepsOf_no h];rfl
abbrev tIntP : TypeId:=3
def StepsP (s : List UInt8) (v : Value) (G : Gh) : Prop:=∃ a c n,v = Tu [.slice a n c,Bo (pathOf s).isSome] ∧ ∀ p,pathOf s = some p → n = p.length ∧ SlV G (.slice a n c) 1 p.length (rows inR p)
theorem pathOf_ne {s : List UInt8} (h : s ≠ []) : pathOf s = match stepsOf (cut 47 s) with
  | some p=>if p.length ≤ 8 then some p else none
  | none=>none:=by
 unfold pathOf;rw [if_neg h]
 all_goals (cases stepsOf (cut 47 s) <;> rfl)
theorem pathOf_bad {s : List UInt8} (h : s ≠ []) {i : Nat} (hi : i < (cut 47 s).length) (hn : numOf (nth (cut 47 s) i) 999999 = none) : pathOf s = none:=by
 rw [pathOf_ne h]
 have e : cut 47 s = (cut 47 s).take i ++ nth (cut 47 s) i :: (cut 47 s).drop (i + 1):=by
  rw [nth_eq hi,List.getElem_cons_drop,List.take_append_drop]
 rw [e,stepsOf_no hn]
theorem c_stepsS {s : List UInt8} (h : s.length ≤ 1048576) : FnS Tryz.prog 32 [S s] G (StepsP s):=by
 by_cases h0 : s = []
 ·subst h0
  refine jB [(0,_)] Tryz.func32 Tryz.ntmps32 fun B hok hB hW=>?_
  repeat' (first | (refine jR ?_) | (refine jo ?_;(refine jF fun _=>?_)) | (refine k_tt rfl rfl ?_))
  rename_i x
  refine Nx.blkAcc (m:=0) (sz:=1) .here rfl ?_
  refine Nx.sealS (v:=.slice (some ⟨x,0,none⟩) 0 0) fun G2 hG2 hsl=>?_
  refine jZ (vs:=[_,_]) rfl ⟨rfl,rfl,trivial⟩ rfl ⟨hG2,rfl,?_⟩
  exact ⟨_,_,_,rfl,fun p hp=>by
   obtain rfl : p = []:=by unfold pathOf at hp;simpa using hp.symm
   exact ⟨rfl,hsl⟩⟩
 have cx_cutS : FnS Tryz.prog 47 [S s,U8 47] G (fun v G'=>SlV G' v 1 (cut 47 s).length (rows strF (cut 47 s))):=c_l3CutS (k:=47) oM
 have hcl:=cut_count (k:=47) (s:=s)
 have hbad:=fun {i : Nat}=>pathOf_bad h0 (i:=i)
 have hpo:=pathOf_ne h0
 have hxl : ∀ i,i < (cut 47 s).length → (nth (cut 47 s) i).length ≤ 100000000:=fun i hi=>by
  have:=cut_len (nth_mem hi)
  omega
 generalize cut 47 s = xs at *
 refine jB [(0,_)] Tryz.func32 Tryz.ntmps32 fun B hok hB hW=>?_
 repeat' (first | (refine jR ?_) | (refine jo ?_;first | refine jF fun _=>?_ | (refine c_fns rfl rfl rfl cx_cutS rfl ?_;rintro _ G hle hcut;skip)) | (refine k_ff rfl (dFf ‹_›) ?_))
 rename_i x _
 obtain ⟨la,lc,rfl⟩:=hcut.sl
 refine Nx.blkAcc (m:=0) (sz:=1) .here rfl ?_
 refine k_loop (ι:=List Int × Option Addr × Nat × Nat) (fun j=>(j.1.length = j.2.2.2 ∧ j.2.2.2 ≤ xs.length) ∧ stepsOf (xs.take j.2.2.2) = some j.1) (fun j=>[(4,.slice j.2.1 j.1.length j.2.2.1),(5,.slice la xs.length lc),(6,I j.2.2.2)]) (fun _=>G) (fun j=>[.acc (.slice j.2.1 j.1.length j.2.2.1) tIntP 1 j.1.length (rows inR j.1)]) (fun j=>xs.length - j.2.2.2) ([],some ⟨x,0,none⟩,0,0) ?_ tU rfl sRr (fun j Hj=>?_)
 ·exact ⟨⟨rfl,Nat.zero_le _⟩,rfl⟩
 obtain ⟨ps,a,c,i⟩:=j
 dsimp only at Hj ⊢
 obtain ⟨⟨hpl,hi0⟩,hst⟩:=Hj
 by_cases hi : i < xs.length
 ·obtain ⟨bl,ol,cl,e,hsx⟩:=hcut.expl oM
  simp only [Value.slice.injEq] at e
  obtain ⟨rfl,-,rfl⟩:=e
  have hxl1:=hxl i hi
  cases hn : numOf (nth xs i) 999999 with
  | none =>
   have hno:=hbad hi hn
   have hns : (!(numOf (nth xs i) 999999).isSome) = true:=by rw [hn];rfl
   repeat' (first | (refine jR ?_) | (refine jo ?_;first | refine jV (g_lenL rfl) ?_ | (refine jV (g_iaddrN rfl rfl oM) ?_) | (refine jV (g_ldRS rfl rfl aS ?_) ?_;(focus ((omega);done))) | (refine c_pu rfl rfl rfl (c_l3Num oM) rfl ?_;rintro _ ⟨n,rfl,hnum⟩)) | (refine k_tt rfl (by first | assumption | (refine decide_eq_true ?_;(omega))) ?_))
   all_goals refine jZ (vs:=[_,_]) rfl ⟨rfl,rfl,trivial⟩ rfl ⟨hle,rfl,?_⟩
   all_goals exact ⟨_,_,_,by rw [hno];rfl,fun p hp=>by rw [hno] at hp;cases hp⟩
  | some m =>
   have hns : (!(numOf (nth xs i) 999999).isSome) = false:=by rw [hn];rfl
   repeat' (first | refine jM ?_ | (refine jo ?_;first | refine jF fun _=>?_ | refine jV (g_lenL rfl) ?_ | (refine jV (g_iaddrN rfl rfl oM) ?_) | (refine jV (g_ldRS rfl rfl aS ?_) ?_;(focus ((omega);done))) | (refine c_apX rfl rfl rfl rfl rfl rfl rfl rfl rfl oM fun _ _=>?_) | (refine c_pu rfl rfl rfl (c_l3Num oM) rfl ?_;rintro _ ⟨n,rfl,hnum⟩)) | (refine k_tt rfl (dTt oM) ?_) | (refine k_ff rfl ‹_› ?_))
   rename_i y1 yc
   have hmn:=hnum m hn
   subst hmn
   have hst2 : stepsOf (xs.take (i + 1)) = some (ps ++ [n]):=by rw [take_nth hi,stepsOf_snoc hst,hn];rfl
   have hl1 : (ps ++ [n]).length = ps.length + 1:=by simp
   rw [show rows inR ps ++ [I n] = rows inR (ps ++ [n]) from (rows_snoc inR ps n).symm]
   exact k_rd (ps ++ [n],some ⟨y1,0,none⟩,yc,i + 1) ⟨⟨by dsimp only;omega,by dsimp only;omega⟩,hst2⟩ (by dsimp only;omega) (by rw [hl1];repeat (first | exact trivial | refine ⟨rfl,?_⟩)) rfl (by rw [hl1];repeat (first | exact List.nil_sublist _ | apply List.Sublist.cons_cons))
 ·rw [List.take_of_length_le oM] at hst
  rw [hst] at hpo
  dsimp only at hpo
  repeat' (first | (refine jR ?_) | (refine jo ?_;(refine jV (g_lenL rfl) ?_)) | (refine k_ff rfl (dFf oM) ?_))
  refine Nx.sealS (v:=.slice a ps.length c) fun G2 hG2 hsl=>?_
  refine jZ (vs:=[_,_]) rfl ⟨rfl,rfl,trivial⟩ rfl ⟨hle.trans hG2,rfl,?_⟩
  have e8 : decide (((xs.length : Nat) : Int) ≤ 8) = (pathOf s).isSome:=by
   rw [hpo]
   by_cases h8 : ps.length ≤ 8
   ·rw [if_pos h8];exact decide_eq_true oM
   ·rw [if_neg h8];exact decide_eq_false oM
  refine ⟨_,_,_,by rw [e8];rfl,fun p hp=>?_⟩
  rw [hpo] at hp
  split at hp
  ·simp only [Option.some.injEq] at hp;subst hp;exact ⟨rfl,hsl⟩
  ·cases hp
theorem refT_p {ts : List Ty} {c : UInt8} {r : List UInt8} (h : c.toNat ≠ 64) : refT ts (c :: r) = none:=by
 cases h2 : refT ts (c :: r) with
 | none=>rfl
 | some t=>exact (refT_no h2 rfl h).elim
theorem first_at {p : Nat → Prop} {n : Nat} (h : ∃ j,j < n ∧ p j) : ∃ j,j < n ∧ p j ∧ ∀ i,i < j → ¬ p i:=by
 obtain ⟨j,hj,hp⟩:=h
 induction j using Nat.strongRecOn with
 | _ j ih =>
  by_cases hc : ∃ i,i < j ∧ p i
  ·obtain ⟨i,hi,hpi⟩:=hc
   exact ih i hi oM hpi
  ·exact ⟨j,hj,hp,fun i hi hpi=>hc ⟨i,hi,hpi⟩⟩
theorem toldV_at {f : Fld} : ∀ {fs : List (Fld × V)} {j : Nat},j < fs.length → (nth fs j).1.tag = f.tag → (∀ i,i < j → (nth fs i).1.tag ≠ f.tag) → toldV f (fs.map fldV) = some (nth fs j).2
 | [],j,hj,_,_=>by simp at hj
 | p :: fs,0,_,ht,_=>by
  rw [List.map_cons,toldV,if_pos (show (fldV p).tag = f.tag from ht)];rfl
 | p :: fs,j + 1,hj,ht,hno=>by
  rw [List.map_cons,toldV,if_neg (show ¬ (fldV p).tag = f.tag from hno 0 oM)]
  exact toldV_at (fs:=fs) (j:=j) (by simpa using hj) ht fun i hi=>hno (i + 1) oM
theorem toldV_no {f : Fld} : ∀ {fs : List (Fld × V)},(∀ i,i < fs.length → (nth fs i).1.tag ≠ f.tag) → toldV f (fs.map fldV) = none
 | [],_=>rfl
 | p :: fs,h=>by
  rw [List.map_cons,toldV,if_neg (show ¬ (fldV p).tag = f.tag from h 0 (by simp))]
  exact toldV_no fun i hi=>h (i + 1) (by simpa using hi)
theorem valOf_rd {ts : List Ty} {k w : List UInt8} {v : V} (h : valOf ts k w = some v) : rd ts 12 k w = some (v,[]) ∧ w.length ≤ 400:=by
 unfold valOf at h
 split at h
 ·rename_i hl
  split at h
  ·rename_i v' hv;rw [hv];exact ⟨congrArg (fun x=>some (x,[])) (Option.some.inj h),hl⟩
  ·cases h
 ·cases h
theorem c_atY {b j : Nat} {k : List UInt8} {tg : List Int} {bs : List Nat} {a a2 : Option Addr} {c c2 : Nat} {n : Int} (hl : bs.length = tg.length) (h9 : tg.length ≤ 100000) (hs : Seg G b 0 [S k,S [82],.slice a tg.length c,.slice a2 tg.length c2]) (h1 : SlV G (.slice a tg.length c) 1 tg.length (rows inR tg)) (h2 : SlV G (.slice a2 tg.length c2) 1 tg.length (rows ptR bs)) (hj : j < tg.length) (hjn : nth tg j = n) (hno : ∀ i,i < j → nth tg i ≠ n) :
  PuG Tryz.prog 97 [Pt b 0,I n] G (· = Tu [Pt (nth bs j) 0,Bo true]):=by
 obtain ⟨xb,xo,xc,e,hs1⟩:=h1.expl oM
 simp only [Value.slice.injEq] at e
 obtain ⟨rfl,-,rfl⟩:=e
 obtain ⟨zb,zo,zc,e,hs2⟩:=h2.expl oM
 simp only [Value.slice.injEq] at e
 obtain ⟨rfl,-,rfl⟩:=e
 refine jE [(0,_),(1,_)] Tryz.func97 Tryz.ntmps97 fun B hB=>?_
 repeat' (refine jR ?_)
 refine k_loop (ι:=Nat) (fun i=>i ≤ j) (fun i=>[(0,Pt b 0),(1,I n),(6,I i)]) (fun _=>G) (fun i=>[]) (fun i=>j - i) 0 ?_ tU rfl sRr (fun i Hi=>?_)
 ·exact Nat.zero_le _
 have hxi : nth bs i = nth bs i:=rfl
 have hti : nth tg i = nth tg i:=rfl
 by_cases hij : i = j
 ·subst hij
  repeat' (first | (refine jR ?_) | (refine jo ?_;first | refine jV (g_ldS rfl rfl aS rfl rfl) ?_ | (refine jV (g_ldR1x rfl rfl aS ?_ aS rfl) ?_;(focus ((omega);done))) | refine jV (g_lenL rfl) ?_ | (refine jAt rfl ?_) | (refine jV (g_iaddrN rfl rfl oM) ?_)) | (refine k_gt rfl rfl (dTt oM) ?_) | (refine k_tt rfl (by first | rfl | (refine decide_eq_true ?_;(rfl))) ?_))
  all_goals refine jY (vs:=[_,_]) ?_
  all_goals rfl
 ·have h3:=hno i oM
  repeat' (first | refine jM ?_ | (refine jo ?_;first | refine jV (g_ldS rfl rfl aS rfl rfl) ?_ | (refine jV (g_ldR1x rfl rfl aS ?_ aS rfl) ?_;(focus ((omega);done))) | refine jV (g_lenL rfl) ?_ | (refine jAt rfl ?_) | (refine jV (g_iaddrN rfl rfl oM) ?_)) | (refine k_gt rfl rfl (dTt oM) ?_) | (refine k_tt rfl rfl ?_) | (refine k_ff rfl (dFf ‹_›) ?_))
  exact k_rd (i + 1) (show i + 1 ≤ j by have : i ≤ j:=Hi;omega) (by have : i ≤ j:=Hi;omega) tU rfl sRr
theorem c_atN {b : Nat} {k : List UInt8} {tg : List Int} {a a2 : Option Addr} {c c2 : Nat} {n : Int} (h9 : tg.length ≤ 100000) (hs : Seg G b 0 [S k,S [82],.slice a tg.length c,.slice a2 tg.length c2]) (h1 : SlV G (.slice a tg.length c) 1 tg.length (rows inR tg)) (hno : ∀ i,i < tg.length → nth tg i ≠ n) :
  PuG Tryz.prog 97 [Pt b 0,I n] G (· = Tu [.pointer none,Bo false]):=by
 refine jE [(0,_),(1,_)] Tryz.func97 Tryz.ntmps97 fun B hB=>?_
 repeat' (refine jR ?_)
 refine k_loop (ι:=Nat) (fun i=>i ≤ tg.length) (fun i=>[(0,Pt b 0),(1,I n),(6,I i)]) (fun _=>G) (fun i=>[]) (fun i=>tg.length - i) 0 ?_ tU rfl sRr (fun i Hi=>?_)
 ·exact Nat.zero_le _
 by_cases hi : i < tg.length
 ·obtain ⟨xb,xo,xc,e,hs1⟩:=h1.expl oM
  simp only [Value.slice.injEq] at e
  obtain ⟨rfl,-,rfl⟩:=e
  have h3:=hno i hi
  have hti : nth tg i = nth tg i:=rfl
  repeat' (first | refine jM ?_ | (refine jo ?_;first | refine jV (g_ldS rfl rfl aS rfl rfl) ?_ | (refine jV (g_ldR1x rfl rfl aS ?_ aS rfl) ?_;(focus ((omega);done))) | refine jV (g_lenL rfl) ?_ | (refine jAt rfl ?_) | (refine jV (g_iaddrN rfl rfl oM) ?_)) | (refine k_gt rfl rfl (dTt oM) ?_) | (refine k_tt rfl rfl ?_) | (refine k_ff rfl (dFf ‹_›) ?_))
  exact k_rd (i + 1) oM oM tU rfl sRr
 ·repeat' (first | (refine jR ?_) | (refine jo ?_;first | refine jV (g_ldS rfl rfl aS rfl rfl) ?_ | refine jV (g_lenL rfl) ?_ | (refine jAf rfl ?_)) | (refine k_gf rfl rfl (dFf oM) ?_) | (refine k_ff rfl rfl ?_))
  all_goals refine jY (vs:=[_,_]) ?_
  all_goals rfl
theorem c_l4Record {u : Value} {x : TyX} {k : List UInt8} {n : Int} (hu : u.oneCell' = true) (hf : SlV G (slX x) 4 x.2.fields.length (rows fldF x.2.fields)) (hl : x.2.fields.length ≤ 1000) (cx_rf : PuG Tryz.prog 98 [u,S k] G (· = Tu [Ag [U8 x.2.sort,S x.2.name,slX x],Bo true])) (hso : x.2.sort = 82) :
  PuG Tryz.prog 64 [u,S k,I n] G (· = Tu [Ag (fldF ((fldT x.2.fields n).getD zF)),Bo (fldT x.2.fields n).isSome]):=by
 have cx_fld:=c_fieldS (tag:=n) hf hl
 obtain ⟨⟨a,ca⟩,⟨so,nm,fs⟩⟩:=x
 dsimp only at hso cx_fld cx_rf ⊢
 subst hso
 dsimp only [slX] at cx_fld cx_rf ⊢
 cases hg : fldT fs n with
 | none =>
  rw [hg] at cx_fld
  simp only [Option.getD_none,Option.isSome_none] at cx_fld ⊢
  refine jE [(0,_),(1,_),(2,_)] Tryz.func64 Tryz.ntmps64 fun B hB=>?_
  repeat' (first | (refine jR ?_) | (refine jo ?_;first | refine jL fun _=>?_ | refine jC rfl rfl rfl ?_ | refine jAm rfl ?_ | (refine c_rt rfl rfl rfl cx_rf rfl ?_) | (refine c_rt rfl rfl rfl cx_fld rfl ?_)) | (refine k_any (s_anyD (id:=3) (tt:=6) rfl mixed ?_);refine jW 10 [1,2] (bts 12 6) ?_;(try (refine Nx.re (d:=26) (v':=Bo true) rfl (congrArg Value.bool rfl) ?_));refine jW 9 [3] (bts 12 14) ?_;(refine jG (bts 12 15) 0 rfl (g_ldA rfl rfl rfl rfl) ?_);((refine jG (bts 12 31) 4 rfl (g_pickT rfl rfl ?_) ?_;(focus ((rfl);done))));refine jW 6 [5] (bts 12 63) ?_;(try (refine Nx.re (d:=29) (v':=Bo false) rfl (congrArg Value.bool rfl) ?_));refine jW 5 [6] (bts 12 127) ?_;(refine jN (bts 12 255) 7 rfl ?_);refine jW 3 [8] (bts 12 511) ?_;((refine jG (bts 12 1023) 9 rfl (g_pickF rfl rfl ?_) ?_;(focus ((rfl);done))));refine jA 10 rfl ?_;(refine jC rfl rfl rfl ?_);refine jK (bts 12 2047) ?_;refine jW 0 [11] (bts 12 4095) ?_;refine jQ ?_))
  all_goals refine jZ (vs:=[_,_]) rfl ⟨rc_A rfl rfl rfl rfl,rfl,trivial⟩ rfl ⟨rfl,rfl,?_⟩
  all_goals rfl
 | some f =>
  rw [hg] at cx_fld
  simp only [Option.getD_some,Option.isSome_some] at cx_fld ⊢
  refine jE [(0,_),(1,_),(2,_)] Tryz.func64 Tryz.ntmps64 fun B hB=>?_
  repeat' (first | (refine jR ?_) | (refine jo ?_;first | refine jL fun _=>?_ | refine jC rfl rfl rfl ?_ | refine jAm rfl ?_ | (refine c_rt rfl rfl rfl cx_rf rfl ?_) | (refine c_rt rfl rfl rfl cx_fld rfl ?_)) | (refine k_any (s_anyD (id:=3) (tt:=6) rfl mixed ?_);refine jW 10 [1,2] (bts 12 6) ?_;(try (refine Nx.re (d:=26) (v':=Bo true) rfl (congrArg Value.bool rfl) ?_));refine jW 9 [3] (bts 12 14) ?_;(refine jG (bts 12 15) 0 rfl (g_ldA rfl rfl rfl rfl) ?_);((refine jG (bts 12 31) 4 rfl (g_pickT rfl rfl ?_) ?_;(focus ((rfl);done))));refine jW 6 [5] (bts 12 63) ?_;(try (refine Nx.re (d:=29) (v':=Bo true) rfl (congrArg Value.bool rfl) ?_));refine jW 5 [6] (bts 12 127) ?_;(refine jG (bts 12 255) 7 rfl (g_ld rfl rfl rfl) ?_);refine jW 3 [8] (bts 12 511) ?_;((refine jG (bts 12 1023) 9 rfl (g_pickT rfl rfl ?_) ?_;(focus ((rfl);done))));refine jA 10 rfl ?_;(refine jC rfl rfl rfl ?_);refine jK (bts 12 2047) ?_;refine jW 0 [11] (bts 12 4095) ?_;refine jQ ?_))
  all_goals refine jZ (vs:=[_,_]) rfl ⟨rc_A rfl rfl rfl rfl,rfl,trivial⟩ rfl ⟨rfl,rfl,?_⟩
  all_goals rfl
def StepP (ts : List Ty) (o : Option (List UInt8 × V)) (r : Value) (G' : Gh) : Prop:=(o = none ∧ ∃ q,r = Tu [.pointer q,Bo false]) ∨ ∃ k' v' b',o = some (k',v') ∧ r = Tu [Pt b' 0,Bo true] ∧ RepR G' ts v' k' b'
theorem StepP.no {f : FuncId} {args : List Value} {ts : List Ty} {o : Option (List UInt8 × V)} (h : FnS Tryz.prog f args G (StepP ts o)) (e : o = none) : FnS Tryz.prog f args G (fun r _=>∃ q,r = Tu [.pointer q,Bo false]):=by
 refine h.mono ?_
 rintro v G' L' ⟨h1,h2,⟨_,h3⟩ | ⟨k',v',b',h3,_⟩⟩
 ·exact ⟨h1,h2,h3⟩
 ·rw [e] at h3;cases h3
theorem StepP.yes {f : FuncId} {args : List Value} {ts : List Ty} {o : Option (List UInt8 × V)} {k' : List UInt8} {v' : V} (h : FnS Tryz.prog f args G (StepP ts o)) (e : o = some (k',v')) : FnS Tryz.prog f args G (fun r G'=>∃ b',r = Tu [Pt b' 0,Bo true] ∧ RepR G' ts v' k' b'):=by
 refine h.mono ?_
 rintro v G' L' ⟨h1,h2,⟨h3,_⟩ | ⟨k2,v2,b',h3,h4,h5⟩⟩
 ·rw [e] at h3;cases h3
 ·rw [e] at h3
  simp only [Option.some.injEq,Prod.mk.injEq] at h3
  obtain ⟨rfl,rfl⟩:=h3
  exact ⟨h1,h2,b',h4,h5⟩
theorem stepV_plain {ts : List Ty} {c : UInt8} {r : List UInt8} {v : V} {n : Int} (h1 : c.toNat ≠ 91) (h2 : c.toNat ≠ 63) (h3 : c.toNat ≠ 64) : stepV ts (c :: r) v n = none:=by
 unfold stepV;dsimp only;rw [if_neg (fun h=>by rcases h with h | h;exact h1 h;exact h2 h),refT_p h3]
theorem stepV_kid {ts : List Ty} {c : UInt8} {r : List UInt8} {v : V} {n : Int} (h : c.toNat = 91 ∨ c.toNat = 63) : stepV ts (c :: r) v n = if n < (v.kids.length : Nat) then some (r,nth v.kids n.toNat) else none:=by
 unfold stepV;dsimp only;rw [if_pos h]
theorem stepV_typ {ts : List Ty} {k : List UInt8} {v : V} {n : Int} {t : Ty} (h : refT ts k = some t) : stepV ts k v n = match fldT t.fields n with
  | none=>none
  | some f=>if t.sort = 69 then none else if t.sort = 82 then some (f.kind,getV ts v f) else if v.tag = n then some (f.kind,nth v.kids 0) else none:=by
 obtain ⟨r,rfl⟩:=refT_64 h
 unfold stepV;dsimp only;rw [if_neg dC,h]
 all_goals rfl
theorem c_stepS {u : Value} {vs : List TyX} (h : SchR G u vs) (hw : SchW (tys vs)) {k : List UInt8} {v : V} {b : Nat} (hr : RepR G (tys vs) v k b) (ho : OfK (tys vs) k v) (hki : kindIn (tys vs) k = true) {n : Int} (hn : 0 ≤ n ∧ n ≤ 999999) (htt : v.tot ≤ 1000000) :
  FnS Tryz.prog 60 [u,Pt b 0,I n] G (StepP (tys vs) (stepV (tys vs) k v n)):=by
 have hu:=h.sl.one
 obtain ⟨ua,uc,rfl⟩:=h.sl.sl
 cases hr with
 | leaf w x k tx b h1 h2 =>
  have hn82 : ¬ tx = [82]:=by
   rcases h2 with ⟨_,_,rfl,h⟩ | ⟨_,_,rfl⟩ | ⟨_,_,rfl,h⟩
   ·rintro rfl;exact absurd (h 82 (by simp)) dC
   ·simp
   ·rcases h with rfl | rfl <;> decide
  have hn85 : ¬ tx = [85]:=by
   rcases h2 with ⟨_,_,rfl,h⟩ | ⟨_,_,rfl⟩ | ⟨_,_,rfl,h⟩
   ·rintro rfl;exact absurd (h 85 (by simp)) dC
   ·simp
   ·rcases h with rfl | rfl <;> decide
  have hno : stepV (tys vs) k (.nd w x 0 []) n = none:=by
   rcases h2 with ⟨_,rfl,_⟩ | ⟨_,rfl,_⟩ | ⟨_,rfl,_⟩
   all_goals exact stepV_plain dC dC dC
  rw [hno]
  rcases h2 with ⟨rfl,rfl,_⟩ | ⟨rfl,rfl,_⟩ | ⟨rfl,rfl,_⟩
  all_goals
   refine jB [(0,_),(1,_),(2,_)] Tryz.func60 Tryz.ntmps60 fun B hok hB hW=>?_
   repeat' (first | (refine jX ?_) | (refine jo ?_;first | refine jV (g_ldS rfl rfl aS rfl rfl) ?_ | (refine jAf rfl ?_)) | (refine k_gf rfl rfl (by first | rfl | (refine decide_eq_false ?_;(assumption))) ?_) | (refine k_ff rfl rfl ?_))
   all_goals refine jZ (vs:=[_,_]) rfl ⟨rfl,rfl,trivial⟩ rfl ⟨Gh.le.refl _,rfl,?_⟩
   all_goals exact .inl ⟨rfl,_,rfl⟩
 | lst k b ks bs a c h1 h2 h3 hk =>
  have hk0 : bt (91 :: k) (Int.toNat 0) = 91:=bt_zero 91 k
  have hkl2 : (91 :: k).length = k.length + 1:=rfl
  have hst:=stepV_kid (ts:=tys vs) (c:=91) (r:=k) (v:=.nd 91 [] 0 ks) (n:=n) (.inl rfl)
  rw [V.kids] at hst
  rw [hst]
  by_cases hn2 : n < ((ks.length : Nat) : Int)
  ·obtain ⟨i,rfl⟩ : ∃ i : Nat,n = i:=⟨n.toNat,oM⟩
   obtain ⟨kb,ko,kc,e,hs⟩:=h2.expl oM
   simp only [Value.slice.injEq] at e
   obtain ⟨rfl,-,rfl⟩:=e
   have hxi : nth bs i = nth bs i:=rfl
   rw [if_pos hn2]
   refine jB [(0,_),(1,_),(2,_)] Tryz.func60 Tryz.ntmps60 fun B hok hB hW=>?_
   repeat' (first | refine jM ?_ | (refine jo ?_;first | refine jV (g_ldS rfl rfl aS rfl rfl) ?_ | (refine jV (g_ldR1x rfl rfl aS ?_ aS rfl) ?_;(focus ((omega);done))) | (refine jAt rfl ?_) | refine jV (g_lenL rfl) ?_ | (refine jV (g_iaddrN rfl rfl oM) ?_)) | (refine k_gt rfl rfl rfl ?_) | (refine k_tt rfl rfl ?_) | (refine k_ff rfl (dFf oM) ?_))
   all_goals refine jZ (vs:=[_,_]) rfl ⟨rfl,rfl,trivial⟩ rfl ⟨Gh.le.refl _,rfl,?_⟩
   all_goals exact .inr ⟨_,_,nth bs i,rfl,rfl,hk i oM⟩
  ·rw [if_neg hn2]
   refine jB [(0,_),(1,_),(2,_)] Tryz.func60 Tryz.ntmps60 fun B hok hB hW=>?_
   repeat' (first | refine jM ?_ | (refine jo ?_;first | refine jV (g_ldS rfl rfl aS rfl rfl) ?_ | (refine jAt rfl ?_) | refine jV (g_lenL rfl) ?_) | (refine k_gt rfl rfl rfl ?_) | (refine k_tt rfl (by first | rfl | (refine decide_eq_true ?_;(omega))) ?_))
   all_goals refine jZ (vs:=[_,_]) rfl ⟨rfl,rfl,trivial⟩ rfl ⟨Gh.le.refl _,rfl,?_⟩
   all_goals exact .inl ⟨rfl,_,rfl⟩
 | non k b h1 =>
  have hk0 : bt (63 :: k) (Int.toNat 0) = 63:=bt_zero 63 k
  have hkl2 : (63 :: k).length = k.length + 1:=rfl
  have hst:=stepV_kid (ts:=tys vs) (c:=63) (r:=k) (v:=.nd 63 [] 0 []) (n:=n) (.inr rfl)
  rw [V.kids,if_neg (by simp;omega)] at hst
  rw [hst]
  refine jB [(0,_),(1,_),(2,_)] Tryz.func60 Tryz.ntmps60 fun B hok hB hW=>?_
  repeat' (first | refine jM ?_ | (refine jo ?_;first | refine jV (g_ldS rfl rfl aS rfl rfl) ?_ | (refine jAf rfl ?_) | refine jV (g_lenL rfl) ?_) | (refine k_gf rfl rfl rfl ?_) | (refine k_tt rfl (by first | rfl | (refine decide_eq_true ?_;(omega))) ?_))
  all_goals refine jZ (vs:=[_,_]) rfl ⟨rfl,rfl,trivial⟩ rfl ⟨Gh.le.refl _,rfl,?_⟩
  all_goals exact .inl ⟨rfl,_,rfl⟩
 | opt k b kb b' cc w h0 h1 h2 h3 =>
  have hk0 : bt (63 :: k) (Int.toNat 0) = 63:=bt_zero 63 k
  have hkl2 : (63 :: k).length = k.length + 1:=rfl
  have hst:=stepV_kid (ts:=tys vs) (c:=63) (r:=k) (v:=.nd 63 [] 0 [w]) (n:=n) (.inr rfl)
  rw [V.kids] at hst
  rw [hst]
  by_cases hn2 : n = 0
  ·subst hn2
   rw [if_pos (by simp)]
   refine jB [(0,_),(1,_),(2,_)] Tryz.func60 Tryz.ntmps60 fun B hok hB hW=>?_
   repeat' (first | refine jM ?_ | (refine jo ?_;first | refine jV (g_ldS rfl rfl aS rfl rfl) ?_ | (refine jAf rfl ?_) | refine jV (g_lenL rfl) ?_ | (refine jV (g_iaddr rfl rfl oM) ?_)) | (refine k_gf rfl rfl rfl ?_) | (refine k_tt rfl rfl ?_) | (refine k_ff rfl rfl ?_))
   all_goals refine jZ (vs:=[_,_]) rfl ⟨rfl,rfl,trivial⟩ rfl ⟨Gh.le.refl _,rfl,?_⟩
   all_goals exact .inr ⟨_,_,b',rfl,rfl,h3⟩
  ·rw [if_neg (by simp;omega)]
   refine jB [(0,_),(1,_),(2,_)] Tryz.func60 Tryz.ntmps60 fun B hok hB hW=>?_
   repeat' (first | refine jM ?_ | (refine jo ?_;first | refine jV (g_ldS rfl rfl aS rfl rfl) ?_ | (refine jAf rfl ?_) | refine jV (g_lenL rfl) ?_) | (refine k_gf rfl rfl rfl ?_) | (refine k_tt rfl (by first | rfl | (refine decide_eq_true ?_;(omega))) ?_))
   all_goals refine jZ (vs:=[_,_]) rfl ⟨rfl,rfl,trivial⟩ rfl ⟨Gh.le.refl _,rfl,?_⟩
   all_goals exact .inl ⟨rfl,_,rfl⟩
 | enm k b tgb t d h0 h1 h2 h3 =>
  have hst:=stepV_typ (v:=.nd 69 [] d.tag []) (n:=n) h0.1
  have hno : stepV (tys vs) k (.nd 69 [] d.tag []) n = none:=by
   rw [hst]
   cases fldT t.fields n with
   | none=>rfl
   | some f=>dsimp only;rw [if_pos h0.2]
  rw [hno]
  obtain ⟨r,rfl⟩:=refT_64 h0.1
  have hk0 : bt (64 :: r) (Int.toNat 0) = 64:=bt_zero 64 r
  have hkl2 : (64 :: r).length = r.length + 1:=rfl
  refine jB [(0,_),(1,_),(2,_)] Tryz.func60 Tryz.ntmps60 fun B hok hB hW=>?_
  repeat' (first | refine jM ?_ | (refine jo ?_;first | refine jV (g_ldS rfl rfl aS rfl rfl) ?_ | (refine jAf rfl ?_)) | (refine k_gf rfl rfl rfl ?_) | (refine k_ff rfl rfl ?_))
  all_goals refine jZ (vs:=[_,_]) rfl ⟨rfl,rfl,trivial⟩ rfl ⟨Gh.le.refl _,rfl,?_⟩
  all_goals exact .inl ⟨rfl,_,rfl⟩
 | uni k b tgb kb b' cc t d w hcc h0 h1 h2 h3 h4 hk =>
  have hst:=stepV_typ (v:=.nd 85 [] d.tag [w]) (n:=n) h0.1
  have hTW:=hw.ty _ (refT_mem h0.1)
  have hso:=h0.2
  obtain ⟨r,rfl⟩:=refT_64 h0.1
  have hk0 : bt (64 :: r) (Int.toNat 0) = 64:=bt_zero 64 r
  have hkl2 : (64 :: r).length = r.length + 1:=rfl
  by_cases hdn : d.tag = n
  ·have hyes : stepV (tys vs) (64 :: r) (.nd 85 [] d.tag [w]) n = some (d.kind,w):=by
    rw [hst,← hdn,fldT_mem hTW h1]
    dsimp only
    rw [if_neg oM,if_neg oM,if_pos (show V.tag (.nd 85 [] d.tag [w]) = d.tag from rfl)];rfl
   rw [hyes]
   refine jB [(0,_),(1,_),(2,_)] Tryz.func60 Tryz.ntmps60 fun B hok hB hW=>?_
   repeat' (first | refine jM ?_ | (refine jo ?_;first | refine jV (g_ldS rfl rfl aS rfl rfl) ?_ | (refine jAt rfl ?_) | (refine jAf rfl ?_)) | (refine k_gt rfl rfl rfl ?_) | (refine k_gf rfl rfl rfl ?_) | (refine k_tt rfl rfl ?_) | (refine k_ff rfl rfl ?_))
   (refine k_any (s_any (id:=6) _ (fun _ h=>h) mixed ?_);refine jT 9 [0,1,2,6,7,8,12] (bts 16 4551) ?_;(refine jG (bts 16 4559) 3 rfl (g_ldS rfl rfl aS rfl rfl) ?_);(refine jG (bts 16 4575) 4 rfl (g_iaddr rfl rfl oM) ?_);(refine jG (bts 16 4607) 5 rfl (g_ldS rfl rfl aS rfl rfl) ?_);refine jT 5 [14] (bts 16 20991) ?_;(refine jG (bts 16 21503) 9 rfl (g_ldS rfl rfl aS rfl rfl) ?_);(refine jG (bts 16 22527) 10 rfl (g_iaddr rfl rfl oM) ?_);(refine jG (bts 16 24575) 11 rfl (g_ldS rfl rfl aS rfl rfl) ?_);refine jT 0 [13,15] (bts 16 65535) ?_;refine jQ ?_)
   all_goals repeat' (refine jR ?_)
   all_goals refine jZ (vs:=[_,_]) rfl ⟨rfl,rfl,trivial⟩ rfl ⟨Gh.le.refl _,rfl,?_⟩
   all_goals (try rw [decide_eq_true hdn])
   all_goals exact .inr ⟨_,_,b',rfl,rfl,hk⟩
  ·have hno : stepV (tys vs) (64 :: r) (.nd 85 [] d.tag [w]) n = none:=by
    rw [hst]
    cases fldT t.fields n with
    | none=>rfl
    | some f =>
     dsimp only
     rw [if_neg oM,if_neg oM,if_neg (show ¬ V.tag (.nd 85 [] d.tag [w]) = n from hdn)]
   rw [hno]
   refine jB [(0,_),(1,_),(2,_)] Tryz.func60 Tryz.ntmps60 fun B hok hB hW=>?_
   repeat' (first | refine jM ?_ | (refine jo ?_;first | refine jV (g_ldS rfl rfl aS rfl rfl) ?_ | (refine jAt rfl ?_) | (refine jAf rfl ?_)) | (refine k_gt rfl rfl rfl ?_) | (refine k_gf rfl rfl rfl ?_) | (refine k_tt rfl rfl ?_) | (refine k_ff rfl rfl ?_))
   (refine k_any (s_any (id:=6) _ (fun _ h=>h) mixed ?_);refine jT 9 [0,1,2,6,7,8,12] (bts 16 4551) ?_;(refine jG (bts 16 4559) 3 rfl (g_ldS rfl rfl aS rfl rfl) ?_);(refine jG (bts 16 4575) 4 rfl (g_iaddr rfl rfl oM) ?_);(refine jG (bts 16 4607) 5 rfl (g_ldS rfl rfl aS rfl rfl) ?_);refine jT 5 [14] (bts 16 20991) ?_;(refine jG (bts 16 21503) 9 rfl (g_ldS rfl rfl aS rfl rfl) ?_);(refine jG (bts 16 22527) 10 rfl (g_iaddr rfl rfl oM) ?_);(refine jG (bts 16 24575) 11 rfl (g_ldS rfl rfl aS rfl rfl) ?_);refine jT 0 [13,15] (bts 16 65535) ?_;refine jQ ?_)
   all_goals repeat' (refine jR ?_)
   all_goals refine jZ (vs:=[_,_]) rfl ⟨rfl,rfl,trivial⟩ rfl ⟨Gh.le.refl _,rfl,?_⟩
   all_goals (try rw [decide_eq_false hdn])
   all_goals exact .inl ⟨rfl,_,rfl⟩
 | recd k b t fs bs a a2 c c2 h0 h1 h2 h3 h4 h5 hk =>
  have hst:=stepV_typ (v:=.nd 82 [] 0 (fs.map fldV)) (n:=n) h0.1
  have hTW:=hw.ty _ (refT_mem h0.1)
  have hso:=h0.2
  have hkk:=kindOk_kOk (kindIn_ok hki)
  obtain ⟨r,rfl⟩:=refT_64 h0.1
  have hk0 : bt (64 :: r) (Int.toNat 0) = 64:=bt_zero 64 r
  have hkl2 : (64 :: r).length = r.length + 1:=rfl
  have hvl : vs.length ≤ 8:=by have:=hw.len;unfold tys at this;simpa using this
  have href:=refV_ty vs (64 :: r)
  have cx_rf:=c_ref (k:=64 :: r) h oM hkk.1 oM
  rcases hrv : refV vs (64 :: r) with _ | x
  ·rw [hrv,h0.1] at href;cases href
  rw [hrv] at href cx_rf
  have htx : x.2 = t:=by rw [h0.1] at href;exact Option.some.inj href
  subst htx
  have hxm:=refV_mem hrv
  have hfl:=hTW.len
  have cx_rec:=c_l4Record (n:=n) hu (h.fl x hxm) oM cx_rf hso
  cases hg : fldT x.2.fields n with
  | none =>
   rw [hg] at hst cx_rec
   have hno : stepV (tys vs) (64 :: r) (.nd 82 [] 0 (fs.map fldV)) n = none:=hst
   rw [show (fs.map fun p=>V.nd 61 [] p.1.tag [p.2]) = fs.map fldV from rfl,hno]
   refine jB [(0,_),(1,_),(2,_)] Tryz.func60 Tryz.ntmps60 fun B hok hB hW=>?_
   repeat' (first | refine jM ?_ | (refine jo ?_;first | refine jV (g_ldS rfl rfl aS rfl rfl) ?_ | (refine jAt rfl ?_) | (refine jAf rfl ?_) | refine jL fun _=>?_ | refine jC rfl rfl rfl ?_ | (refine c_rt rfl rfl rfl cx_rec rfl ?_)) | (refine k_gt rfl rfl rfl ?_) | (refine k_gf rfl rfl rfl ?_) | (refine k_tt rfl rfl ?_) | (refine k_ff rfl rfl ?_))
   all_goals refine jZ (vs:=[_,_]) rfl ⟨rfl,rfl,trivial⟩ rfl ⟨Gh.le.refl _,rfl,?_⟩
   all_goals exact .inl ⟨rfl,_,rfl⟩
  | some f =>
   rw [hg] at hst cx_rec
   simp only [Option.getD_some,Option.isSome_some] at cx_rec
   have hfm:=List.mem_of_find?_eq_some hg
   have hft : f.tag = n:=by have:=List.find?_some hg;simpa using this
   have hyes : stepV (tys vs) (64 :: r) (.nd 82 [] 0 (fs.map fldV)) n = some (f.kind,getV (tys vs) (.nd 82 [] 0 (fs.map fldV)) f):=by
    rw [hst];dsimp only;rw [if_neg oM,if_pos hso]
   rw [show (fs.map fun p=>V.nd 61 [] p.1.tag [p.2]) = fs.map fldV from rfl,hyes]
   have hfs9 : fs.length ≤ 100000:=by
    have h7:=tots_len (fs.map fldV)
    rw [nd_tot] at htt
    have e1 : (fs.map fldV).length = fs.length:=by simp
    have e2 : (fs.map fun p=>V.nd 61 [] p.1.tag [p.2]) = fs.map fldV:=rfl
    rw [e2] at htt
    omega
   have htn : ∀ i,i < fs.length → nth (fs.map fun p : Fld × V=>p.1.tag) i = (nth fs i).1.tag:=fun i hi=>by rw [nth_eq (by simpa using hi),nth_eq hi];simp
   have htl : (fs.map fun p : Fld × V=>p.1.tag).length = fs.length:=by simp
   by_cases hex : ∃ j,j < fs.length ∧ (nth fs j).1.tag = n
   ·obtain ⟨j,hj,hjn,hjf⟩:=first_at hex
    have hget : getV (tys vs) (.nd 82 [] 0 (fs.map fldV)) f = (nth fs j).2:=by
     unfold getV
     rw [V.kids,toldV_at hj (by rw [hjn,hft]) (fun i hi=>by rw [hft];exact hjf i hi)];rfl
    have hkd : (nth fs j).1 = f:=fld_tag hTW (h5 j hj) hfm (by rw [hjn,hft])
    rw [hget]
    have cx_at:=c_atY (tg:=fs.map fun p : Fld × V=>p.1.tag) (n:=n) (by rw [h4,htl]) oM (by rw [htl];exact h1) (by rw [htl];exact h2) (by rw [htl];exact h3) (by rw [htl];exact hj) (by rw [htn j hj];exact hjn) (fun i hi=>by rw [htn i oM];exact hjf i hi)
    have hrj:=hk j hj
    rw [hkd] at hrj
    refine jB [(0,_),(1,_),(2,_)] Tryz.func60 Tryz.ntmps60 fun B hok hB hW=>?_
    repeat' (first | refine jM ?_ | (refine jo ?_;first | refine jV (g_ldS rfl rfl aS rfl rfl) ?_ | (refine jAt rfl ?_) | (refine jAf rfl ?_) | refine jL fun _=>?_ | refine jC rfl rfl rfl ?_ | (refine c_rt rfl rfl rfl cx_rec rfl ?_) | (refine c_rt rfl rfl rfl cx_at rfl ?_)) | (refine k_gt rfl rfl rfl ?_) | (refine k_gf rfl rfl rfl ?_) | (refine k_tt rfl rfl ?_) | (refine k_ff rfl rfl ?_))
    all_goals refine jZ (vs:=[_,_]) rfl ⟨rfl,rfl,trivial⟩ rfl ⟨Gh.le.refl _,rfl,?_⟩
    all_goals exact .inr ⟨_,_,nth bs j,rfl,rfl,hrj⟩
   ·have hjno : ∀ i,i < fs.length → (nth fs i).1.tag ≠ n:=fun i hi e=>hex ⟨i,hi,e⟩
    have hget : getV (tys vs) (.nd 82 [] 0 (fs.map fldV)) f = standV (tys vs) f:=by
     unfold getV
     rw [V.kids,toldV_no fun i hi=>by rw [hft];exact hjno i hi];rfl
    rw [hget]
    obtain ⟨g1,g2,g3⟩:=standV_ok hw (refT_mem h0.1) oM hfm
    obtain ⟨g4,g5⟩:=valOf_rd g2
    have hdk : kindIn (tys vs) f.kind = true:=kind_in hw (refT_mem h0.1) oM hfm
    have cx_at:=c_atN (tg:=fs.map fun p : Fld × V=>p.1.tag) (n:=n) oM (by rw [htl];exact h1) (by rw [htl];exact h2) (fun i hi=>by rw [htn i oM];exact hjno i oM)
    have cx_sta:=c_standS (f:=f) h hw hdk
    have cx_rd:=readC_all (u:=.slice ua vs.length uc) (vs:=vs) hw 12 oM G f.kind (standF (tys vs) f) h hdk oM
    rw [g4] at cx_rd
    refine jB [(0,_),(1,_),(2,_)] Tryz.func60 Tryz.ntmps60 fun B hok hB hW=>?_
    repeat' (first | refine jM ?_ | (refine jo ?_;first | refine jV (g_ldS rfl rfl aS rfl rfl) ?_ | (refine jAt rfl ?_) | (refine jAf rfl ?_) | refine jL fun _=>?_ | refine jC rfl rfl rfl ?_ | (refine c_rt rfl rfl rfl cx_rec rfl ?_) | (refine c_rt rfl rfl rfl cx_at rfl ?_)) | (refine k_gt rfl rfl rfl ?_) | (refine k_gf rfl rfl rfl ?_) | (refine k_tt rfl rfl ?_) | (refine k_ff rfl rfl ?_))
    (refine k_any (s_any (id:=14) _ (fun _ h=>h) mixed ?_);refine jT 12 [0,2,5] (bts 15 37) ?_;(refine jG (bts 15 39) 1 rfl (g_bld rfl rfl) ?_);(refine jG (bts 15 47) 3 rfl (g_ldA rfl rfl rfl rfl) ?_);(refine jG (bts 15 111) 6 rfl (g_ld rfl rfl rfl) ?_);refine jA 4 rfl ?_;(refine c_rt rfl rfl rfl cx_sta rfl ?_);refine jS (bts 15 127) ?_;refine jA 7 rfl ?_;(refine c_fns rfl rfl rfl cx_rd rfl ?_;rintro _ G hle ⟨q1,r1,ok1,rfl,hyes,hno⟩;skip);refine jS (bts 15 255) ?_;refine jT 0 [8,9,10,11,12,13,14] (bts 15 32767) ?_;refine jQ ?_)
    all_goals
     cases ok1 with
     | false=>cases hno rfl
     | true =>
      obtain ⟨w,wb,rfl,hf,hrep⟩:=hyes rfl
      simp only [Option.some.injEq,Prod.mk.injEq] at hf
      obtain ⟨rfl,rfl⟩:=hf
      repeat' (first | (refine jR ?_) | (refine jo ?_;(refine jAt rfl ?_)) | (refine k_gt rfl rfl rfl ?_))
      all_goals refine jZ (vs:=[_,_]) rfl ⟨rfl,rfl,trivial⟩ rfl ⟨hle,rfl,?_⟩
      all_goals exact .inr ⟨_,_,wb,rfl,rfl,hrep⟩
theorem given_some {s k w : List UInt8} {u : V} (hg : givenV s k w = some u) : ∃ ts,schemaOf s = some ts ∧ kindIn ts k = true ∧ valOf ts k w = some u ∧ u.tot ≤ 40000 ∧ u.wf:=by
 obtain ⟨ts,hs,hki,hvo⟩ : ∃ ts,schemaOf s = some ts ∧ kindIn ts k = true ∧ valOf ts k w = some u:=by
  unfold givenV at hg
  cases hs : schemaOf s with
  | none=>rw [hs] at hg;cases hg
  | some ts =>
   rw [hs] at hg
   dsimp only at hg
   by_cases hk : kindIn ts k = true
   ·rw [if_pos hk] at hg;exact ⟨ts,rfl,hk,hg⟩
   ·rw [if_neg hk] at hg;cases hg
 refine ⟨ts,hs,hki,hvo,?_,(valOf_wf hvo).1⟩
 unfold valOf at hvo
 split at hvo
 ·split at hvo
  ·rename_i v hv
   obtain rfl:=Option.some.inj hvo
   have:=rd_tot _ _ _ _ hv
   dsimp only at this;omega
  ·cases hvo
 ·cases hvo
theorem standV_tot {ts : List Ty} (hw : SchW ts) {t : Ty} (ht : t ∈ ts) (hs : t.sort ≠ 69) {d : Fld} (hd : d ∈ t.fields) : (standV ts d).tot ≤ 40000:=by
 obtain ⟨g4,g5⟩:=valOf_rd (standV_ok hw ht hs hd).2.1
 have:=rd_tot _ _ _ _ g4
 dsimp only at this
 simp only [List.length_nil] at this
 omega
theorem stepV_tot {ts : List Ty} (hw : SchW ts) {k : List UInt8} {v : V} (h : OfK ts k v) (hk : kindIn ts k = true) {n : Int} (hn : 0 ≤ n) {k' : List UInt8} {v' : V} (e : stepV ts k v n = some (k',v')) {N : Nat} (hv : v.tot ≤ N) (hN : 40000 ≤ N) : v'.tot ≤ N:=by
 obtain ⟨c,r,rfl⟩:=kind_ne hk
 unfold stepV at e
 dsimp only at e
 split at e
 ·rename_i hc
  split at e
  ·rename_i hlt
   simp only [Option.some.injEq,Prod.mk.injEq] at e
   obtain ⟨rfl,rfl⟩:=e
   have h1:=tot_nth (ks:=v.kids) (i:=n.toNat) oM
   obtain ⟨w,x,t,ks⟩:=v
   rw [nd_tot] at hv
   rw [V.kids] at h1 ⊢
   omega
  ·cases e
 ·split at e
  ·cases e
  ·rename_i t hr
   have ht:=refT_mem hr
   split at e
   ·cases e
   ·rename_i f hf
    have hfm:=List.mem_of_find?_eq_some hf
    split at e
    ·cases e
    ·rename_i h69
     split at e
     ·rename_i h82
      simp only [Option.some.injEq,Prod.mk.injEq] at e
      obtain ⟨rfl,rfl⟩:=e
      rcases ofK_inv_t h hr with ⟨_,fs,rfl,g3,g4,_,_⟩ | ⟨h1,_⟩ | ⟨h1,_⟩
      ·unfold getV
       rw [V.kids]
       cases hto : toldV f (fs.map fldV) with
       | none =>
        have:=standV_tot hw ht h69 hfm
        show (standV ts f).tot ≤ N
        omega
       | some u =>
        obtain ⟨_,p,hp,_,rfl⟩:=toldV_of (hw.ty t ht) hfm (fun p hp=>⟨g3 p hp,g4 p hp⟩) hto
        have h2:=tots_mem (List.mem_map_of_mem (f:=fldV) hp)
        rw [nd_tot] at hv
        simp only [fldV,nd_tot,V.tots] at h2
        show p.2.tot ≤ N
        omega
      ·omega
      ·omega
     ·rename_i h82
      split at e
      ·simp only [Option.some.injEq,Prod.mk.injEq] at e
       obtain ⟨rfl,rfl⟩:=e
       rcases ofK_inv_t h hr with ⟨h1,_⟩ | ⟨h1,_⟩ | ⟨_,_,d,u,rfl,g4,g5⟩
       ·omega
       ·omega
       ·simp only [nd_tot,V.tots] at hv
        show u.tot ≤ N
        omega
      ·cases e
theorem followV_tot {ts : List Ty} (hw : SchW ts) : ∀ {p : List Int} {k : List UInt8} {v : V} {k' : List UInt8} {v' : V},OfK ts k v → kindIn ts k = true → (∀ n ∈ p,0 ≤ n) → followV ts k v p = some (k',v') → ∀ {N : Nat},v.tot ≤ N → 40000 ≤ N → v'.tot ≤ N
 | [],k,v,k',v',h,hk,_,e,N,hv,hN=>by
  simp only [followV,Option.some.injEq,Prod.mk.injEq] at e
  obtain ⟨rfl,rfl⟩:=e
  exact hv
 | n :: p,k,v,k',v',h,hk,hp,e,N,hv,hN=>by
  unfold followV at e
  cases hs : stepV ts k v n with
  | none=>rw [hs] at e;cases e
  | some x =>
   rw [hs] at e
   obtain ⟨k1,v1⟩:=x
   obtain ⟨h1,h2⟩:=stepV_ok hw h hk (hp n (by simp)) hs
   exact followV_tot hw h1 h2 (fun m hm=>hp m (by simp [hm])) e (stepV_tot hw h hk (hp n (by simp)) hs hv hN) hN
theorem followV_drop {ts : List Ty} {p : List Int} {i : Nat} (hi : i < p.length) {k : List UInt8} {v : V} : followV ts k v (p.drop i) = match stepV ts k v (nth p i) with
  | none=>none
  | some (k',v')=>followV ts k' v' (p.drop (i + 1)):=by
 rw [List.drop_eq_getElem_cons hi,nth_eq hi,followV]
 all_goals (cases stepV ts k v p[i] <;> rfl)
theorem repR_seg {ts : List Ty} {v : V} {k : List UInt8} {b : Nat} (h : RepR G ts v k b) : ∃ x y z,Seg G b 0 [S k,x,y,z]:=by
 cases h with
 | leaf w x k tx b h1 h2=>exact ⟨_,_,_,h1⟩
 | lst k b ks bs a c h1 h2 h3 hk=>exact ⟨_,_,_,h1⟩
 | non k b h1=>exact ⟨_,_,_,h1⟩
 | opt k b kb b' cc w h0 h1 h2 h3=>exact ⟨_,_,_,h1⟩
 | recd k b t fs bs a a2 c c2 h0 h1 h2 h3 h4 h5 hk=>exact ⟨_,_,_,h1⟩
 | enm k b tgb t d h0 h1 h2 h3=>exact ⟨_,_,_,h2⟩
 | uni k b tgb kb b' cc t d w hcc h0 h1 h2 h3 h4 hk=>exact ⟨_,_,_,h2⟩
theorem c_walkS {u : Value} {vs : List TyX} (h : SchR G u vs) (hw : SchW (tys vs)) {p : List Int} {pv : Value} (hp : SlV G pv 1 p.length (rows inR p)) (hpn : ∀ n ∈ p,0 ≤ n ∧ n ≤ 999999) (hpl : p.length ≤ 1000) {k : List UInt8} {v : V} {b : Nat} (hr : RepR G (tys vs) v k b) (ho : OfK (tys vs) k v) (hki : kindIn (tys vs) k = true) (htt : v.tot ≤ 1000000) :
  FnS Tryz.prog 33 [u,Pt b 0,pv] G (StepP (tys vs) (followV (tys vs) k v p)):=by
 have hu:=h.sl.one
 obtain ⟨pa,pc,rfl⟩:=hp.sl
 refine jB [(0,_),(1,_),(2,_)] Tryz.func33 Tryz.ntmps33 fun B hok hB hW=>?_
 repeat' (refine jR ?_)
 refine k_loop (ι:=List UInt8 × V × Nat × Nat × Gh) (fun j=>((RepR j.2.2.2.2 (tys vs) j.2.1 j.1 j.2.2.1 ∧ OfK (tys vs) j.1 j.2.1) ∧ (kindIn (tys vs) j.1 = true ∧ j.2.1.tot ≤ 1000000)) ∧ (Gh.le G j.2.2.2.2 ∧ j.2.2.2.1 ≤ p.length) ∧ followV (tys vs) k v p = followV (tys vs) j.1 j.2.1 (p.drop j.2.2.2.1)) (fun j=>[(0,u),(1,Pt j.2.2.1 0),(2,.slice pa p.length pc),(8,I j.2.2.2.1)]) (fun j=>j.2.2.2.2) (fun j=>[]) (fun j=>p.length - j.2.2.2.1) (k,v,b,0,G) ?_ tU rfl sRr (fun j Hj=>?_)
 ·exact ⟨⟨⟨hr,ho⟩,hki,htt⟩,⟨Gh.le.refl _,Nat.zero_le _⟩,rfl⟩
 obtain ⟨k0,v0,b0,i,Gq⟩:=j
 dsimp only at Hj ⊢
 obtain ⟨⟨⟨hr0,ho0⟩,hk0,ht0⟩,⟨hgq,hi0⟩,he⟩:=Hj
 by_cases hi : i < p.length
 ·obtain ⟨xb,xo,xc,e,hs1⟩:=(hp.mono hgq).expl oM
  simp only [Value.slice.injEq] at e
  obtain ⟨rfl,-,rfl⟩:=e
  have hni:=hpn _ (nth_mem hi)
  have hti : nth p i = nth p i:=rfl
  have hstp:=c_stepS (h.mono hgq) hw hr0 ho0 hk0 hni ht0
  rw [followV_drop hi] at he
  cases hsv : stepV (tys vs) k0 v0 (nth p i) with
  | none =>
   have cx_stn:=StepP.no hstp hsv
   rw [hsv] at he
   repeat' (first | (refine jR ?_) | (refine jo ?_;first | refine jV (g_lenL rfl) ?_ | (refine jV (g_iaddrN rfl rfl oM) ?_) | (refine jV (g_ldR1x rfl rfl aS ?_ aS rfl) ?_;(focus ((omega);done))) | (refine c_fns rfl rfl rfl cx_stn rfl ?_;rintro _ G hle ⟨q1,rfl⟩;skip)) | (refine k_tt rfl (by first | rfl | (refine decide_eq_true ?_;(omega))) ?_))
   all_goals refine jZ (vs:=[_,_]) rfl ⟨rfl,rfl,trivial⟩ rfl ⟨hgq.trans hle,rfl,?_⟩
   all_goals exact .inl ⟨he,_,rfl⟩
  | some y =>
   obtain ⟨k1,v1⟩:=y
   have cx_sty:=StepP.yes hstp hsv
   rw [hsv] at he
   obtain ⟨g1,g2⟩:=stepV_ok hw ho0 hk0 hni.1 hsv
   have g3:=stepV_tot hw ho0 hk0 hni.1 hsv ht0 oM
   repeat' (first | refine jM ?_ | (refine jo ?_;first | refine jV (g_lenL rfl) ?_ | (refine jV (g_iaddrN rfl rfl oM) ?_) | (refine jV (g_ldR1x rfl rfl aS ?_ aS rfl) ?_;(focus ((omega);done))) | (refine c_fns rfl rfl rfl cx_sty rfl ?_;rintro _ G hle ⟨b1,rfl,hrep1⟩;skip)) | (refine k_tt rfl (dTt oM) ?_) | (refine k_ff rfl rfl ?_))
   exact k_rd (k1,v1,b1,i + 1,G) ⟨⟨⟨hrep1,g1⟩,g2,g3⟩,⟨hgq.trans hle,by dsimp only;omega⟩,he⟩ (by dsimp only;omega) tU rfl sRr
 ·have hd : p.drop i = []:=List.drop_eq_nil_of_le oM
  rw [hd] at he
  repeat' (first | (refine jR ?_) | (refine jo ?_;(refine jV (g_lenL rfl) ?_)) | (refine k_ff rfl (dFf oM) ?_))
  all_goals refine jZ (vs:=[_,_]) rfl ⟨rfl,rfl,trivial⟩ rfl ⟨hgq,rfl,?_⟩
  all_goals exact .inr ⟨_,_,b0,he,rfl,hr0⟩
theorem c_l4OfX {s k w : List UInt8} {v : V} {ts : List Ty} (h : s.length ≤ 1048576 ∧ k.length ≤ 1048576 ∧ w.length ≤ 1048576) (hs : schemaOf s = some ts) (hki : kindIn ts k = true) (hvo : valOf ts k w = some v) :
  FnS Tryz.prog 31 [S s,S k,S w] G (fun r G'=>∃ a c vs b,r = Tu [.slice a vs.length c,Pt b 0,Bo true] ∧ SchR G' (.slice a vs.length c) vs ∧ tys vs = ts ∧ RepR G' ts v k b):=by
 have hw:=schemaOf_w hs
 have hk : kindS s k = true:=by unfold kindS;rw [hs];exact hki
 obtain ⟨h12,hl⟩:=valOf_rd hvo
 have cx_lka : ∀ G,FnS Tryz.prog 48 [S s,S k] G (fun v G'=>∃ a c vs,v = Tu [.slice a vs.length c,Bo true] ∧ SchR G' (.slice a vs.length c) vs ∧ tys vs = ts):=fun G=>by
  refine (c_l3Kind (G:=G) (s:=s) (k:=k) oM oM).mono ?_
  rintro v G' L' ⟨h1,h2,u,vs,rfl,h4,_,h6⟩
  obtain ⟨_,⟨rfl,h0⟩ | ⟨b,o,cap,rfl,_,_⟩⟩:=h4.sl
  ·exact ⟨h1,h2,none,0,vs,by rw [hk,h0],by rw [h0];exact h4,h6 ts hs hki⟩
  ·exact ⟨h1,h2,_,cap,vs,by rw [hk],h4,h6 ts hs hki⟩
 refine jB [(0,_),(1,_),(2,_)] Tryz.func31 Tryz.ntmps31 fun B hok hB hW=>?_
 repeat' (first | (refine jR ?_) | (refine jo ?_;first | (refine jAf rfl ?_) | refine jV (g_bld rfl rfl) ?_ | (refine c_fns rfl rfl rfl (cx_lka _) rfl ?_;rintro _ G hle ⟨av1,cv1,vs1,rfl,hR1,hT1⟩;skip)) | (refine k_gf rfl rfl rfl ?_) | (refine k_ff rfl (dFf oM) ?_))
 subst hT1
 have cx_rd : FnS Tryz.prog 34 [Ag [.slice av1 vs1.length cv1],S w,S k,I (12 : Nat)] G (fun r G'=>∃ b,r = Tu [Pt b 0,S [],Bo true] ∧ RepR G' (tys vs1) v k b):=by
  refine (readC_all (u:=.slice av1 vs1.length cv1) (vs:=vs1) hw 12 oM G k w hR1 hki oM).mono ?_
  rintro r G' L' ⟨h1,h2,q,rest,ok,rfl,h3,h4⟩
  cases ok with
  | false=>rw [h12] at h4;cases h4 rfl
  | true =>
   obtain ⟨v',b,rfl,h5,h6⟩:=h3 rfl
   rw [h12] at h5
   simp only [Option.some.injEq,Prod.mk.injEq] at h5
   obtain ⟨rfl,rfl⟩:=h5
   exact ⟨h1,h2,b,rfl,h6⟩
 refine jo ?_
 refine c_fns rfl rfl rfl cx_rd rfl ?_
 rintro _ G2 hle2 ⟨b,rfl,hrep⟩
 repeat' (first | (refine jR ?_) | (refine jo ?_;(refine jAt rfl ?_)) | (refine k_gt rfl rfl rfl ?_))
 refine jZ (vs:=[_,_,_]) rfl ⟨rfl,rfl,rfl,trivial⟩ rfl ⟨(Gh.le.trans hle hle2),rfl,?_⟩
 exact ⟨_,_,_,b,rfl,hR1.mono hle2,rfl,hrep⟩
def pathGetV (s k w p : List UInt8) : Option (List UInt8 × List UInt8):=match schemaOf s,givenV s k w,pathOf p with
 | some ts,some u,some q=>(followV ts k u q).map fun x=>(x.1,x.2.out)
 | _,_,_=>none
theorem pgv_none {s k : List UInt8} {o : Option (List Int)} : (match schemaOf s,(none : Option V),o with
 | some ts,some u,some q=>(followV ts k u q).map fun x=>(x.1,x.2.out)
 | _,_,_=>none) = none:=by cases schemaOf s <;> rfl
def pgR (o : Option (List UInt8 × List UInt8)) : Value:=Tu [S ((o.map (·.1)).getD []),S ((o.map (·.2)).getD []),Bo o.isSome]
theorem steps_no {s : List UInt8} (h : s.length ≤ 1048576) (hp : pathOf s = none) : ∀ G,FnS Tryz.prog 32 [S s] G (fun v _=>∃ a c n,v = Tu [.slice a n c,Bo false] ∧ True):=fun G=>by
 refine (c_stepsS (G:=G) h).mono ?_
 rintro v G' L' ⟨h1,h2,a,c,n,rfl,_⟩
 exact ⟨h1,h2,a,c,n,by rw [hp];rfl,trivial⟩
theorem steps_yes {s : List UInt8} {p : List Int} (h : s.length ≤ 1048576) (hp : pathOf s = some p) : ∀ G,FnS Tryz.prog 32 [S s] G (fun v G'=>∃ a c n,v = Tu [.slice a n c,Bo true] ∧ n = p.length ∧ SlV G' (.slice a n c) 1 p.length (rows inR p)):=fun G=>by
 refine (c_stepsS (G:=G) h).mono ?_
 rintro v G' L' ⟨h1,h2,a,c,n,rfl,h3⟩
 exact ⟨h1,h2,a,c,n,by rw [hp];rfl,h3 p hp⟩
theorem pathOf_le {s : List UInt8} {p : List Int} (h : pathOf s = some p) : p.length ≤ 8 ∧ ∀ n ∈ p,0 ≤ n ∧ n ≤ 999999:=by
 unfold pathOf at h
 split at h
 ·simp only [Option.some.injEq] at h;subst h;simp
 ·split at h
  ·rename_i q hq
   split at h
   ·rename_i h8
    simp only [Option.some.injEq] at h;subst h
    exact ⟨h8,(stepsOf_len hq).2⟩
   ·cases h
  ·cases h
theorem c_PathGetS {s k w p : List UInt8} (h1 : s.length ≤ 1048576 ∧ k.length ≤ 1048576 ∧ w.length ≤ 1048576 ∧ p.length ≤ 1048576) : PuG Tryz.prog 22 [S s,S k,S w,S p] G (· = pgR (pathGetV s k w p)):=by
 unfold pathGetV
 cases hg : givenV s k w with
 | none =>
  rw [pgv_none]
  have cx_la0:=fun G=>c_l4Of0 (G:=G) (s:=s) (k:=k) (w:=w) oM hg
  cases hpo : pathOf p with
  | none =>
   have cx_sp:=steps_no h1.2.2.2 hpo
   refine jB (Post:=fun v G' L'=>G' = G ∧ L' = [] ∧ _) [(0,_),(1,_),(2,_),(3,_)] Tryz.func22 Tryz.ntmps22 fun B hok hB hW=>?_
   repeat' (first | (refine jR ?_) | (refine jo ?_;first | (refine jAt rfl ?_) | (refine c_fns rfl rfl rfl (cx_la0 _) rfl ?_;rintro _ G hle ⟨ua,qa,rfl⟩;skip) | (refine c_fns rfl rfl rfl (cx_sp _) rfl ?_;rintro _ G hle ⟨sa,sc,sn,rfl,hsp⟩;skip)) | (refine k_gt rfl rfl rfl ?_) | (refine k_tt rfl rfl ?_))
   all_goals refine Nx.base hok hB ?_
   all_goals refine jY (vs:=[_,_,_]) ?_
   all_goals rfl
  | some q =>
   have cx_sp:=steps_yes h1.2.2.2 hpo
   refine jB (Post:=fun v G' L'=>G' = G ∧ L' = [] ∧ _) [(0,_),(1,_),(2,_),(3,_)] Tryz.func22 Tryz.ntmps22 fun B hok hB hW=>?_
   repeat' (first | (refine jR ?_) | (refine jo ?_;first | (refine jAt rfl ?_) | (refine c_fns rfl rfl rfl (cx_la0 _) rfl ?_;rintro _ G hle ⟨ua,qa,rfl⟩;skip) | (refine c_fns rfl rfl rfl (cx_sp _) rfl ?_;rintro _ G hle ⟨sa,sc,sn,rfl,hsp⟩;skip)) | (refine k_gt rfl rfl rfl ?_) | (refine k_tt rfl rfl ?_))
   all_goals refine Nx.base hok hB ?_
   all_goals refine jY (vs:=[_,_,_]) ?_
   all_goals rfl
 | some u =>
  obtain ⟨ts,hs,hki,hvo,hto,hwf⟩:=given_some hg
  have cx_l4x:=c_l4OfX (G:=G) (s:=s) (k:=k) (w:=w) oM hs hki hvo
  rw [hs]
  cases hpo : pathOf p with
  | none =>
   have cx_sp:=steps_no h1.2.2.2 hpo
   refine jB (Post:=fun v G' L'=>G' = G ∧ L' = [] ∧ _) [(0,_),(1,_),(2,_),(3,_)] Tryz.func22 Tryz.ntmps22 fun B hok hB hW=>?_
   repeat' (first | (refine jR ?_) | (refine jo ?_;first | (refine jAf rfl ?_) | (refine c_fns rfl rfl rfl cx_l4x rfl ?_;rintro _ G hle ⟨av1,cv1,vs1,b1,rfl,hR1,hT1,hrep⟩;skip) | (refine c_fns rfl rfl rfl (cx_sp _) rfl ?_;rintro _ G hle ⟨sa,sc,sn,rfl,hsp⟩;skip)) | (refine k_gf rfl rfl rfl ?_) | (refine k_tt rfl rfl ?_))
   all_goals refine Nx.base hok hB ?_
   all_goals refine jY (vs:=[_,_,_]) ?_
   all_goals rfl
  | some q =>
   have cx_sp:=steps_yes h1.2.2.2 hpo
   obtain ⟨hq8,hqn⟩:=pathOf_le hpo
   have hof:=valOf_of_k hvo
   have hw:=schemaOf_w hs
   dsimp only
   refine jB (Post:=fun v G' L'=>G' = G ∧ L' = [] ∧ _) [(0,_),(1,_),(2,_),(3,_)] Tryz.func22 Tryz.ntmps22 fun B hok hB hW=>?_
   repeat' (first | (refine jR ?_) | (refine jo ?_;first | (refine jAf rfl ?_) | (refine c_fns rfl rfl rfl cx_l4x rfl ?_;rintro _ G hle ⟨av1,cv1,vs1,b1,rfl,hR1,hT1,hrep⟩;(try have hrep:=RepR.mono hle hrep);(try have hR1:=SchR.mono hR1 hle)) | (refine c_fns rfl rfl rfl (cx_sp _) rfl ?_;rintro _ G hle ⟨sa,sc,sn,rfl,hsp⟩;(try have hrep:=RepR.mono hle hrep);(try have hR1:=SchR.mono hR1 hle))) | (refine k_gf rfl rfl rfl ?_) | (refine k_ff rfl rfl ?_))
   obtain ⟨rfl,hsp⟩:=hsp
   subst hT1
   have hwk:=c_walkS hR1 hw hsp hqn oM hrep hof hki oM
   cases hfo : followV (tys vs1) k u q with
   | none =>
    have cx_wan:=StepP.no hwk hfo
    repeat' (first | (refine jR ?_) | (refine jo ?_;(refine c_fns rfl rfl rfl cx_wan rfl ?_;rintro _ G hle ⟨q1,rfl⟩;(try have hrep:=RepR.mono hle hrep);(try have hR1:=SchR.mono hR1 hle))) | (refine k_tt rfl rfl ?_))
    all_goals refine Nx.base hok hB ?_
    all_goals refine jY (vs:=[_,_,_]) ?_
    all_goals rfl
   | some y =>
    obtain ⟨k1,v1⟩:=y
    have cx_way:=StepP.yes hwk hfo
    have g3:=followV_tot hw hof hki (fun n hn=>(hqn n hn).1) hfo (N:=1000000) oM oM
    repeat' (first | (refine jR ?_) | (refine jo ?_;(refine c_fns rfl rfl rfl cx_way rfl ?_;rintro _ G hle ⟨b1,rfl,hrep1⟩;(try have hrep:=RepR.mono hle hrep);(try have hR1:=SchR.mono hR1 hle))) | (refine k_ff rfl rfl ?_))
    have cx_out:=c_outS hw hrep1 oM
    obtain ⟨q1,q2,q3,hsg1⟩:=repR_seg hrep1
    repeat' (first | (refine jR ?_) | (refine k_any (s_any (id:=8) _ (fun _ h=>h) mixed ?_);refine jT 5 [0,1,2,4] (bts 9 23) ?_;(refine jG (bts 9 31) 3 rfl (g_ldS rfl rfl aS rfl rfl) ?_);refine jA 5 rfl ?_;(refine c_rt rfl rfl rfl cx_out rfl ?_);refine jS (bts 9 63) ?_;refine jT 0 [6,7,8] (bts 9 511) ?_;refine jQ ?_))
    all_goals refine Nx.base hok hB ?_
    all_goals refine jY (vs:=[_,_,_]) ?_
    all_goals rfl
abbrev tRdr : TypeId:=83
theorem c_l6Open {v : Value} {l : List UInt8} (h : SlV G v 1 l.length (u8s l)) : FnG Tryz.prog 18 [v] G [] (fun v L'=>∃ b code l',v = Pt b 0 ∧ L' = [rdO b code 0 tRdr] ∧ SlV G code 1 l'.length (u8s l') ∧ l'.length ≤ 2000):=by
 obtain ⟨h1,⟨rfl,h2⟩ | ⟨c,o,cap,rfl,h2,h3⟩⟩:=id h
 ·refine jH [(0,_)] Tryz.func18 Tryz.ntmps18 fun B hB hW=>?_
  repeat' (first | (refine jR ?_) | (refine jo ?_;first | refine jV (g_lenL rfl) ?_ | refine jV (g_bld rfl rfl) ?_ | refine jO fun _=>?_) | (refine k_ff rfl rfl ?_))
  refine k_rr (vs:=[_]) rfl ⟨rfl,trivial⟩ rfl (List.Sublist.refl _) ⟨rfl,_,_,[],rfl,rfl,⟨by simp [u8s],.inl ⟨rfl,rfl⟩⟩,by simp⟩
 ·refine jH [(0,_)] Tryz.func18 Tryz.ntmps18 fun B hB hW=>?_
  repeat' (first | (refine jR ?_) | (refine jo ?_;first | refine jV (g_lenL rfl) ?_ | (refine jV (g_slTo rfl rfl oM) ?_) | refine jV (g_bld rfl rfl) ?_ | refine jO fun _=>?_) | refine k_if rfl (fun _=>?_) (fun _=>?_))
  ·refine k_rr (vs:=[_]) rfl ⟨rfl,trivial⟩ rfl (List.Sublist.refl _) ⟨rfl,_,_,l.take 2000,rfl,rfl,?_,by simp;omega⟩
   have e : (l.take 2000).length = 2000:=by simp;omega
   rw [e]
   refine ⟨by simp [u8s];omega,.inr ⟨c,o,cap,rfl,oM,?_⟩⟩
   have:=h3.take 2000
   simpa [u8s] using this
  ·exact k_rr (vs:=[_]) rfl ⟨rfl,trivial⟩ rfl (List.Sublist.refl _) ⟨rfl,_,_,l,rfl,rfl,h,oM⟩
theorem c_pick {b : Nat} {code : Value} {p n : Int} {l : List UInt8} (hp : 0 ≤ p ∧ p ≤ 1000000000000 ∧ n ≤ 1000000000000) (hs : SlV G code 1 l.length (u8s l)) :
  FnG Tryz.prog 21 [Pt b 0,I n] G [rdO b code p tRdr] (fun v L'=>∃ k,v = I k ∧ L' = [rdO b code (p + 1) tRdr] ∧ 0 ≤ k ∧ (k < n ∨ k = 0)):=by
 obtain ⟨h1,⟨rfl,h2⟩ | ⟨c,o,cap,rfl,h2,h3⟩⟩:=id hs
 ·refine jH [(0,_),(1,_)] Tryz.func21 Tryz.ntmps21 fun B hB hW=>?_
  repeat' (first | (refine run (t:=tb) 400 rfl ?_ ?_;(focus (repeat' (first | exact trivial | apply And.intro | omega)))) | (refine jo ?_;first | refine jAl rfl ?_ | refine jD rfl rfl rfl ?_ | refine jV (g_lenL rfl) ?_ | (refine jAt rfl ?_) | (refine jAf rfl ?_)) | refine k_g rfl rfl (fun _=>?_) (fun _=>?_) | (refine k_tt rfl rfl ?_))
  all_goals exact k_rr (vs:=[_]) rfl ⟨rfl,trivial⟩ rfl (List.Sublist.refl _) ⟨rfl,_,rfl,rfl,oM,oM⟩
 ·have b1:=bt_lt l (p + 1 - 1).toNat
  have b2:=bt_lt l ((p + 1 - 1) % (l.length : Int)).toNat
  have b3:=bt_lt l (((p + 1 - 1) * 7 + 3) % (l.length : Int)).toNat
  have e1:=fun h=>Int.emod_nonneg (p + 1 - 1) (b:=(l.length : Int)) h
  have e2:=fun h=>Int.emod_lt_of_pos (p + 1 - 1) (b:=(l.length : Int)) h
  have e3:=fun h=>Int.emod_nonneg ((p + 1 - 1) * 7 + 3) (b:=(l.length : Int)) h
  have e4:=fun h=>Int.emod_lt_of_pos ((p + 1 - 1) * 7 + 3) (b:=(l.length : Int)) h
  have e5:=fun h=>Int.ediv_nonneg (a:=p + 1 - 1) (b:=(l.length : Int)) h oM
  have e6:=fun h=>Int.ediv_le_self (a:=p + 1 - 1) (l.length : Int) h
  refine jH [(0,_),(1,_)] Tryz.func21 Tryz.ntmps21 fun B hB hW=>?_
  repeat' (first | (refine run (t:=tb) 400 rfl ?_ ?_;(focus (repeat' (first | exact trivial | apply And.intro | omega)))) | (refine jo ?_;first | refine jAl rfl ?_ | (refine jV (g_ldU rfl aS ?_) ?_;(focus ((omega);done))) | refine jD rfl rfl rfl ?_ | refine jV (g_lenL rfl) ?_ | (refine jAt rfl ?_) | (refine jAf rfl ?_) | (refine jV (g_iaddr rfl rfl oM) ?_) | (refine jV (g_xorP rfl rfl oM) ?_)) | refine k_g rfl rfl (fun _=>?_) (fun _=>?_) | (refine k_tt rfl rfl ?_) | refine k_if rfl (fun _=>?_) (fun _=>?_) | (refine k_any (s_any (id:=7) _ (fun _ h=>h) mixed ?_);refine jU 24 [0,1,2,4,5,6,7,15,16,17,19,20,21,22,23,24,33,34,36,37,38,39] (bts 46 1056595214583) ?_ ?_;(focus (repeat' (first | exact trivial | apply And.intro | omega)));(refine jG (bts 46 1056595214591) 3 rfl (g_ld rfl rfl rfl) ?_);(refine jG (bts 46 1056595214847) 8 rfl (g_ld rfl rfl rfl) ?_);(refine jG (bts 46 1056595215359) 9 rfl (g_lenL rfl) ?_);refine jU 20 [10] (bts 46 1056595216383) ?_ ?_;(focus (repeat' (first | exact trivial | apply And.intro | omega)));(refine jG (bts 46 1056595218431) 11 rfl (g_iaddr rfl rfl oM) ?_);((refine jG (bts 46 1056595222527) 12 rfl (g_ldU rfl aS ?_) ?_;(focus ((omega);done))));refine jU 16 [13,14] (bts 46 1056595247103) ?_ ?_;(focus (repeat' (first | exact trivial | apply And.intro | omega)));(refine jG (bts 46 1056595509247) 18 rfl (g_ld rfl rfl rfl) ?_);(refine jG (bts 46 1056629063679) 25 rfl (g_ld rfl rfl rfl) ?_);(refine jG (bts 46 1056696172543) 26 rfl (g_lenL rfl) ?_);refine jU 12 [27] (bts 46 1056830390271) ?_ ?_;(focus (repeat' (first | exact trivial | apply And.intro | omega)));(refine jG (bts 46 1057098825727) 28 rfl (g_iaddr rfl rfl oM) ?_);((refine jG (bts 46 1057635696639) 29 rfl (g_ldU rfl aS ?_) ?_;(focus ((omega);done))));refine jU 6 [30,31,32,35] (bts 46 1099511627775) ?_ ?_;(focus (repeat' (first | exact trivial | apply And.intro | omega)));(refine jG (bts 46 2199023255551) 40 rfl (g_ld rfl rfl rfl) ?_);(refine jG (bts 46 4398046511103) 41 rfl (g_lenL rfl) ?_);refine jU 0 [42,43,44,45] (bts 46 70368744177663) ?_ ?_;(focus (repeat' (first | exact trivial | apply And.intro | omega)));refine jQ ?_))
  all_goals (first | exact k_rr (vs:=[_]) rfl ⟨rfl,trivial⟩ rfl (List.Sublist.refl _) ⟨rfl,_,rfl,rfl,oM,oM⟩ | exact k_rr (vs:=[_]) rfl ⟨rfl,trivial⟩ rfl (List.Sublist.refl _) ⟨rfl,_,rfl,rfl,Int.emod_nonneg _ oM,.inl (Int.emod_lt_of_pos _ oM)⟩ | exact xorI_nn _ _)
end Go.E
namespace Go.E
set_option maxRecDepth 20000
set_option maxHeartbeats 2000000
open Go.Proofs
variable {G : Gh}
theorem c_l91Kind {r : Nat} {code : Value} {p : Int} {l : List UInt8} (hp : 0 ≤ p ∧ p ≤ 900000000000) (hs : SlV G code 1 l.length (u8s l)) :
  FnG Tryz.prog 74 [Pt r 0] G [rdO r code p tRdr] (fun v L'=>∃ x q,v = S x ∧ x.length ≤ 400 ∧ L' = [rdO r code q tRdr] ∧ p ≤ q ∧ q ≤ p + 10):=by
 refine jH [(0,_)] Tryz.func74 Tryz.ntmps74 fun B hB hW=>?_
 repeat' (first | (refine jR ?_) | (refine jo ?_;first | refine jF fun _=>?_ | (refine jV (g_iaddr rfl rfl oM) ?_) | (refine c_ldMS 64 rfl rfl rfl ?_ rfl (fun xs hxs=>?_);(focus ((simp only [List.length_append,List.length_cons,List.length_nil,List.length_take];omega);done))) | (refine c_m1g rfl rfl rfl (c_pick ?_ (by (repeat (assumption));done)) rfl ?_;(focus ((omega);done));rintro _ _ ⟨k,rfl,rfl,hk0,hk1⟩;dsimp only [zA,fA])))
 refine k_loop (ι:=List UInt8 × Int × Int) (fun j=>(0 ≤ j.2.1 ∧ j.2.1 ≤ 3) ∧ ((j.1.length : Nat) : Int) ≤ 64 * (4 - j.2.1) ∧ p ≤ j.2.2 ∧ j.2.2 ≤ p + 5 - j.2.1) (fun j=>[(0,Pt r 0),(3,S j.1),(4,I j.2.1)]) (fun _=>G) (fun j=>[rdO r code j.2.2 tRdr]) (fun j=>j.2.1.toNat) (xs,k,p + 1 + 1) ?_ tU rfl sB (fun j Hj=>?_)
 ·dsimp only;omega
 obtain ⟨s,kk,q⟩:=j
 dsimp only at Hj ⊢
 obtain ⟨hk,hsl,hq0,hq1⟩:=Hj
 by_cases h1 : 1 < kk
 ·repeat' (first | refine jM ?_ | (refine jo ?_;first | refine jF fun _=>?_ | (refine jV (g_iaddr rfl rfl oM) ?_) | (refine c_ldMS 64 rfl rfl rfl ?_ rfl (fun xs hxs=>?_);(focus ((simp only [List.length_append,List.length_cons,List.length_nil,List.length_take];omega);done))) | (refine c_m1g rfl rfl rfl (c_pick ?_ (by (repeat (assumption));done)) rfl ?_;(focus ((omega);done));rintro _ _ ⟨k,rfl,rfl,hk0,hk1⟩;dsimp only [zA,fA])) | (refine k_tt rfl (dTt ‹_›) ?_))
  exact k_rd (xs ++ s,kk - 1,q + 1) (by dsimp only;rw [List.length_append];omega) (by dsimp only;omega) tU rfl sB
 ·repeat' (first | (refine jR ?_) | (refine jo ?_;first | refine jF fun _=>?_ | (refine jV (g_iaddr rfl rfl oM) ?_) | (refine c_ldMS 64 rfl rfl rfl ?_ rfl (fun xs hxs=>?_);(focus ((simp only [List.length_append,List.length_cons,List.length_nil,List.length_take];omega);done))) | (refine c_m1g rfl rfl rfl (c_pick ?_ (by (repeat (assumption));done)) rfl ?_;(focus ((omega);done));rintro _ _ ⟨k,rfl,rfl,hk0,hk1⟩;dsimp only [zA,fA])) | (refine k_ff rfl (dFf ‹_›) ?_) | refine k_if rfl (fun _=>?_) (fun _=>?_))
  all_goals exact k_rr (vs:=[_]) rfl ⟨rfl,trivial⟩ rfl sB ⟨rfl,_,_,rfl,oM,rfl,oM,oM⟩
theorem c_l91Text {r : Nat} {code : Value} {p : Int} {l : List UInt8} (hp : 0 ≤ p ∧ p ≤ 900000000000) (hs : SlV G code 1 l.length (u8s l)) :
  FnG Tryz.prog 80 [Pt r 0] G [rdO r code p tRdr] (fun v L'=>∃ x q,v = S (39 :: (x ++ [39])) ∧ x.length ≤ 64 ∧ L' = [rdO r code q tRdr] ∧ p ≤ q ∧ q ≤ p + 10):=by
 refine jH [(0,_)] Tryz.func80 Tryz.ntmps80 fun B hB hW=>?_
 repeat' (first | (refine jX ?_) | (refine jo ?_;first | refine jF fun _=>?_ | (refine jV (g_iaddr rfl rfl oM) ?_) | (refine c_ldMS 64 rfl rfl rfl ?_ rfl (fun xs hxs=>?_);(focus ((simp only [List.length_append,List.length_cons,List.length_nil,List.length_take];omega);done))) | (refine c_m1g rfl rfl rfl (c_pick ?_ (by (repeat (assumption));done)) rfl ?_;(focus ((omega);done));rintro _ _ ⟨k,rfl,rfl,hk0,hk1⟩;dsimp only [zA,fA])))
 exact k_rr (vs:=[_]) rfl ⟨rfl,trivial⟩ rfl sB ⟨rfl,xs,_,rfl,oM,rfl,oM,oM⟩
theorem c_l91Field {r : Nat} {code : Value} {p tag : Int} {l so nm : List UInt8} (hp : 0 ≤ p ∧ p ≤ 800000000000) (hs : SlV G code 1 l.length (u8s l)) (ht : 0 ≤ tag ∧ tag ≤ 1000000) (hnm : nm.length ≤ 100) :
  FnG Tryz.prog 107 [Pt r 0,S so,I tag,S nm] G [rdO r code p tRdr] (fun v L'=>∃ x q,v = S x ∧ x.length ≤ 1000 ∧ L' = [rdO r code q tRdr] ∧ p ≤ q ∧ q ≤ p + 20):=by
 have hdl:=decI_len (n:=tag) oM
 refine jH [(0,_),(1,_),(2,_),(3,_)] Tryz.func107 Tryz.ntmps107 fun B hB hW=>?_
 repeat' (first | (refine jX ?_) | (refine jo ?_;first | (refine jAt rfl ?_) | (refine jAf rfl ?_) | refine jF fun _=>?_ | (refine jV (g_iaddr rfl rfl oM) ?_) | (refine c_ldMS 64 rfl rfl rfl ?_ rfl (fun xs hxs=>?_);(focus ((simp only [List.length_append,List.length_cons,List.length_nil,List.length_take];omega);done))) | (refine c_rt rfl rfl rfl (c_l6Dec oM) rfl ?_) | (refine c_m1g rfl rfl rfl (c_l91Kind ?_ (by (repeat (assumption));done)) rfl ?_;(focus ((omega);done));rintro _ _ ⟨kd,q1,rfl,hkd,rfl,hq1,hq2⟩;dsimp only [zA,fA]) | (refine c_m1g rfl rfl rfl (c_pick ?_ (by (repeat (assumption));done)) rfl ?_;(focus ((omega);done));rintro _ _ ⟨k,rfl,rfl,hk0,hk1⟩;dsimp only [zA,fA])) | refine k_g rfl rfl (fun _=>?_) (fun _=>?_) | (refine k_ff rfl rfl ?_) | refine k_if rfl (fun _=>?_) (fun _=>?_))
 all_goals exact k_rr (vs:=[_]) rfl ⟨rfl,trivial⟩ rfl sB ⟨rfl,_,_,rfl,by simp only [List.length_append,List.length_cons,List.length_nil];omega,rfl,oM,oM⟩
theorem c_l91Type {r : Nat} {code : Value} {p : Int} {l so nm : List UInt8} (hp : 0 ≤ p ∧ p ≤ 700000000000) (hs : SlV G code 1 l.length (u8s l)) (hso : so.length ≤ 64) (hnm : nm.length ≤ 64) :
  FnG Tryz.prog 72 [Pt r 0,S so,S nm] G [rdO r code p tRdr] (fun v L'=>∃ x q,v = S x ∧ x.length ≤ 6000 ∧ 1 ≤ x.length ∧ L' = [rdO r code q tRdr] ∧ p ≤ q ∧ q ≤ p + 200):=by
 refine jH [(0,_),(1,_),(2,_)] Tryz.func72 Tryz.ntmps72 fun B hB hW=>?_
 repeat' (first | (refine jX ?_) | (refine jo ?_;first | (refine jAt rfl ?_) | (refine jAf rfl ?_) | (refine c_m1g rfl rfl rfl (c_pick ?_ (by (repeat (assumption));done)) rfl ?_;(focus ((omega);done));rintro _ _ ⟨k,rfl,rfl,hk0,hk1⟩;dsimp only [zA,fA])) | refine k_g rfl rfl (fun _=>?_) (fun _=>?_) | (refine k_ff rfl rfl ?_) | refine k_if rfl (fun _=>?_) (fun _=>?_))
 all_goals
  have cx_pk2 : ∀ {p : Int},0 ≤ p ∧ p ≤ 1000000000000 → FnG Tryz.prog 21 [Pt r 0,I 2] G [rdO r code p tRdr] (fun v L'=>L' = [rdO r code (p + 1) tRdr] ∧ (v = I 0 ∨ v = I 1)):=fun {p} hp=>(c_pick (b:=r) (p:=p) (n:=2) ⟨hp.1,hp.2,by decide⟩ hs).mono fun v G' L' ⟨h1,k,h2,h3,h4,h5⟩=>⟨h1,h3,by subst h2;rcases (show k = 0 ∨ k = 1 by omega) with rfl | rfl;exact .inl rfl;exact .inr rfl⟩
  refine k_loop (ι:=List UInt8 × Int × Int × Int × Int) (fun j=>(0 ≤ j.2.2.1 ∧ j.2.2.1 ≤ j.2.2.2.1 ∧ j.2.2.2.1 ≤ 4) ∧ (0 ≤ j.2.1 ∧ j.2.1 ≤ 10 * j.2.2.1) ∧ (1 ≤ j.1.length ∧ ((j.1.length : Nat) : Int) ≤ 200 + 1001 * j.2.2.1) ∧ p ≤ j.2.2.2.2 ∧ j.2.2.2.2 ≤ p + 4 + 30 * j.2.2.1) (fun j=>[(0,Pt r 0),(1,S so),(7,S j.1),(8,I j.2.1),(9,I j.2.2.2.1),(10,I j.2.2.1)]) (fun _=>G) (fun j=>[rdO r code j.2.2.2.2 tRdr]) (fun j=>(j.2.2.2.1 - j.2.2.1).toNat) (so ++ nm ++ [61],0,0,_,_) ?_ tU rfl sRr (fun j Hj=>?_)
  ·dsimp only;simp only [List.length_append,List.length_cons,List.length_nil];omega
  obtain ⟨s,tag,kk,n,q⟩:=j
  dsimp only at Hj ⊢
  obtain ⟨hk,htg,hsl,hq0,hq1⟩:=Hj
  by_cases h1 : kk < n
  ·repeat' (first | (refine jX ?_) | (refine jo ?_;first | refine jF fun _=>?_ | refine jV (g_bsB rfl rfl (by (repeat (first | exact BL.nil | apply BL.cons));done)) ?_ | (refine c_m1g rfl rfl rfl (cx_pk2 oM) rfl ?_;rintro _ _ ⟨rfl,rfl | rfl⟩ <;> dsimp only [zA,fA]) | (refine c_m1g rfl rfl rfl (c_pick ?_ (by (repeat (assumption));done)) rfl ?_;(focus ((omega);done));rintro _ _ ⟨k,rfl,rfl,hk0,hk1⟩;dsimp only [zA,fA]) | (refine c_m1g rfl rfl rfl (c_l91Field ?_ (by (repeat (assumption));done) ?_ ?_) rfl ?_;(focus ((omega);done));(focus ((omega);done));(focus ((simp;done);done));rintro _ _ ⟨fd,q1,rfl,hfd,rfl,hq1,hq2⟩;dsimp only [zA,fA])) | (refine k_tt rfl (dTt ‹_›) ?_) | refine k_if rfl (fun _=>?_) (fun _=>?_))
   all_goals (refine k_rd (_,_,kk + 1,n,_) ?_ ?_ tU rfl sB)
   all_goals (first | (dsimp only;simp only [List.length_append,List.length_cons,List.length_nil];omega) | (dsimp only;omega))
  ·repeat' (first | (refine jX ?_) | (refine k_ff rfl (dFf ‹_›) ?_))
   exact k_rr (vs:=[_]) rfl ⟨rfl,trivial⟩ rfl sRr ⟨rfl,_,_,rfl,by simp only [List.length_append,List.length_cons,List.length_nil];omega,by simp only [List.length_append,List.length_cons,List.length_nil];omega,rfl,oM,oM⟩
def DrawC (u : Value) (vs : List TyX) (k : List UInt8) (deep cp : Int) (ct : Nat) : Prop:=∀ (G : Gh) (r : Nat) (code : Value) (p : Int) (l : List UInt8),SchR G u vs → SlV G code 1 l.length (u8s l) → 0 ≤ p ∧ p + cp ≤ 600000000000 →
 FnM Tryz.prog 49 [Pt r 0,u,S k,I deep] G [rdO r code p tRdr] (fun v G' L'=>∃ w b q,v = Pt b 0 ∧ RepR G' (tys vs) w k b ∧ w.tot ≤ ct ∧ 1 ≤ w.out.length ∧ L' = [rdO r code q tRdr] ∧ p ≤ q ∧ q ≤ p + cp)
theorem DrawC.le {u : Value} {vs : List TyX} {k : List UInt8} {deep cp cp' : Int} {ct ct' : Nat} (h : DrawC u vs k deep cp ct) (h1 : cp ≤ cp') (h2 : ct ≤ ct') : DrawC u vs k deep cp' ct':=fun G r code p l h3 h4 h5 =>
 (h G r code p l h3 h4 ⟨h5.1,oM⟩).mono fun _ _ _ ⟨h6,w,b,q,h7,h8,h9,h10,h11,h12,h13⟩=>⟨h6,w,b,q,h7,h8,oM,h10,h11,h12,oM⟩
theorem dv_flag {u : Value} {vs : List TyX} {deep : Int} : DrawC u vs [102] deep 15 200:=by
 intro G r code p l hR hs hp
 have cx_pk2 : ∀ {p : Int},0 ≤ p ∧ p ≤ 1000000000000 → FnG Tryz.prog 21 [Pt r 0,I 2] G [rdO r code p tRdr] (fun v L'=>L' = [rdO r code (p + 1) tRdr] ∧ (v = I 0 ∨ v = I 1)):=fun {p} hp=>(c_pick (b:=r) (p:=p) (n:=2) ⟨hp.1,hp.2,by decide⟩ hs).mono fun v G' L' ⟨h1,k,h2,h3,h4,h5⟩=>⟨h1,h3,by subst h2;rcases (show k = 0 ∨ k = 1 by omega) with rfl | rfl;exact .inl rfl;exact .inr rfl⟩
 refine m_enter [(0,_),(1,_),(2,_),(3,_)] Tryz.func49 kR Tryz.ntmps49 rfl rfl tU fun B hB hW=>?_
 repeat' (first | (refine jX ?_) | (refine jo ?_;first | refine jV (g_bld rfl rfl) ?_ | refine jO fun _=>?_ | refine jF fun _=>?_ | (refine jV (g_iaddr rfl rfl oM) ?_) | refine jAl rfl ?_ | refine jD rfl rfl rfl ?_ | (refine c_m1g rfl rfl rfl (cx_pk2 oM) rfl ?_;rintro _ _ ⟨rfl,rfl | rfl⟩ <;> dsimp only [zA,fA])) | (refine k_tt rfl rfl ?_) | (refine k_ff rfl rfl ?_))
 all_goals rename_i y _
 all_goals refine Nx.sealC (b:=y) fun G2 hG2 hsy=>?_
 ·exact k_rr (vs:=[_]) rfl ⟨rfl,trivial⟩ rfl sB ⟨hG2,.nd 102 [121,101,115] 0 [],y,_,rfl,.leaf 102 _ _ _ y hsy (.inr (.inr ⟨rfl,rfl,rfl,.inl rfl⟩)),by simp [nd_tot,V.tots],by rw [V.out];simp [outW],rfl,oM,oM⟩
 ·exact k_rr (vs:=[_]) rfl ⟨rfl,trivial⟩ rfl sB ⟨hG2,.nd 102 [110,111] 0 [],y,_,rfl,.leaf 102 _ _ _ y hsy (.inr (.inr ⟨rfl,rfl,rfl,.inr rfl⟩)),by simp [nd_tot,V.tots],by rw [V.out];simp [outW],rfl,oM,oM⟩
abbrev tPtr4 : TypeId:=63
theorem dec_dg {m : Int} (h : 0 ≤ m) : ∀ c ∈ decI m,isDg c = true:=(digF_decI m.toNat (Nat.le_refl _) h).2
theorem dv_num {u : Value} {vs : List TyX} {deep : Int} : DrawC u vs [110] deep 15 200:=by
 intro G r code p l hR hs hp
 refine m_enter [(0,_),(1,_),(2,_),(3,_)] Tryz.func49 kR Tryz.ntmps49 rfl rfl tU fun B hB hW=>?_
 repeat' (first | (refine jX ?_) | (refine jo ?_;first | refine jV (g_bld rfl rfl) ?_ | refine jO fun _=>?_ | refine jF fun _=>?_ | (refine jV (g_iaddr rfl rfl oM) ?_) | (refine c_ldMI 999999 rfl rfl rfl ?_ ?_ (fun iz hz0 hz1=>?_);(focus ((simp only [List.length_append,List.length_cons,List.length_nil,List.length_take];omega);done));(focus ((repeat' (first | exact intsIn_nil | (refine intsIn_cons ⟨oM,oM⟩ ?_)));done))) | refine jD rfl rfl rfl ?_ | (refine c_m1g rfl rfl rfl (c_pick ?_ (by (repeat (assumption));done)) rfl ?_;(focus ((omega);done));rintro _ _ ⟨k,rfl,rfl,hk0,hk1⟩;dsimp only [zA,fA]) | (refine c_rt rfl rfl rfl (c_l6Dec oM) rfl ?_)) | (refine k_tt rfl rfl ?_))
 rename_i y _ _ _ _
 have hdl:=decI_len (n:=iz) oM
 have hdp:=decI_pos iz
 refine Nx.sealC (b:=y) fun G2 hG2 hsy=>?_
 exact k_rr (vs:=[_]) rfl ⟨rfl,trivial⟩ rfl sB ⟨hG2,.nd 110 (decI iz) 0 [],y,_,rfl,.leaf 110 _ _ _ y hsy (.inl ⟨rfl,rfl,rfl,dec_dg hz0⟩),by rw [nd_tot,V.tots];omega,by rw [V.out];exact hdp,rfl,oM,oM⟩
theorem dv_txt {u : Value} {vs : List TyX} {deep : Int} : DrawC u vs [116] deep 15 200:=by
 intro G r code p l hR hs hp
 refine m_enter [(0,_),(1,_),(2,_),(3,_)] Tryz.func49 kR Tryz.ntmps49 rfl rfl tU fun B hB hW=>?_
 repeat' (first | (refine jX ?_) | (refine jo ?_;first | refine jV (g_bld rfl rfl) ?_ | refine jO fun _=>?_ | refine jD rfl rfl rfl ?_ | (refine c_m1g rfl rfl rfl (c_l91Text ?_ (by (repeat (assumption));done)) rfl ?_;(focus ((omega);done));rintro _ _ ⟨tx,q1,rfl,htx,rfl,hq1,hq2⟩;dsimp only [zA,fA])) | (refine k_tt rfl rfl ?_) | (refine k_ff rfl rfl ?_))
 rename_i y
 refine Nx.sealC (b:=y) fun G2 hG2 hsy=>?_
 exact k_rr (vs:=[_]) rfl ⟨rfl,trivial⟩ rfl sRr ⟨hG2,.nd 116 tx 0 [],y,_,rfl,.leaf 116 _ _ _ y hsy (.inr (.inl ⟨rfl,rfl,rfl⟩)),by rw [nd_tot,V.tots];omega,by rw [V.out];simp [outW],rfl,oM,oM⟩
theorem reps_snocR {ts : List Ty} {k : List UInt8} {ks : List V} {bs : List Nat} {w : V} {b : Nat} (hl : bs.length = ks.length) (h : ∀ i,i < ks.length → RepR G ts (nth ks i) k (nth bs i)) (hw : RepR G ts w k b) : ∀ i,i < (ks ++ [w]).length → RepR G ts (nth (ks ++ [w]) i) k (nth (bs ++ [b]) i):=fun i hi=>by
 by_cases h1 : i < ks.length
 ·have e1 : nth (ks ++ [w]) i = nth ks i:=by rw [nth_eq hi,nth_eq h1,List.getElem_append_left h1]
  have e2 : nth (bs ++ [b]) i = nth bs i:=by rw [nth_eq (by simp;omega),nth_eq oM,List.getElem_append_left oM]
  rw [e1,e2];exact h i h1
 ·have h2 : i = ks.length:=by simp at hi;omega
  have e1 : nth (ks ++ [w]) i = w:=by rw [nth_eq hi];simp [h2]
  have e2 : nth (bs ++ [b]) i = b:=by rw [nth_eq (by simp;omega)];simp [h2,hl]
  rw [e1,e2];exact hw
theorem dv_list {u : Value} {vs : List TyX} {kd : List UInt8} {deep cp : Int} {ct : Nat} (hcp : 0 ≤ cp ∧ cp ≤ 100000000) (hct : ct ≤ 100000000) (hD : 0 < deep → DrawC u vs kd (deep - 1) cp ct) (hu : u.oneCell' = true) (hkl : kd.length ≤ 1000) (hd : -1000 ≤ deep ∧ deep ≤ 1000) : DrawC u vs (91 :: kd) deep (3 * cp + 10) (3 * ct + 200):=by
 intro G r code p l hR hs hp
 have hkd0 : bt (91 :: kd) (Int.toNat 0) = 91:=bt_zero 91 kd
 have hkl2 : (91 :: kd).length = kd.length + 1:=rfl
 refine m_enter [(0,_),(1,_),(2,_),(3,_)] Tryz.func49 kR Tryz.ntmps49 rfl rfl tU fun B hB hW=>?_
 repeat' (first | refine jM ?_ | (refine jo ?_;first | refine jV (g_bld rfl rfl) ?_ | refine jO fun _=>?_ | (refine c_m1g rfl rfl rfl (c_pick ?_ (by (repeat (assumption));done)) rfl ?_;(focus ((omega);done));rintro _ _ ⟨k,rfl,rfl,hk0,hk1⟩;dsimp only [zA,fA])) | (refine k_tt rfl rfl ?_) | (refine k_ff rfl rfl ?_))
 rename_i y
 refine Nx.addNil tPtr4 1 ?_
 refine k_loop (ι:=List V × List Nat × Option Addr × Nat × Int × Int × Gh) (fun j=>((j.2.1.length = j.1.length ∧ ∀ i,i < j.1.length → RepR j.2.2.2.2.2.2 (tys vs) (nth j.1 i) kd (nth j.2.1 i)) ∧ Gh.le G j.2.2.2.2.2.2) ∧ (0 ≤ j.2.2.2.2.1 ∧ ((j.1.length : Nat) : Int) + j.2.2.2.2.1 ≤ 3) ∧ V.tots j.1 ≤ ct * j.1.length ∧ p ≤ j.2.2.2.2.2.1 ∧ j.2.2.2.2.2.1 ≤ p + 1 + cp * ((j.1.length : Nat) : Int)) (fun j=>[(0,Pt r 0),(1,u),(2,S (91 :: kd)),(3,I deep),(9,Pt y 0),(10,I j.2.2.2.2.1)]) (fun j=>j.2.2.2.2.2.2) (fun j=>[.acc (.slice j.2.2.1 j.1.length j.2.2.2.1) tPtr4 1 j.1.length (rows ptR j.2.1),rdO r code j.2.2.2.2.2.1 tRdr,.blk y (.cells (List.toArray [S (91 :: kd),S [],nilS,.slice j.2.2.1 j.1.length j.2.2.2.1]) tLv (0,0))]) (fun j=>j.2.2.2.2.1.toNat) ([],[],none,0,k,p + 1,G) ?_ tU rfl sRr (fun j Hj=>?_)
 ·refine ⟨⟨⟨rfl,fun i hi=>absurd hi (by simp)⟩,Gh.le.refl _⟩,?_,?_,?_,?_⟩
  ·dsimp only;simp only [List.length_nil];omega
  ·simp [V.tots]
  ·dsimp only;omega
  ·dsimp only;simp
 obtain ⟨ks,bs,a,c,kk,q,Gq⟩:=j
 dsimp only at Hj ⊢
 obtain ⟨⟨⟨hbl,hreps⟩,hgq⟩,hk,htt,hq0,hq1⟩:=Hj
 have hcl : cp * ((ks.length : Nat) : Int) ≤ cp * 3:=Int.mul_le_mul_of_nonneg_left oM hcp.1
 have hcl0 : 0 ≤ cp * ((ks.length : Nat) : Int):=Int.mul_nonneg hcp.1 oM
 have htl : ct * ks.length ≤ ct * 3:=Nat.mul_le_mul_left _ oM
 by_cases hgo : 0 < kk ∧ 0 < deep
 ·obtain ⟨hk0,hd0⟩:=hgo
  have hcl3 : cp * ((ks.length : Nat) : Int) + cp ≤ cp * 3:=by
   have:=Int.mul_le_mul_of_nonneg_left (show ((ks.length : Nat) : Int) + 1 ≤ 3 by omega) hcp.1
   rwa [Int.mul_add,Int.mul_one] at this
  have cx_dv:=fun {p : Int} (hp : 0 ≤ p ∧ p + cp ≤ 600000000000)=>hD hd0 Gq r code p l (hR.mono hgq) (hs.mono hgq) hp
  repeat' (first | (refine jR ?_) | (refine jo ?_;(refine jAt rfl ?_)) | (refine k_gt rfl rfl (dTt ‹_›) ?_) | (refine k_tt rfl (dTt ‹_›) ?_))
  (refine k_any (s_any (id:=16) [] (fun _ h=>absurd h (by simp)) mixed ?_);refine jW 7 [0,1,2,3,5,6,7,8,9,10] (bts 17 2031) ?_;refine x_all [4,11] kR dC ⟨?_,?_,trivial⟩;(focus (refine x_opg rfl rfl ?_;(refine jAl rfl ?_);refine jK (bts 17 2047) ?_;refine jA 11 rfl ?_;((refine c_m1s rfl rfl rfl (cx_dv ?_) rfl ?_;(focus ((omega);done));rintro _ G1 _ hle ⟨w1,b1,q1,rfl,hrep,htot,hone,rfl,hq1,hq2⟩;dsimp only [zA,fA];skip));refine jK (bts 17 4095) ?_;refine jA 12 rfl ?_;(refine jF fun _=>?_);refine jK (bts 17 8191) ?_;refine jA 13 rfl ?_;((refine c_apX rfl rfl rfl rfl rfl rfl rfl rfl rfl ?_ fun _ _=>?_;(focus ((omega);done))));refine jK (bts 17 16383) ?_;refine jW 1 [14,15] (bts 17 65535) ?_;refine jA 16 rfl ?_;(refine jD rfl rfl rfl ?_);refine jK (bts 17 131071) ?_;refine jQ ?_));rotate_left 1;(focus (refine x_opg rfl rfl ?_;((refine c_m1s rfl rfl rfl (cx_dv ?_) rfl ?_;(focus ((omega);done));rintro _ G1 _ hle ⟨w1,b1,q1,rfl,hrep,htot,hone,rfl,hq1,hq2⟩;dsimp only [zA,fA];skip));refine jK (bts 17 4079) ?_;refine x_all [4,12] kR dC ⟨?_,?_,trivial⟩;(focus (refine x_opg rfl rfl ?_;(refine jAl rfl ?_);refine jK (bts 17 4095) ?_;refine jA 12 rfl ?_;(refine jF fun _=>?_);refine jK (bts 17 8191) ?_;refine jA 13 rfl ?_;((refine c_apX rfl rfl rfl rfl rfl rfl rfl rfl rfl ?_ fun _ _=>?_;(focus ((omega);done))));refine jK (bts 17 16383) ?_;refine jW 1 [14,15] (bts 17 65535) ?_;refine jA 16 rfl ?_;(refine jD rfl rfl rfl ?_);refine jK (bts 17 131071) ?_;refine jQ ?_));rotate_left 1;(focus (refine x_opg rfl rfl ?_;(refine jF fun _=>?_);refine jK (bts 17 8175) ?_;refine jA 4 rfl ?_;(refine jAl rfl ?_);refine jK (bts 17 8191) ?_;refine jA 13 rfl ?_;((refine c_apX rfl rfl rfl rfl rfl rfl rfl rfl rfl ?_ fun _ _=>?_;(focus ((omega);done))));refine jK (bts 17 16383) ?_;refine jW 1 [14,15] (bts 17 65535) ?_;refine jA 16 rfl ?_;(refine jD rfl rfl rfl ?_);refine jK (bts 17 131071) ?_;refine jQ ?_));rotate_left 1));rotate_left 2)
  all_goals repeat' (refine jM ?_)
  all_goals
   rename_i _ y1 yc
   have hl1 : (ks ++ [w1]).length = ks.length + 1:=by simp
   have hms : ct * (ks.length + 1) = ct * ks.length + ct:=Nat.mul_succ _ _
   have hts : V.tots (ks ++ [w1]) = V.tots ks + w1.tot:=by simp [tots_app,V.tots]
   rw [show rows ptR bs ++ [Pt b1 0] = rows ptR (bs ++ [b1]) from (rows_snoc ptR bs b1).symm]
   exact k_rd (ks ++ [w1],bs ++ [b1],some ⟨y1,0,none⟩,yc,kk - 1,q1,G1) ⟨⟨⟨by simp [hbl],reps_snocR hbl (fun i hi=>(hreps i hi).mono hle) hrep⟩,hgq.trans hle⟩,by dsimp only;rw [hl1];omega,by dsimp only;rw [hl1,hms,hts];omega,by dsimp only;omega,by dsimp only;rw [hl1,Int.natCast_succ,Int.mul_add,Int.mul_one];omega⟩ (by dsimp only;omega) tU rfl (by rw [hl1];repeat (first | exact List.Sublist.refl _ | apply List.Sublist.cons_cons | apply List.Sublist.cons))
 ·have : kk = 0 ∨ deep ≤ 0:=oM
  repeat' (first | (refine jR ?_) | (refine jo ?_;first | (refine jAt rfl ?_) | (refine jAf rfl ?_)) | refine k_g rfl rfl (fun _=>?_) (fun _=>?_) | (refine k_ff rfl (by first | rfl | (refine decide_eq_false ?_;(omega))) ?_))
  all_goals
   refine Nx.sealS (v:=.slice a ks.length c) fun G2 hG2 hsl=>?_
   refine Nx.sealC (b:=y) fun G3 hG3 hsg=>?_
   exact k_rr (vs:=[_]) rfl ⟨rfl,trivial⟩ rfl sRr ⟨hgq.trans (hG2.trans hG3),.nd 91 [] 0 ks,y,q,rfl,.lst kd y ks bs a c hsg (hsl.mono hG3) hbl (fun i hi=>(hreps i hi).mono (hG2.trans hG3)),by rw [nd_tot];simp only [List.length_nil];omega,by rw [V.out];simp [outW],rfl,oM,oM⟩
theorem dv_opt {u : Value} {vs : List TyX} {kd : List UInt8} {deep cp : Int} {ct : Nat} (hcp : 0 ≤ cp ∧ cp ≤ 100000000) (hct : ct ≤ 100000000) (hD : 0 < deep → DrawC u vs kd (deep - 1) cp ct) (hu : u.oneCell' = true) (hkl : kd.length ≤ 1000) (hd : -1000 ≤ deep ∧ deep ≤ 1000) : DrawC u vs (63 :: kd) deep (cp + 10) (ct + 200):=by
 intro G r code p l hR hs hp
 have hkd0 : bt (63 :: kd) (Int.toNat 0) = 63:=bt_zero 63 kd
 have hkl2 : (63 :: kd).length = kd.length + 1:=rfl
 by_cases h0 : 0 < deep
 ·have cx_dv:=fun {p : Int} (hp : 0 ≤ p ∧ p + cp ≤ 600000000000)=>hD h0 G r code p l hR hs hp
  refine m_enter [(0,_),(1,_),(2,_),(3,_)] Tryz.func49 kR Tryz.ntmps49 rfl rfl tU fun B hB hW=>?_
  repeat' (first | refine jM ?_ | (refine jo ?_;first | refine jV (g_bld rfl rfl) ?_ | refine jO fun _=>?_ | (refine jAt rfl ?_) | (refine c_m1g rfl rfl rfl (c_pick ?_ (by (repeat (assumption));done)) rfl ?_;(focus ((omega);done));rintro _ _ ⟨k,rfl,rfl,hk0,hk1⟩;dsimp only [zA,fA])) | (refine k_gt rfl rfl (dTt ‹_›) ?_) | (refine k_tt rfl rfl ?_) | (refine k_ff rfl rfl ?_) | refine k_if rfl (fun _=>?_) (fun _=>?_))
  ·refine Nx.addNil tPtr4 1 ?_
   (refine k_any (s_any (id:=20) [] (fun _ h=>absurd h (by simp)) mixed ?_);refine jW 7 [0,1,2,3,5,6,7,8,9,10] (bts 17 2031) ?_;refine x_all [4,11] kR dC ⟨?_,?_,trivial⟩;(focus (refine x_opg rfl rfl ?_;(refine jAl rfl ?_);refine jK (bts 17 2047) ?_;refine jA 11 rfl ?_;((refine c_m1s rfl rfl rfl (cx_dv ?_) rfl ?_;(focus ((omega);done));rintro _ G1 _ hle ⟨w1,b1,q1,rfl,hrep,htot,hone,rfl,hq1,hq2⟩;dsimp only [zA,fA];skip));refine jK (bts 17 4095) ?_;refine jA 12 rfl ?_;(refine jF fun _=>?_);refine jK (bts 17 8191) ?_;refine jA 13 rfl ?_;((refine c_apX rfl rfl rfl rfl rfl rfl rfl rfl rfl ?_ fun _ _=>?_;(focus ((omega);done))));refine jK (bts 17 16383) ?_;refine jW 1 [14,15] (bts 17 65535) ?_;refine jA 16 rfl ?_;(refine jD rfl rfl rfl ?_);refine jK (bts 17 131071) ?_;refine jQ ?_));rotate_left 1;(focus (refine x_opg rfl rfl ?_;((refine c_m1s rfl rfl rfl (cx_dv ?_) rfl ?_;(focus ((omega);done));rintro _ G1 _ hle ⟨w1,b1,q1,rfl,hrep,htot,hone,rfl,hq1,hq2⟩;dsimp only [zA,fA];skip));refine jK (bts 17 4079) ?_;refine x_all [4,12] kR dC ⟨?_,?_,trivial⟩;(focus (refine x_opg rfl rfl ?_;(refine jAl rfl ?_);refine jK (bts 17 4095) ?_;refine jA 12 rfl ?_;(refine jF fun _=>?_);refine jK (bts 17 8191) ?_;refine jA 13 rfl ?_;((refine c_apX rfl rfl rfl rfl rfl rfl rfl rfl rfl ?_ fun _ _=>?_;(focus ((omega);done))));refine jK (bts 17 16383) ?_;refine jW 1 [14,15] (bts 17 65535) ?_;refine jA 16 rfl ?_;(refine jD rfl rfl rfl ?_);refine jK (bts 17 131071) ?_;refine jQ ?_));rotate_left 1;(focus (refine x_opg rfl rfl ?_;(refine jF fun _=>?_);refine jK (bts 17 8175) ?_;refine jA 4 rfl ?_;(refine jAl rfl ?_);refine jK (bts 17 8191) ?_;refine jA 13 rfl ?_;((refine c_apX rfl rfl rfl rfl rfl rfl rfl rfl rfl ?_ fun _ _=>?_;(focus ((omega);done))));refine jK (bts 17 16383) ?_;refine jW 1 [14,15] (bts 17 65535) ?_;refine jA 16 rfl ?_;(refine jD rfl rfl rfl ?_);refine jK (bts 17 131071) ?_;refine jQ ?_));rotate_left 1));rotate_left 2)
   all_goals repeat' (refine jR ?_)
   all_goals
    rename_i y _ _ y1 yc
    refine Nx.sealS (v:=.slice (some ⟨y1,0,none⟩) (0 + 1) yc) fun G2 hG2 hsl=>?_
    refine Nx.sealC (b:=y) fun G3 hG3 hsg=>?_
    obtain ⟨_,⟨h,_⟩ | ⟨b2,o2,c2,e,hc2,hs2⟩⟩:=hsl
    ·cases h
    simp only [Value.slice.injEq,Option.some.injEq,Addr.mk.injEq,and_true] at e
    obtain ⟨⟨rfl,rfl⟩,-,rfl⟩:=e
    exact k_rr (vs:=[_]) rfl ⟨rfl,trivial⟩ rfl sB ⟨hle.trans (hG2.trans hG3),.nd 63 [] 0 [w1],y,q1,rfl,.opt kd y y1 b1 yc w1 oM hsg (hs2.mono hG3) (hrep.mono (hG2.trans hG3)),by simp only [nd_tot,V.tots,List.length_nil];omega,by rw [V.out];simp [outW],rfl,oM,oM⟩
  ·rename_i y _
   refine Nx.sealC (b:=y) fun G2 hG2 hsy=>?_
   exact k_rr (vs:=[_]) rfl ⟨rfl,trivial⟩ rfl sRr ⟨hG2,.nd 63 [] 0 [],y,_,rfl,.non kd y hsy,by simp [nd_tot,V.tots],by rw [V.out];simp [outW],rfl,oM,oM⟩
 ·refine m_enter [(0,_),(1,_),(2,_),(3,_)] Tryz.func49 kR Tryz.ntmps49 rfl rfl tU fun B hB hW=>?_
  repeat' (first | refine jM ?_ | (refine jo ?_;first | refine jV (g_bld rfl rfl) ?_ | refine jO fun _=>?_ | (refine jAf rfl ?_)) | (refine k_gf rfl rfl (dFf ‹_›) ?_) | (refine k_tt rfl rfl ?_) | (refine k_ff rfl rfl ?_))
  rename_i y
  refine Nx.sealC (b:=y) fun G2 hG2 hsy=>?_
  exact k_rr (vs:=[_]) rfl ⟨rfl,trivial⟩ rfl sRr ⟨hG2,.nd 63 [] 0 [],y,_,rfl,.non kd y hsy,by simp [nd_tot,V.tots],by rw [V.out];simp [outW],rfl,oM,oM⟩
abbrev tTyG : TypeId:=131
abbrev tPtr5 : TypeId:=63
abbrev tInt5 : TypeId:=3
def DrawT (u : Value) (vs : List TyX) (k : List UInt8) (deep cp : Int) (ct : Nat) : Prop:=∀ (G : Gh) (r : Nat) (code : Value) (p : Int) (l : List UInt8),SchR G u vs → SlV G code 1 l.length (u8s l) → 0 ≤ p ∧ p + cp ≤ 600000000000 →
 FnM Tryz.prog 81 [Pt r 0,u,S k,I deep] G [rdO r code p tRdr] (fun v G' L'=>∃ w b q,v = Pt b 0 ∧ RepR G' (tys vs) w k b ∧ w.tot ≤ ct ∧ 1 ≤ w.out.length ∧ L' = [rdO r code q tRdr] ∧ p ≤ q ∧ q ≤ p + cp)
theorem dv_typed {u : Value} {vs : List TyX} {k : List UInt8} {deep cp : Int} {ct : Nat} (hD : DrawT u vs (64 :: k) deep cp ct) (hkl : k.length ≤ 1000) : DrawC u vs (64 :: k) deep cp ct:=by
 intro G r code p l hR hs hp
 have hkd0 : bt (64 :: k) (Int.toNat 0) = 64:=bt_zero 64 k
 have hkl2 : (64 :: k).length = k.length + 1:=rfl
 have cx_dt:=fun {p : Int} (hp : 0 ≤ p ∧ p + cp ≤ 600000000000)=>hD G r code p l hR hs hp
 refine m_enter [(0,_),(1,_),(2,_),(3,_)] Tryz.func49 kR Tryz.ntmps49 rfl rfl tU fun B hB hW=>?_
 repeat' (first | refine jM ?_ | (refine jo ?_;first | refine jV (g_bld rfl rfl) ?_ | refine jO fun _=>?_ | (refine c_m1s rfl rfl rfl (cx_dt ‹_›) rfl ?_;rintro _ G1 _ hle ⟨w1,b1,q1,rfl,hrep,htot,hone,rfl,hq1,hq2⟩;dsimp only [zA,fA];skip)) | (refine k_ff rfl rfl ?_))
 exact k_rr (vs:=[_]) rfl ⟨rfl,trivial⟩ rfl sB ⟨hle,w1,b1,q1,rfl,hrep,htot,hone,rfl,hq1,hq2⟩
section
variable {u : Value} {vs : List TyX} {kd nm : List UInt8} {fs : List Fld} {a : Option Addr} {ca : Nat} {deep cp : Int} {ct : Nat}
theorem dt_enm (hr : refV vs kd = some ((a,ca),⟨69,nm,fs⟩)) (hvl : vs.length ≤ 1000000) (hk : kOk kd = true) (hkl : kd.length ≤ 1000) (h0 : 0 < fs.length) (h8 : fs.length ≤ 8) (hw : SchW (tys vs)) : DrawT u vs kd deep 10 300:=by
 intro G r code p l hR hs hp
 have href:=refV_ty vs kd
 rw [hr] at href
 have cx_rf:=c_ref (G:=G) (k:=kd) hR hvl hk oM
 rw [hr] at cx_rf
 have htm:=refT_mem href.symm
 obtain ⟨bf,of,cf,ef,hsf⟩:=(hR.fl _ (refV_mem hr)).expl h0
 simp only [slX,Value.slice.injEq] at ef
 obtain ⟨rfl,-,rfl⟩:=ef
 dsimp only at hsf
 have cx_rf : PuG Tryz.prog 98 [u,S kd] G (· = Tu [Ag [U8 (69 : Nat),S nm,.slice (some ⟨bf,of,none⟩) fs.length ca],Bo true]):=cx_rf
 refine m_enter [(0,_),(1,_),(2,_),(3,_)] Tryz.func81 kR Tryz.ntmps81 rfl rfl tU fun B hB hW=>?_
 repeat' (first | (refine jR ?_) | (refine jo ?_;first | refine jL fun _=>?_ | refine jC rfl rfl rfl ?_ | refine jAl rfl ?_ | refine jF fun _=>?_ | refine jV (g_bsB rfl rfl (by (repeat (first | exact BL.nil | apply BL.lit rfl));done)) ?_ | refine jV (g_bld rfl rfl) ?_ | refine jO fun _=>?_ | (refine c_rt rfl rfl rfl cx_rf rfl ?_)) | (refine k_tt rfl rfl ?_))
 rename_i y9 _ y11
 (refine k_any (s_any (id:=5) [.blk y9 (.cells (List.toArray [U8 (69 : Nat),S nm,.slice (some ⟨bf,of,none⟩) fs.length ca]) tTyG (0,0))] (by intro y hy;simp only [List.mem_cons,List.not_mem_nil,or_false] at hy ⊢;simp [hy]) mixed ?_);refine jW 11 [0,1,3,4] (bts 15 27) ?_;(refine jG (bts 15 31) 2 rfl (g_ld rfl rfl rfl) ?_);(refine jG (bts 15 63) 5 rfl (g_ld rfl rfl rfl) ?_);(refine jG (bts 15 127) 6 rfl (g_lenL rfl) ?_);refine jA 7 rfl ?_;((refine c_m1g rfl rfl rfl (c_pick ?_ (by (repeat (assumption));done)) rfl ?_;(focus ((omega);done));rintro _ _ ⟨k,rfl,rfl,hk0,hk1⟩;dsimp only [zA,fA]));refine jK (bts 15 255) ?_;((refine jG (bts 15 511) 8 rfl (g_iaddr rfl rfl ?_) ?_;(focus ((omega);done))));refine jW 5 [9] (bts 15 1023) ?_;((refine jG (bts 15 2047) 10 rfl (g_ldRF rfl rfl aS ?_ rfl rfl) ?_;(focus ((omega);done))));refine jA 11 rfl ?_;(refine jF fun _=>?_);refine jK (bts 15 4095) ?_;refine jW 1 [12,13] (bts 15 16383) ?_;refine jA 14 rfl ?_;(refine jD rfl rfl rfl ?_);refine jK (bts 15 32767) ?_;refine jQ ?_)
 all_goals repeat' (refine jR ?_)
 all_goals
  rename_i y1
  refine Nx.sealC (b:=y1) fun G2 hG2 hsy=>?_
  refine Nx.sealC (b:=y11) fun G3 hG3 hsg=>?_
  have hdm : nth fs k.toNat ∈ fs:=nth_mem oM
  exact k_rr (vs:=[_]) rfl ⟨rfl,trivial⟩ rfl sB ⟨hG2.trans hG3,.nd 69 [] (nth fs k.toNat).tag [],y11,_,rfl,.enm kd y11 y1 ⟨69,nm,fs⟩ (nth fs k.toNat) ⟨href.symm,rfl⟩ hdm hsg (hsy.mono hG3),by simp [nd_tot,V.tots],by rw [V.out];simp [outW],rfl,oM,oM⟩
theorem dt_uni (hr : refV vs kd = some ((a,ca),⟨85,nm,fs⟩)) (hvl : vs.length ≤ 1000000) (hk : kOk kd = true) (hkl : kd.length ≤ 1000) (h0 : 0 < fs.length) (h8 : fs.length ≤ 8) (hw : SchW (tys vs)) (hcp : 0 ≤ cp ∧ cp ≤ 100000000) (hct : ct ≤ 100000000)
  (hD : ∀ d ∈ fs,(0 < deep ∨ d = nth fs 0) → DrawC u vs d.kind (deep - 1) cp ct) (hd : -1000 ≤ deep ∧ deep ≤ 1000) : DrawT u vs kd deep (cp + 10) (ct + 20):=by
 intro G r code p l hR hs hp
 have href:=refV_ty vs kd
 rw [hr] at href
 have cx_rf:=c_ref (G:=G) (k:=kd) hR hvl hk oM
 rw [hr] at cx_rf
 have htm:=refT_mem href.symm
 obtain ⟨bf,of,cf,ef,hsf⟩:=(hR.fl _ (refV_mem hr)).expl h0
 simp only [slX,Value.slice.injEq] at ef
 obtain ⟨rfl,-,rfl⟩:=ef
 dsimp only at hsf
 have cx_rf : PuG Tryz.prog 98 [u,S kd] G (· = Tu [Ag [U8 (85 : Nat),S nm,.slice (some ⟨bf,of,none⟩) fs.length ca],Bo true]):=cx_rf
 refine m_enter [(0,_),(1,_),(2,_),(3,_)] Tryz.func81 kR Tryz.ntmps81 rfl rfl tU fun B hB hW=>?_
 repeat' (first | refine jM ?_ | (refine jo ?_;first | refine jL fun _=>?_ | refine jD rfl rfl rfl ?_ | refine jC rfl rfl rfl ?_ | refine jAl rfl ?_ | (refine jV (g_ldR rfl rfl aS ?_) ?_;(focus ((omega);done))) | refine jF fun _=>?_ | refine jV (g_bsB rfl rfl (by (repeat (first | exact BL.nil | apply BL.lit rfl));done)) ?_ | refine jV (g_bld rfl rfl) ?_ | refine jO fun _=>?_ | (refine jV (g_iaddrN rfl rfl oM) ?_) | (refine c_rt rfl rfl rfl cx_rf rfl ?_)) | (refine k_tt rfl rfl ?_) | (refine k_ff rfl rfl ?_) | refine k_if rfl (fun _=>?_) (fun _=>?_))
 ·rename_i y9 _ y11 y12 hd0
  (refine k_any (s_any (id:=10) [.blk y9 (.cells (List.toArray [U8 (85 : Nat),S nm,.slice (some ⟨bf,of,none⟩) fs.length ca]) tTyG (0,0))] (by intro y hy;simp only [List.mem_cons,List.not_mem_nil,or_false] at hy ⊢;simp [hy]) mixed ?_);refine jW 7 [0,2,3] (bts 10 13) ?_;(refine jG (bts 10 15) 1 rfl (g_ld rfl rfl rfl) ?_);(refine jG (bts 10 31) 4 rfl (g_ld rfl rfl rfl) ?_);(refine jG (bts 10 63) 5 rfl (g_lenL rfl) ?_);refine jA 6 rfl ?_;((refine c_m1g rfl rfl rfl (c_pick ?_ (by (repeat (assumption));done)) rfl ?_;(focus ((omega);done));rintro _ _ ⟨k,rfl,rfl,hk0,hk1⟩;dsimp only [zA,fA]));refine jK (bts 10 127) ?_;((refine jG (bts 10 255) 7 rfl (g_iaddr rfl rfl ?_) ?_;(focus ((omega);done))));((refine jG (bts 10 511) 8 rfl (g_ldR rfl rfl aS ?_) ?_;(focus ((omega);done))));refine jA 9 rfl ?_;(refine jC rfl rfl rfl ?_);refine jK (bts 10 1023) ?_;refine jQ ?_)
  all_goals have hdm : nth fs k.toNat ∈ fs:=nth_mem oM
  all_goals have cx_dv:=fun {p : Int} (hp : 0 ≤ p ∧ p + cp ≤ 600000000000)=>hD (nth fs k.toNat) hdm (.inl hd0) G r code p l hR hs hp
  all_goals repeat' (first | refine jM ?_ | (refine jo ?_;first | refine jD rfl rfl rfl ?_ | refine jAl rfl ?_ | refine jF fun _=>?_ | (refine c_m1s rfl rfl rfl (cx_dv oM) rfl ?_;rintro _ G1 _ hle ⟨w1,b1,q1,rfl,hrep,htot,hone,rfl,hq1,hq2⟩;dsimp only [zA,fA];skip)))
  all_goals
   rename_i y1 y2
   refine Nx.sealC (b:=y1) fun G2 hG2 hs1=>?_
   refine Nx.sealC (b:=y2) fun G3 hG3 hs2=>?_
   refine Nx.sealC (b:=y11) fun G4 hG4 hsg=>?_
   exact k_rr (vs:=[_]) rfl ⟨rfl,trivial⟩ rfl sB ⟨((hle.trans hG2).trans hG3).trans hG4,.nd 85 [] (nth fs k.toNat).tag [w1],y11,_,rfl,.uni kd y11 y1 y2 b1 1 ⟨85,nm,fs⟩ (nth fs k.toNat) w1 (Nat.le_refl _) ⟨href.symm,rfl⟩ hdm hsg (hs1.mono (hG3.trans hG4)) (hs2.mono hG4) (hrep.mono ((hG2.trans hG3).trans hG4)),by simp only [nd_tot,V.tots,List.length_nil];omega,by rw [V.out];simp [outW],rfl,oM,oM⟩
 ·have cx_dv:=fun {p : Int} (hp : 0 ≤ p ∧ p + cp ≤ 600000000000)=>hD (nth fs 0) (nth_mem h0) (.inr rfl) G r code p l hR hs hp
  repeat' (first | (refine jR ?_) | (refine jo ?_;first | refine jD rfl rfl rfl ?_ | refine jF fun _=>?_ | (refine c_m1s rfl rfl rfl (cx_dv oM) rfl ?_;rintro _ G1 _ hle ⟨w1,b1,q1,rfl,hrep,htot,hone,rfl,hq1,hq2⟩;dsimp only [zA,fA];skip)))
  all_goals
   rename_i y9 _ y11 y12 _ y1 y2
   refine Nx.sealC (b:=y1) fun G2 hG2 hs1=>?_
   refine Nx.sealC (b:=y2) fun G3 hG3 hs2=>?_
   refine Nx.sealC (b:=y11) fun G4 hG4 hsg=>?_
   exact k_rr (vs:=[_]) rfl ⟨rfl,trivial⟩ rfl sB ⟨((hle.trans hG2).trans hG3).trans hG4,.nd 85 [] (nth fs 0).tag [w1],y11,_,rfl,.uni kd y11 y1 y2 b1 1 ⟨85,nm,fs⟩ (nth fs 0) w1 (Nat.le_refl _) ⟨href.symm,rfl⟩ (nth_mem h0) hsg (hs1.mono (hG3.trans hG4)) (hs2.mono hG4) (hrep.mono ((hG2.trans hG3).trans hG4)),by simp only [nd_tot,V.tots,List.length_nil];omega,by rw [V.out];simp [outW],rfl,oM,oM⟩
theorem dt_rec0 (hr : refV vs kd = some ((a,ca),⟨82,nm,fs⟩)) (hvl : vs.length ≤ 1000000) (hk : kOk kd = true) (hkl : kd.length ≤ 1000) (h8 : fs.length ≤ 8) (hd : -1000 ≤ deep ∧ deep ≤ 0) : DrawT u vs kd deep 10 100:=by
 intro G r code p l hR hs hp
 have href:=refV_ty vs kd
 rw [hr] at href
 have cx_rf:=c_ref (G:=G) (k:=kd) hR hvl hk oM
 rw [hr] at cx_rf
 have cx_rf : PuG Tryz.prog 98 [u,S kd] G (· = Tu [Ag [U8 (82 : Nat),S nm,.slice a fs.length ca],Bo true]):=cx_rf
 refine m_enter [(0,_),(1,_),(2,_),(3,_)] Tryz.func81 kR Tryz.ntmps81 rfl rfl tU fun B hB hW=>?_
 repeat' (first | (refine jR ?_) | (refine jo ?_;first | refine jL fun _=>?_ | refine jC rfl rfl rfl ?_ | refine jAl rfl ?_ | refine jF fun _=>?_ | refine jV (g_bsB rfl rfl (by (repeat (first | exact BL.nil | apply BL.lit rfl));done)) ?_ | refine jV (g_bld rfl rfl) ?_ | refine jO fun _=>?_ | (refine c_rt rfl rfl rfl cx_rf rfl ?_)) | (refine k_ff rfl rfl ?_))
 rename_i y9 _ y11
 refine k_loop (ι:=Unit) (fun i=>True) (fun i=>[(0,Pt r 0),(1,u),(2,S kd),(3,I deep),(9,Pt y9 0),(11,Pt y11 0),(13,I 0)]) (fun _=>G) (fun i=>[.blk y11 (.cells (List.toArray [S kd,S [82],nilS,nilS]) tLv (0,0)),.blk y9 (.cells (List.toArray [U8 (82 : Nat),S nm,.slice a fs.length ca]) tTyG (0,0)),rdO r code p tRdr]) (fun i=>0) () ?_ tU rfl sB (fun i Hi=>?_)
 ·trivial
 by_cases h0 : 0 < fs.length
 all_goals repeat' (first | (refine jR ?_) | (refine jo ?_;first | refine jAl rfl ?_ | refine jV (g_lenL rfl) ?_ | (refine jAt rfl ?_) | (refine jAf rfl ?_)) | (refine k_gt rfl rfl (dTt oM) ?_) | (refine k_gf rfl rfl (dFf oM) ?_) | (refine k_ff rfl (by first | rfl | (refine decide_eq_false ?_;(omega))) ?_))
 all_goals
  refine Nx.sealC (b:=y11) fun G2 hG2 hsg=>?_
  exact k_rr (vs:=[_]) rfl ⟨rfl,trivial⟩ rfl sB ⟨hG2,.nd 82 [] 0 [],y11,p,rfl,.recd kd y11 ⟨82,nm,fs⟩ [] [] none none 0 0 ⟨href.symm,rfl⟩ hsg ⟨rfl,.inl ⟨rfl,rfl⟩⟩ ⟨rfl,.inl ⟨rfl,rfl⟩⟩ rfl (fun i hi=>absurd hi (by simp)) (fun i hi=>absurd hi (by simp)),by simp [nd_tot,V.tots],by rw [V.out];simp [outW],rfl,oM,oM⟩
theorem dt_rec (hr : refV vs kd = some ((a,ca),⟨82,nm,fs⟩)) (hvl : vs.length ≤ 1000000) (hk : kOk kd = true) (hkl : kd.length ≤ 1000) (h8 : fs.length ≤ 8) (hw : SchW (tys vs)) (hcp : 0 ≤ cp ∧ cp ≤ 100000000) (hct : ct ≤ 100000000)
  (hD : ∀ d ∈ fs,DrawC u vs d.kind (deep - 1) cp ct) (hd : 0 < deep ∧ deep ≤ 1000) : DrawT u vs kd deep (8 * cp + 20) (8 * ct + 200):=by
 intro G r code p l hR hs hp
 have href:=refV_ty vs kd
 rw [hr] at href
 have cx_rf:=c_ref (G:=G) (k:=kd) hR hvl hk oM
 rw [hr] at cx_rf
 have htm:=refT_mem href.symm
 have cx_rf : PuG Tryz.prog 98 [u,S kd] G (· = Tu [Ag [U8 (82 : Nat),S nm,.slice a fs.length ca],Bo true]):=cx_rf
 refine m_enter [(0,_),(1,_),(2,_),(3,_)] Tryz.func81 kR Tryz.ntmps81 rfl rfl tU fun B hB hW=>?_
 repeat' (first | (refine jR ?_) | (refine jo ?_;first | refine jL fun _=>?_ | refine jC rfl rfl rfl ?_ | refine jAl rfl ?_ | refine jF fun _=>?_ | refine jV (g_bsB rfl rfl (by (repeat (first | exact BL.nil | apply BL.lit rfl));done)) ?_ | refine jV (g_bld rfl rfl) ?_ | refine jO fun _=>?_ | (refine c_rt rfl rfl rfl cx_rf rfl ?_)) | (refine k_ff rfl rfl ?_))
 rename_i y9 _ y11
 refine Nx.addNil tInt5 1 (Nx.addNil tPtr5 1 ?_)
 refine Nx.perm (((List.perm_append_comm (l₁:=[_,_,_]) (l₂:=[_])).cons _).cons _) ?_
 dsimp only [zA,fA]
 refine k_loop (ι:=List (Fld × V) × List Nat × Option Addr × Nat × Option Addr × Nat × Nat × Int × Gh) (fun j=>((j.2.1.length = j.1.length ∧ (∀ i,i < j.1.length → (nth j.1 i).1 ∈ fs) ∧ ∀ i,i < j.1.length → RepR j.2.2.2.2.2.2.2.2 (tys vs) (nth j.1 i).2 (nth j.1 i).1.kind (nth j.2.1 i)) ∧ Gh.le G j.2.2.2.2.2.2.2.2) ∧ (j.1.length ≤ j.2.2.2.2.2.2.1 ∧ j.2.2.2.2.2.2.1 ≤ fs.length) ∧ V.tots (nd61 j.1) ≤ (ct + 20) * j.1.length ∧ p ≤ j.2.2.2.2.2.2.2.1 ∧ j.2.2.2.2.2.2.2.1 ≤ p + (cp + 1) * ((j.2.2.2.2.2.2.1 : Nat) : Int)) (fun j=>[(0,Pt r 0),(1,u),(2,S kd),(3,I deep),(9,Pt y9 0),(11,Pt y11 0),(13,I ((j.2.2.2.2.2.2.1 : Nat) : Int))]) (fun j=>j.2.2.2.2.2.2.2.2) (fun j=>[.acc (.slice j.2.2.2.2.1 j.1.length j.2.2.2.2.2.1) tPtr5 1 j.1.length (rows ptR j.2.1),.acc (.slice j.2.2.1 j.1.length j.2.2.2.1) tInt5 1 j.1.length (rows inR (j.1.map fun p=>p.1.tag)),rdO r code j.2.2.2.2.2.2.2.1 tRdr,.blk y11 (.cells (List.toArray [S kd,S [82],.slice j.2.2.1 j.1.length j.2.2.2.1,.slice j.2.2.2.2.1 j.1.length j.2.2.2.2.2.1]) tLv (0,0)),.blk y9 (.cells (List.toArray [U8 (82 : Nat),S nm,.slice a fs.length ca]) tTyG (0,0))]) (fun j=>fs.length - j.2.2.2.2.2.2.1) ([],[],none,0,none,0,0,p,G) ?_ tU rfl sB (fun j Hj=>?_)
 ·refine ⟨⟨⟨rfl,fun i hi=>absurd hi (by simp),fun i hi=>absurd hi (by simp)⟩,Gh.le.refl _⟩,?_,?_,?_,?_⟩
  ·exact ⟨Nat.le_refl _,Nat.zero_le _⟩
  ·simp [nd61,V.tots]
  ·dsimp only;omega
  ·dsimp only;simp
 obtain ⟨gs,bs,a1,c1,a2,c2,i,q,Gq⟩:=j
 dsimp only at Hj ⊢
 obtain ⟨⟨⟨hbl,hfm,hreps⟩,hgq⟩,hil,htt,hq0,hq1⟩:=Hj
 have hcl : (cp + 1) * ((i : Nat) : Int) ≤ (cp + 1) * 8:=Int.mul_le_mul_of_nonneg_left oM oM
 have hcl0 : 0 ≤ (cp + 1) * ((i : Nat) : Int):=Int.mul_nonneg oM oM
 have htl : (ct + 20) * gs.length ≤ (ct + 20) * 8:=Nat.mul_le_mul_left _ oM
 by_cases hgo : i < fs.length
 ·have hcl3 : (cp + 1) * ((i : Nat) : Int) + (cp + 1) ≤ (cp + 1) * 8:=by
   have:=Int.mul_le_mul_of_nonneg_left (show ((i : Nat) : Int) + 1 ≤ 8 by omega) (show 0 ≤ cp + 1 by omega)
   rwa [Int.mul_add,Int.mul_one] at this
  obtain ⟨bf,of,cf,ef,hsf⟩:=(hR.fl _ (refV_mem hr)).expl (by dsimp only;omega)
  simp only [slX,Value.slice.injEq] at ef
  obtain ⟨rfl,-,rfl⟩:=ef
  dsimp only at hsf
  have hdm : nth fs i ∈ fs:=nth_mem hgo
  have hdk : kindIn (tys vs) (nth fs i).kind = true:=kind_in hw htm (by simp) hdm
  have cx_dv:=fun {p : Int} (hp : 0 ≤ p ∧ p + cp ≤ 600000000000)=>hD (nth fs i) hdm Gq r code p l (hR.mono hgq) (hs.mono hgq) hp
  have hsf:=hsf.mono hgq
  repeat' (first | refine jM ?_ | (refine jo ?_;first | refine jAl rfl ?_ | (refine jV (g_ldRF rfl rfl aS ?_ rfl rfl) ?_;(focus ((omega);done))) | refine jV (g_lenL rfl) ?_ | (refine jV (g_iaddrN rfl rfl oM) ?_) | (refine jAt rfl ?_) | (refine c_m1s rfl rfl rfl (cx_dv oM) rfl ?_;rintro _ G1 _ hle ⟨w1,b1,q1,rfl,hrep,htot,hone,rfl,hq1,hq2⟩;dsimp only [zA,fA];(try have hsf:=hsf.mono hle))) | (refine k_gt rfl rfl (dTt oM) ?_) | (refine k_tt rfl (dTt oM) ?_))
  have hgl:=hgq.trans hle
  have cx_pk3 : ∀ {p : Int},0 ≤ p ∧ p ≤ 1000000000000 → FnG Tryz.prog 21 [Pt r 0,I 3] G1 [rdO r code p tRdr] (fun v L'=>L' = [rdO r code (p + 1) tRdr] ∧ (v = I 0 ∨ ∃ k,v = I k ∧ 0 < k)):=fun {p} hp=>(c_pick (b:=r) (p:=p) (n:=3) ⟨hp.1,hp.2,by decide⟩ (hs.mono hgl)).mono fun v G' L' ⟨h1,k,h2,h3,h4,h5⟩=>⟨h1,h3,by subst h2;rcases (show k = 0 ∨ 0 < k by omega) with rfl | h;exact .inl rfl;exact .inr ⟨k,rfl,h⟩⟩
  have cx_out:=c_outS hw hrep oM
  have cx_sta:=c_standS (f:=nth fs i) (hR.mono hgl) hw hdk
  have hms : (cp + 1) * ((i + 1 : Nat) : Int) = (cp + 1) * ((i : Nat) : Int) + (cp + 1):=by rw [Int.natCast_succ,Int.mul_add,Int.mul_one]
  by_cases heq : w1.out = standF (tys vs) (nth fs i)
  ·(refine k_any (s_any (id:=18) [.blk y9 (.cells (List.toArray [U8 (82 : Nat),S nm,.slice (some ⟨bf,of,none⟩) fs.length ca]) tTyG (0,0))] (by intro y hy;simp only [List.mem_cons,List.not_mem_nil,or_false] at hy ⊢;simp [hy]) mixed ?_);refine jW 14 [0] (bts 15 1) ?_;refine x_all [1] kR dC ⟨?_,trivial⟩;(refine x_opg rfl rfl ?_;(refine c_m1g rfl rfl rfl (cx_pk3 oM) rfl ?_;rintro _ _ ⟨rfl,rfl | ⟨k,rfl,hk0⟩⟩ <;> dsimp only [zA,fA])) <;> (refine jS (bts 15 3) ?_;refine jT 11 [2,3] (bts 15 15) ?_;(try (first | (refine Nx.re (d:=107) (v':=Bo true) rfl (congrArg Value.bool (dTt ‹_›)) ?_) | (refine Nx.re (d:=107) (v':=Bo false) rfl (congrArg Value.bool rfl) ?_)));refine jT 7 [4,6,7,9] (bts 15 735) ?_;(first | refine jG (bts 15 991) 8 rfl (g_ld rfl rfl rfl) ?_ | refine jN (bts 15 991) 8 rfl ?_);(first | (refine jG (bts 15 2015) 10 rfl (g_iaddrN rfl rfl oM) ?_) | refine jN (bts 15 2015) 10 rfl ?_);(first | (refine jG (bts 15 4063) 11 rfl (g_ldR rfl rfl aS ?_) ?_;(focus ((omega);done))) | refine jN (bts 15 4063) 11 rfl ?_);(first | refine jN (bts 15 4095) 5 rfl ?_ | (refine jA 5 rfl ?_;(refine c_rt rfl rfl rfl cx_out rfl ?_);refine jS (bts 15 4095) ?_));(first | refine jN (bts 15 8191) 12 rfl ?_ | (refine jA 12 rfl ?_;(refine c_rt rfl rfl rfl cx_sta rfl ?_);refine jS (bts 15 8191) ?_));refine jT 1 [13] (bts 15 16383) ?_;(first | (refine jG (bts 15 32767) 14 rfl (g_pickT rfl rfl rfl) ?_) | (refine jG (bts 15 32767) 14 rfl (g_pickF rfl rfl rfl) ?_));refine jQ ?_))
   all_goals repeat' (first | refine jM ?_ | (refine k_ff rfl ?_ ?_;(focus ((first | rfl | (simp [*];done));done))))
   all_goals
    refine Nx.perm ((List.Perm.swap _ _ _).trans ((List.Perm.swap _ _ _).cons _)) ?_
    exact k_rd (gs,bs,a1,c1,a2,c2,i + 1,q1 + 1,G1) ⟨⟨⟨hbl,hfm,fun i hi=>(hreps i hi).mono hle⟩,hgl⟩,⟨by dsimp only;omega,by dsimp only;omega⟩,htt,by dsimp only;omega,by dsimp only;rw [hms];omega⟩ (by dsimp only;omega) tU rfl sRr
  ·(refine k_any (s_any (id:=18) [.blk y9 (.cells (List.toArray [U8 (82 : Nat),S nm,.slice (some ⟨bf,of,none⟩) fs.length ca]) tTyG (0,0))] (by intro y hy;simp only [List.mem_cons,List.not_mem_nil,or_false] at hy ⊢;simp [hy]) mixed ?_);refine jW 14 [0] (bts 15 1) ?_;refine x_all [1] kR dC ⟨?_,trivial⟩;(refine x_opg rfl rfl ?_;(refine c_m1g rfl rfl rfl (cx_pk3 oM) rfl ?_;rintro _ _ ⟨rfl,rfl | ⟨k,rfl,hk0⟩⟩ <;> dsimp only [zA,fA])) <;> (refine jS (bts 15 3) ?_;refine jT 11 [2,3] (bts 15 15) ?_;(try (first | (refine Nx.re (d:=107) (v':=Bo true) rfl (congrArg Value.bool (dTt ‹_›)) ?_) | (refine Nx.re (d:=107) (v':=Bo false) rfl (congrArg Value.bool rfl) ?_)));refine jT 7 [4,6,7,9] (bts 15 735) ?_;(first | refine jG (bts 15 991) 8 rfl (g_ld rfl rfl rfl) ?_ | refine jN (bts 15 991) 8 rfl ?_);(first | (refine jG (bts 15 2015) 10 rfl (g_iaddrN rfl rfl oM) ?_) | refine jN (bts 15 2015) 10 rfl ?_);(first | (refine jG (bts 15 4063) 11 rfl (g_ldR rfl rfl aS ?_) ?_;(focus ((omega);done))) | refine jN (bts 15 4063) 11 rfl ?_);(first | refine jN (bts 15 4095) 5 rfl ?_ | (refine jA 5 rfl ?_;(refine c_rt rfl rfl rfl cx_out rfl ?_);refine jS (bts 15 4095) ?_));(first | refine jN (bts 15 8191) 12 rfl ?_ | (refine jA 12 rfl ?_;(refine c_rt rfl rfl rfl cx_sta rfl ?_);refine jS (bts 15 8191) ?_));refine jT 1 [13] (bts 15 16383) ?_;(first | (refine jG (bts 15 32767) 14 rfl (g_pickT rfl rfl rfl) ?_) | (refine jG (bts 15 32767) 14 rfl (g_pickF rfl rfl rfl) ?_));refine jQ ?_))
   ·repeat' (first | refine jM ?_ | (refine k_ff rfl rfl ?_))
    refine Nx.perm ((List.Perm.swap _ _ _).trans ((List.Perm.swap _ _ _).cons _)) ?_
    exact k_rd (gs,bs,a1,c1,a2,c2,i + 1,q1 + 1,G1) ⟨⟨⟨hbl,hfm,fun i hi=>(hreps i hi).mono hle⟩,hgl⟩,⟨by dsimp only;omega,by dsimp only;omega⟩,htt,by dsimp only;omega,by dsimp only;rw [hms];omega⟩ (by dsimp only;omega) tU rfl sRr
   ·repeat' (first | (refine jR ?_) | (refine k_tt rfl (dTt ‹_›) ?_))
    have hl' : (gs ++ [(nth fs i,w1)]).length = gs.length + 1:=by simp
    have hbl' : (bs ++ [b1]).length = (gs ++ [(nth fs i,w1)]).length:=by simp [hbl]
    have hnth : ∀ j,j < (gs ++ [(nth fs i,w1)]).length → (j < gs.length ∧ nth (gs ++ [(nth fs i,w1)]) j = nth gs j ∧ nth (bs ++ [b1]) j = nth bs j) ∨ (nth (gs ++ [(nth fs i,w1)]) j = (nth fs i,w1) ∧ nth (bs ++ [b1]) j = b1):=fun j hj=>by
     by_cases h1 : j < gs.length
     ·exact .inl ⟨h1,by rw [nth_eq hj,nth_eq h1,List.getElem_append_left h1],by rw [nth_eq oM,nth_eq oM,List.getElem_append_left oM]⟩
     ·have h2 : j = gs.length:=oM
      exact .inr ⟨by rw [nth_eq hj];simp [h2],by rw [nth_eq oM];simp [h2,hbl]⟩
    have hfm' : ∀ j,j < (gs ++ [(nth fs i,w1)]).length → (nth (gs ++ [(nth fs i,w1)]) j).1 ∈ fs:=fun j hj=>by
     rcases hnth j hj with ⟨h1,h2,_⟩ | ⟨h2,_⟩
     ·rw [h2];exact hfm j h1
     ·rw [h2];exact hdm
    have hreps' : ∀ j,j < (gs ++ [(nth fs i,w1)]).length → RepR G1 (tys vs) (nth (gs ++ [(nth fs i,w1)]) j).2 (nth (gs ++ [(nth fs i,w1)]) j).1.kind (nth (bs ++ [b1]) j):=fun j hj=>by
     rcases hnth j hj with ⟨h1,h2,h3⟩ | ⟨h2,h3⟩
     ·rw [h2,h3];exact (hreps j h1).mono hle
     ·rw [h2,h3];exact hrep
    have hrow1 : rows inR (gs.map fun p=>p.1.tag) ++ [I (nth fs i).tag] = rows inR ((gs ++ [(nth fs i,w1)]).map fun p=>p.1.tag):=by rw [List.map_append];exact (rows_snoc inR _ (nth fs i).tag).symm
    have hrow2 : rows ptR bs ++ [Pt b1 0] = rows ptR (bs ++ [b1]):=(rows_snoc ptR bs b1).symm
    have hnd : V.tots (nd61 (gs ++ [(nth fs i,w1)])) = V.tots (nd61 gs) + (20 + w1.tot):=by simp [nd61,tots_app,V.tots,nd_tot]
    have hmt : (ct + 20) * (gs.length + 1) = (ct + 20) * gs.length + (ct + 20):=Nat.mul_succ _ _
    (refine k_any (s_any (id:=19) [.blk y9 (.cells (List.toArray [U8 (82 : Nat),S nm,.slice (some ⟨bf,of,none⟩) fs.length ca]) tTyG (0,0))] (by intro y hy;simp only [List.mem_cons,List.not_mem_nil,or_false] at hy ⊢;simp [hy]) mixed ?_);refine jW 10 [0,1,2,3,5,7] (bts 16 175) ?_;(refine jG (bts 16 239) 6 rfl (g_ld rfl rfl rfl) ?_);((refine jG (bts 16 495) 8 rfl (g_iaddrN rfl rfl ?_) ?_;(focus ((omega);done))));refine jW 7 [9] (bts 16 1007) ?_;((refine jG (bts 16 2031) 10 rfl (g_ldRF rfl rfl aS ?_ rfl rfl) ?_;(focus ((omega);done))));refine x_all [4,11] kR dC ⟨?_,?_,trivial⟩;(focus (refine x_opg rfl rfl ?_;(refine jAl rfl ?_);refine jK (bts 16 2047) ?_;refine jA 11 rfl ?_;(refine jF fun _=>?_);refine jK (bts 16 4095) ?_;refine jA 12 rfl ?_;((refine c_apX rfl rfl rfl rfl rfl rfl rfl rfl rfl ?_ fun _ _=>?_;(focus ((omega);done))));refine jK (bts 16 8191) ?_;refine jW 1 [13,14] (bts 16 32767) ?_;refine jA 15 rfl ?_;(refine jD rfl rfl rfl ?_);refine jK (bts 16 65535) ?_;refine jQ ?_));rotate_left 1;(focus (refine x_opg rfl rfl ?_;(refine jF fun _=>?_);refine jK (bts 16 4079) ?_;refine jA 4 rfl ?_;(refine jAl rfl ?_);refine jK (bts 16 4095) ?_;refine jA 12 rfl ?_;((refine c_apX rfl rfl rfl rfl rfl rfl rfl rfl rfl ?_ fun _ _=>?_;(focus ((omega);done))));refine jK (bts 16 8191) ?_;refine jW 1 [13,14] (bts 16 32767) ?_;refine jA 15 rfl ?_;(refine jD rfl rfl rfl ?_);refine jK (bts 16 65535) ?_;refine jQ ?_));rotate_left 1)
    all_goals repeat' (first | refine jM ?_ | (refine jo ?_;first | refine jD rfl rfl rfl ?_ | refine jAl rfl ?_ | refine jF fun _=>?_ | (refine c_apX rfl rfl rfl rfl rfl rfl rfl rfl rfl oM fun _ _=>?_)))
    all_goals
     rename_i _ y1 yc1 _ y2 yc2
     rw [hrow1,hrow2]
     exact k_rd (gs ++ [(nth fs i,w1)],bs ++ [b1],some ⟨y1,0,none⟩,yc1,some ⟨y2,0,none⟩,yc2,i + 1,q1 + 1,G1) ⟨⟨⟨hbl',hfm',hreps'⟩,hgl⟩,⟨by dsimp only;rw [hl'];omega,by dsimp only;omega⟩,by dsimp only;rw [hl',hmt,hnd];omega,by dsimp only;omega,by dsimp only;rw [hms];omega⟩ (by dsimp only;omega) tU rfl (by rw [hl'];repeat (first | exact List.Sublist.refl _ | apply List.Sublist.cons_cons | apply List.Sublist.cons))
 ·repeat' (first | (refine jR ?_) | (refine jo ?_;first | refine jAl rfl ?_ | refine jV (g_lenL rfl) ?_ | (refine jAf rfl ?_)) | (refine k_gf rfl rfl (dFf oM) ?_) | (refine k_ff rfl rfl ?_))
  refine Nx.sealS (v:=.slice a2 gs.length c2) fun G2 hG2 hs1=>?_
  refine Nx.sealS (v:=.slice a1 gs.length c1) fun G3 hG3 hs2=>?_
  refine Nx.sealC (b:=y11) fun G4 hG4 hsg=>?_
  exact k_rr (vs:=[_]) rfl ⟨rfl,trivial⟩ rfl sB ⟨hgq.trans ((hG2.trans hG3).trans hG4),.nd 82 [] 0 (nd61 gs),y11,q,rfl,.recd kd y11 ⟨82,nm,fs⟩ gs bs a1 a2 c1 c2 ⟨href.symm,rfl⟩ hsg (hs2.mono hG4) (hs1.mono (hG3.trans hG4)) hbl hfm (fun i hi=>(hreps i hi).mono ((hG2.trans hG3).trans hG4)),by rw [nd_tot];simp only [List.length_nil];omega,by rw [V.out];simp [outW],rfl,oM,oM⟩
end
theorem kind_ne' {ts : List Ty} {k : List UInt8} (h : kindIn ts k = true) : ∃ c r,k = c :: r:=by
 cases k with
 | nil=>unfold kindIn kindOk kOk at h;simp at h
 | cons c r=>exact ⟨c,r,rfl⟩
def cpk : Nat → Int
 | 0=>105
 | d + 1=>8 * cpk d + 40
def ctt : Nat → Nat
 | 0=>480
 | d + 1=>8 * ctt d + 400
theorem cpk_le : ∀ d,d ≤ 4 → 0 ≤ cpk d ∧ cpk d ≤ 500000 ∧ ctt d ≤ 3000000 ∧ 105 ≤ cpk d ∧ 480 ≤ ctt d:=by decide
theorem draw0 {u : Value} {vs : List TyX} (hw : SchW (tys vs)) (hu : u.oneCell' = true) : ∀ (n : Nat) {k : List UInt8} {deep : Int},n ≤ 9 → deep ≤ 0 → (n : Int) - 900 ≤ deep → kindIn (tys vs) k = true → (∀ t,refT (tys vs) k = some t → endsN (tys vs) n t = true) → DrawC u vs k deep (15 + 10 * n) (300 + 20 * n):=by
 have hvl : vs.length ≤ 8:=by have:=hw.len;unfold tys at this;simpa using this
 intro n
 induction n with
 | zero =>
  intro k deep _ hd hd2 hk he
  obtain ⟨c,r,rfl⟩:=kind_ne' hk
  have hkk:=kindOk_kOk (kindIn_ok hk)
  simp only [List.length_cons] at hkk
  by_cases h1 : c.toNat = 91
  ·obtain rfl:=u8_eq h1 dC
   exact (dv_list (cp:=0) (ct:=0) oM oM (fun h=>absurd h oM) hu oM oM).le oM oM
  by_cases h2 : c.toNat = 63
  ·obtain rfl:=u8_eq h2 dC
   exact (dv_opt (cp:=0) (ct:=0) oM oM (fun h=>absurd h oM) hu oM oM).le oM oM
  have h91 : ¬ (c.toNat = 91 ∨ c.toNat = 63):=fun h=>by rcases h with h | h <;> omega
  cases hr : refT (tys vs) (c :: r) with
  | some t=>have:=he t hr;simp [endsN] at this
  | none =>
   rcases plain_kinds hk h91 hr with e1 | e1 | e1
   ·rw [e1];exact dv_num.le oM oM
   ·rw [e1];exact dv_txt.le oM oM
   ·rw [e1];exact dv_flag.le oM oM
 | succ n ih =>
  intro k deep hn hd hd2 hk he
  obtain ⟨c,r,rfl⟩:=kind_ne' hk
  have hkk:=kindOk_kOk (kindIn_ok hk)
  have hkk1:=hkk.1
  simp only [List.length_cons] at hkk
  by_cases h1 : c.toNat = 91
  ·obtain rfl:=u8_eq h1 dC
   exact (dv_list (cp:=0) (ct:=0) oM oM (fun h=>absurd h oM) hu oM oM).le oM oM
  by_cases h2 : c.toNat = 63
  ·obtain rfl:=u8_eq h2 dC
   exact (dv_opt (cp:=0) (ct:=0) oM oM (fun h=>absurd h oM) hu oM oM).le oM oM
  have h91 : ¬ (c.toNat = 91 ∨ c.toNat = 63):=fun h=>by rcases h with h | h <;> omega
  cases hr : refT (tys vs) (c :: r) with
  | none =>
   rcases plain_kinds hk h91 hr with e1 | e1 | e1
   ·rw [e1];exact dv_num.le oM oM
   ·rw [e1];exact dv_txt.le oM oM
   ·rw [e1];exact dv_flag.le oM oM
  | some t =>
   obtain ⟨r',e⟩:=refT_64 hr
   simp only [List.cons.injEq] at e
   obtain ⟨rfl,rfl⟩:=e
   have href:=refV_ty vs (64 :: r)
   rw [hr] at href
   rcases hrv : refV vs (64 :: r) with _ | ⟨⟨a,ca⟩,⟨so,nm,fs⟩⟩
   ·rw [hrv] at href;cases href
   rw [hrv] at href
   obtain rfl:=(Option.some.inj href).symm
   dsimp only at hr he
   have hTW:=hw.ty _ (refT_mem hr)
   have h8 : fs.length ≤ 8:=hTW.len
   refine dv_typed ?_ oM
   rcases hTW.sort with h3 | h3 | h3 <;> dsimp only at h3 <;> subst h3
   ·exact fun G r code p l g1 g2 g3=>((dt_rec0 hrv oM hkk1 (by simp only [List.length_cons];omega) h8 oM) G r code p l g1 g2 ⟨g3.1,oM⟩).mono fun _ _ _ ⟨h6,w,b,q,h7,h8,h9,h10,h11,h12,h13⟩=>⟨h6,w,b,q,h7,h8,oM,h10,h11,h12,oM⟩
   ·have h0 : 0 < fs.length:=List.length_pos_iff.2 (hTW.ne (by simp))
    refine fun G r code p l g1 g2 g3=>((dt_uni (cp:=15 + 10 * n) (ct:=300 + 20 * n) hrv oM hkk1 (by simp only [List.length_cons];omega) h0 h8 hw oM oM (fun d hdm hc=>?_) oM) G r code p l g1 g2 ⟨g3.1,oM⟩).mono fun _ _ _ ⟨h6,w,b,q,h7,h8,h9,h10,h11,h12,h13⟩=>⟨h6,w,b,q,h7,h8,oM,h10,h11,h12,oM⟩
    rcases hc with hc | rfl
    ·omega
    refine ih oM oM oM (kind_in hw (refT_mem hr) (by simp) hdm) fun t' ht'=>?_
    have:=he _ hr
    rw [endsN,if_neg (by simp),kind0_nth] at this
    dsimp only at this
    rw [ht'] at this
    exact this
   ·have h0 : 0 < fs.length:=List.length_pos_iff.2 (hTW.ne (by simp))
    exact fun G r code p l g1 g2 g3=>((dt_enm hrv oM hkk1 (by simp only [List.length_cons];omega) h0 h8 hw) G r code p l g1 g2 ⟨g3.1,oM⟩).mono fun _ _ _ ⟨h6,w,b,q,h7,h8,h9,h10,h11,h12,h13⟩=>⟨h6,w,b,q,h7,h8,oM,h10,h11,h12,oM⟩
theorem draw_all {u : Value} {vs : List TyX} (hw : SchW (tys vs)) (hu : u.oneCell' = true) : ∀ (m : Nat) {k : List UInt8} {deep : Int},m ≤ 4 → deep ≤ m → -800 ≤ deep → kindIn (tys vs) k = true → DrawC u vs k deep (cpk m) (ctt m):=by
 have hvl : vs.length ≤ 8:=by have:=hw.len;unfold tys at this;simpa using this
 have hz : ∀ {k : List UInt8} {deep : Int},deep ≤ 0 → -800 ≤ deep → kindIn (tys vs) k = true → DrawC u vs k deep 105 480:=fun {k deep} h1 h2 h3=>(draw0 hw hu ((tys vs).length + 1) (by have:=hw.len;omega) h1 (by have:=hw.len;omega) h3 (fun t ht=>ends_of hw t ht)).le (by have:=hw.len;omega) (by have:=hw.len;omega)
 intro m
 induction m with
 | zero=>intro k deep _ hd hd2 hk;exact hz hd hd2 hk
 | succ m ih =>
  intro k deep hm hd hd2 hk
  have hcm:=cpk_le m oM
  have e1 : cpk (m + 1) = 8 * cpk m + 40:=rfl
  have e2 : ctt (m + 1) = 8 * ctt m + 400:=rfl
  by_cases hd0 : deep ≤ 0
  ·exact (hz hd0 hd2 hk).le oM oM
  have hD : ∀ {k : List UInt8},kindIn (tys vs) k = true → DrawC u vs k (deep - 1) (cpk m) (ctt m):=fun {k} hk=>ih oM oM oM hk
  obtain ⟨c,r,rfl⟩:=kind_ne' hk
  have hkk:=kindOk_kOk (kindIn_ok hk)
  have hkk1:=hkk.1
  simp only [List.length_cons] at hkk
  by_cases h1 : c.toNat = 91
  ·obtain rfl:=u8_eq h1 dC
   exact (dv_list oM oM (fun _=>hD (kindIn_tail (.inl rfl) hk)) hu oM oM).le oM oM
  by_cases h2 : c.toNat = 63
  ·obtain rfl:=u8_eq h2 dC
   exact (dv_opt oM oM (fun _=>hD (kindIn_tail (.inr rfl) hk)) hu oM oM).le oM oM
  have h91 : ¬ (c.toNat = 91 ∨ c.toNat = 63):=fun h=>by rcases h with h | h <;> omega
  cases hr : refT (tys vs) (c :: r) with
  | none =>
   rcases plain_kinds hk h91 hr with e1 | e1 | e1
   ·rw [e1];exact dv_num.le oM oM
   ·rw [e1];exact dv_txt.le oM oM
   ·rw [e1];exact dv_flag.le oM oM
  | some t =>
   obtain ⟨r',e⟩:=refT_64 hr
   simp only [List.cons.injEq] at e
   obtain ⟨rfl,rfl⟩:=e
   have href:=refV_ty vs (64 :: r)
   rw [hr] at href
   rcases hrv : refV vs (64 :: r) with _ | ⟨⟨a,ca⟩,⟨so,nm,fs⟩⟩
   ·rw [hrv] at href;cases href
   rw [hrv] at href
   obtain rfl:=(Option.some.inj href).symm
   dsimp only at hr
   have hTW:=hw.ty _ (refT_mem hr)
   have h8 : fs.length ≤ 8:=hTW.len
   refine dv_typed ?_ oM
   rcases hTW.sort with h3 | h3 | h3 <;> dsimp only at h3 <;> subst h3
   ·exact fun G r code p l g1 g2 g3=>((dt_rec hrv oM hkk1 (by simp only [List.length_cons];omega) h8 hw oM oM (fun d hdm=>hD (kind_in hw (refT_mem hr) (by simp) hdm)) oM) G r code p l g1 g2 ⟨g3.1,oM⟩).mono fun _ _ _ ⟨h6,w,b,q,h7,h8,h9,h10,h11,h12,h13⟩=>⟨h6,w,b,q,h7,h8,oM,h10,h11,h12,oM⟩
   ·have h0 : 0 < fs.length:=List.length_pos_iff.2 (hTW.ne (by simp))
    exact fun G r code p l g1 g2 g3=>((dt_uni hrv oM hkk1 (by simp only [List.length_cons];omega) h0 h8 hw oM oM (fun d hdm _=>hD (kind_in hw (refT_mem hr) (by simp) hdm)) oM) G r code p l g1 g2 ⟨g3.1,oM⟩).mono fun _ _ _ ⟨h6,w,b,q,h7,h8,h9,h10,h11,h12,h13⟩=>⟨h6,w,b,q,h7,h8,oM,h10,h11,h12,oM⟩
   ·have h0 : 0 < fs.length:=List.length_pos_iff.2 (hTW.ne (by simp))
    exact fun G r code p l g1 g2 g3=>((dt_enm hrv oM hkk1 (by simp only [List.length_cons];omega) h0 h8 hw) G r code p l g1 g2 ⟨g3.1,oM⟩).mono fun _ _ _ ⟨h6,w,b,q,h7,h8,h9,h10,h11,h12,h13⟩=>⟨h6,w,b,q,h7,h8,oM,h10,h11,h12,oM⟩
end Go.E
namespace Go.E
set_option maxRecDepth 20000
set_option maxHeartbeats 2000000
open Go.Proofs
variable {G : Gh}
theorem c_l91Schema {r : Nat} {code : Value} {p : Int} {l : List UInt8} (hp : 0 ≤ p ∧ p ≤ 600000000000) (hs : SlV G code 1 l.length (u8s l)) :
  FnG Tryz.prog 45 [Pt r 0] G [rdO r code p tRdr] (fun v L'=>∃ x q,v = S x ∧ x.length ≤ 20000 ∧ L' = [rdO r code q tRdr] ∧ p ≤ q ∧ q ≤ p + 700):=by
 refine jH [(0,_)] Tryz.func45 Tryz.ntmps45 fun B hB hW=>?_
 repeat' (first | (refine jX ?_) | (refine jo ?_;first | refine jF fun _=>?_ | (refine jV (g_iaddr rfl rfl oM) ?_) | (refine c_ldMS 64 rfl rfl rfl ?_ rfl (fun xs hxs=>?_);(focus ((simp only [List.length_append,List.length_cons,List.length_nil,List.length_take];omega);done))) | (refine jAt rfl ?_) | (refine jAf rfl ?_) | (refine c_m1g rfl rfl rfl (c_l91Type ?_ (by (repeat (assumption));done) ?_ ?_) rfl ?_;(focus ((omega);done));(focus ((first | assumption | (simp;done));done));(focus ((simp;done);done));rintro _ _ ⟨ty,q1,rfl,hty,hty1,rfl,hq1,hq2⟩;dsimp only [zA,fA]) | (refine c_m1g rfl rfl rfl (c_pick ?_ (by (repeat (assumption));done)) rfl ?_;(focus ((first | omega | (simp;omega));done));rintro _ _ ⟨k,rfl,rfl,hk0,hk1⟩;dsimp only [zA,fA]) | (refine c_rt rfl rfl rfl (c_SchemaOkS ?_) rfl ?_;(focus ((simp;omega);done)))) | refine k_gb rfl rfl (fun _=>?_) (fun _=>?_) | (refine k_ff rfl rfl ?_) | refine k_if rfl (fun _=>?_) (fun _=>?_))
 all_goals (first | exact k_rr (vs:=[_]) rfl ⟨rfl,trivial⟩ rfl sB ⟨rfl,_,_,rfl,by (simp only [List.length_append,List.length_cons,List.length_nil,List.length_take,List.length_drop];omega),rfl,oM,oM⟩ | skip)
 all_goals simp only [List.length_append,List.length_cons,List.length_nil] at hk1
 all_goals (refine k_any (s_any (id:=6) [] (fun _ h=>absurd h (by simp)) mixed ?_);refine jW 7 [0,1,2,4,9,10,11,12] (bts 15 7703) ?_;refine x_all [3,5] kR dC ⟨?_,?_,trivial⟩;(focus (refine x_opg rfl rfl ?_;(refine jF fun _=>?_);refine jK (bts 15 7711) ?_;refine jA 5 rfl ?_;((refine c_m1g rfl rfl rfl (c_pick ?_ (by (repeat (assumption));done)) rfl ?_;(focus ((omega);done));rintro _ _ ⟨k,rfl,rfl,hk0,hk1⟩;dsimp only [zA,fA]));refine jK (bts 15 7743) ?_;((refine jG (bts 15 7807) 6 rfl (g_iaddr rfl rfl ?_) ?_;(focus ((omega);done))));refine jA 7 rfl ?_;((refine c_ldMS 64 rfl rfl rfl ?_ rfl (fun xs hxs=>?_);(focus ((simp only [List.length_append,List.length_cons,List.length_nil,List.length_take];omega);done))));refine jK (bts 15 7935) ?_;refine jW 0 [8,13,14] (bts 15 32767) ?_;refine jQ ?_));rotate_left 1;(focus (refine x_opg rfl rfl ?_;((refine c_m1g rfl rfl rfl (c_pick ?_ (by (repeat (assumption));done)) rfl ?_;(focus ((omega);done));rintro _ _ ⟨k,rfl,rfl,hk0,hk1⟩;dsimp only [zA,fA]));refine jK (bts 15 7735) ?_;refine jA 3 rfl ?_;(refine jF fun _=>?_);refine jK (bts 15 7743) ?_;((refine jG (bts 15 7807) 6 rfl (g_iaddr rfl rfl ?_) ?_;(focus ((omega);done))));refine jA 7 rfl ?_;((refine c_ldMS 64 rfl rfl rfl ?_ rfl (fun xs hxs=>?_);(focus ((simp only [List.length_append,List.length_cons,List.length_nil,List.length_take];omega);done))));refine jK (bts 15 7935) ?_;refine jW 0 [8,13,14] (bts 15 32767) ?_;refine jQ ?_));rotate_left 1)
 all_goals repeat' (refine jR ?_)
 all_goals exact k_rr (vs:=[_]) rfl ⟨rfl,trivial⟩ rfl sB ⟨rfl,_,_,rfl,by (simp only [List.length_append,List.length_cons,List.length_nil,List.length_take,List.length_drop];omega),rfl,oM,oM⟩
theorem c_l91Some {r : Nat} {code : Value} {p : Int} {l s : List UInt8} (hp : 0 ≤ p ∧ p ≤ 600000000000) (hs : SlV G code 1 l.length (u8s l)) (hsl : s.length ≤ 10000000) :
  FnG Tryz.prog 46 [Pt r 0,S s] G [rdO r code p tRdr] (fun v L'=>∃ x q,v = S x ∧ x.length ≤ 400 ∧ L' = [rdO r code q tRdr] ∧ p ≤ q ∧ q ≤ p + 20):=by
 have cx_lkg : ∀ {k : List UInt8} (G : Gh),k.length ≤ 1000 → FnS Tryz.prog 48 [S s,S k] G (fun v _=>∃ u b,v = Tu [u,Bo b]):=fun {k} G h=>(c_l3Kind (G:=G) (s:=s) (k:=k) oM oM).mono fun v G' L' ⟨h1,h2,u,vs,h3,_⟩=>⟨h1,h2,u,_,h3⟩
 refine jB (Post:=fun v G' L'=>G' = G ∧ _) [(0,_),(1,_)] Tryz.func46 Tryz.ntmps46 fun B hok hB hW=>?_
 repeat' (first | (refine jR ?_) | (refine jo ?_;first | refine jF fun _=>?_ | (refine jV (g_iaddr rfl rfl oM) ?_) | (refine c_ldMS 64 rfl rfl rfl ?_ rfl (fun xs hxs=>?_);(focus ((simp only [List.length_append,List.length_cons,List.length_nil,List.length_take];omega);done))) | (refine c_m1g rfl rfl rfl (c_pick ?_ (by (repeat (assumption));done)) rfl ?_;(focus ((omega);done));rintro _ _ ⟨k,rfl,rfl,hk0,hk1⟩;dsimp only [zA,fA]) | (refine c_m1g rfl rfl rfl (c_l91Kind ?_ (by (repeat (assumption));done)) rfl ?_;(focus ((omega);done));rintro _ _ ⟨kd,q1,rfl,hkd,rfl,hq1,hq2⟩;dsimp only [zA,fA]) | (refine c_fns rfl rfl rfl ((cx_lkg _) oM) rfl ?_;rintro _ G hle ⟨u1,b1,rfl⟩;skip)) | refine k_if rfl (fun _=>?_) (fun _=>?_) | refine k_cd rfl (fun _=>?_) (fun _=>?_))
 all_goals refine Nx.base hok hB ?_
 all_goals exact k_rr (vs:=[_]) rfl ⟨rfl,trivial⟩ rfl sB ⟨rfl,_,_,rfl,by (first | omega | (simp only [List.length_append,List.length_cons,List.length_nil,List.length_take,List.length_drop];omega)),rfl,oM,oM⟩
theorem c_l91Of {r : Nat} {code : Value} {p : Int} {l s k : List UInt8} (hp : 0 ≤ p ∧ p ≤ 500000000000) (hs : SlV G code 1 l.length (u8s l)) (hsl : s.length ≤ 10000000) (hkl : k.length ≤ 1000) :
  FnG Tryz.prog 23 [Pt r 0,S s,S k] G [rdO r code p tRdr] (fun v L'=>∃ x q,v = S x ∧ x.length ≤ 20000 ∧ L' = [rdO r code q tRdr] ∧ p ≤ q ∧ q ≤ p + 3000000):=by
 by_cases hk : kindS s k = true
 case neg =>
  have hk2 : kindS s k = false:=by simpa using hk
  have cx_lk1 : ∀ G,FnS Tryz.prog 48 [S s,S k] G (fun v _=>∃ u,v = Tu [u,Bo false]):=fun G=>by
   refine (c_l3Kind (G:=G) (s:=s) (k:=k) oM oM).mono ?_
   rintro v G' L' ⟨h1,h2,u,vs,rfl,_⟩
   exact ⟨h1,h2,u,by rw [hk2]⟩
  refine jB (Post:=fun v G' L'=>G' = G ∧ _) [(0,_),(1,_),(2,_)] Tryz.func23 Tryz.ntmps23 fun B hok hB hW=>?_
  repeat' (first | (refine jR ?_) | (refine jo ?_;(refine c_fns rfl rfl rfl (cx_lk1 _) rfl ?_;rintro _ G hle ⟨u1,rfl⟩;skip)) | (refine k_tt rfl rfl ?_))
  all_goals refine Nx.base hok hB ?_
  all_goals exact k_rr (vs:=[_]) rfl ⟨rfl,trivial⟩ rfl sRr ⟨rfl,_,_,rfl,by (simp only [List.length_append,List.length_cons,List.length_nil,List.length_take,List.length_drop];omega),rfl,oM,oM⟩
 obtain ⟨ts,hsc,hki,hw⟩:=kindS_some2 hk
 have cx_lka : ∀ G,FnS Tryz.prog 48 [S s,S k] G (fun v G'=>∃ a c vs,v = Tu [.slice a vs.length c,Bo true] ∧ SchR G' (.slice a vs.length c) vs ∧ tys vs = ts):=fun G=>by
  refine (c_l3Kind (G:=G) (s:=s) (k:=k) oM oM).mono ?_
  rintro v G' L' ⟨h1,h2,u,vs,rfl,h4,_,h6⟩
  obtain ⟨_,⟨rfl,h0⟩ | ⟨b,o,cap,rfl,_,_⟩⟩:=h4.sl
  ·exact ⟨h1,h2,none,0,vs,by rw [hk,h0],by rw [h0];exact h4,h6 ts hsc hki⟩
  ·exact ⟨h1,h2,_,cap,vs,by rw [hk],h4,h6 ts hsc hki⟩
 refine jB (Post:=fun v G' L'=>G' = G ∧ _) [(0,_),(1,_),(2,_)] Tryz.func23 Tryz.ntmps23 fun B hok hB hW=>?_
 repeat' (first | (refine jR ?_) | (refine jo ?_;(refine c_fns rfl rfl rfl (cx_lka _) rfl ?_;rintro _ G hle ⟨av1,cv1,vs1,rfl,hR1,hT1⟩;skip)) | (refine k_ff rfl rfl ?_))
 subst hT1
 have hg0:=hle
 have hu1:=hR1.sl.one
 have cx_dv:=fun {p : Int} (hp : 0 ≤ p ∧ p + cpk 4 ≤ 600000000000)=>draw_all hw hu1 4 (k:=k) (deep:=4) oM oM oM hki G r code p l hR1 (hs.mono hle) hp
 have hc4 : cpk 4 = 453480:=by decide
 have ht4 : ctt 4 = 2200080:=by decide
 rw [hc4,ht4] at cx_dv
 repeat' ((refine jo ?_;(refine c_m1s rfl rfl rfl (cx_dv oM) rfl ?_;rintro _ G1 _ hle ⟨w1,b1,q1,rfl,hrep,htot,hone,rfl,hq1,hq2⟩;dsimp only [zA,fA];skip)))
 have hg1:=hle
 have hob:=outR hw hrep
 unfold OutB at hob
 have cx_out:=c_outS hw hrep oM
 repeat' (first | (refine jR ?_) | (refine jo ?_;(refine c_rt rfl rfl rfl cx_out rfl ?_)))
 refine k_loop (ι:=List UInt8 × Int × Int × Gh) (fun j=>Gh.le G1 j.2.2.2 ∧ (0 ≤ j.2.1 ∧ j.2.1 ≤ 3) ∧ (1 ≤ j.1.length ∧ j.1.length ≤ 2 * ctt (j.2.1.toNat + 1)) ∧ p ≤ j.2.2.1 ∧ j.2.2.1 ≤ p + 500000 * (4 - j.2.1)) (fun j=>[(0,Pt r 0),(2,S k),(7,.slice av1 vs1.length cv1),(9,S j.1),(10,I j.2.1)]) (fun j=>j.2.2.2) (fun j=>[rdO r code j.2.2.1 tRdr]) (fun j=>j.2.1.toNat) (w1.out,3,q1,G1) ?_ tU rfl sRr (fun j Hj=>?_)
 ·refine ⟨Gh.le.refl _,by dsimp only;omega,⟨hone,?_⟩,by dsimp only;omega,by dsimp only;omega⟩
  show w1.out.length ≤ 2 * ctt 4
  omega
 obtain ⟨t,d,q,Gq⟩:=j
 dsimp only at Hj ⊢
 obtain ⟨hgq,hd,⟨ht1,ht2⟩,hq3,hq4⟩:=Hj
 have hs2:=hs.mono ((hg0.trans hg1).trans hgq)
 clear cx_dv cx_out hrep
 by_cases hgo : 150 < t.length ∧ 0 < d
 ·obtain ⟨hgo1,hgo2⟩:=hgo
  have hcm:=cpk_le d.toNat oM
  have cx_dv:=fun {p : Int} (hp : 0 ≤ p ∧ p + 500000 ≤ 600000000000)=>((draw_all hw hu1 d.toNat (k:=k) (deep:=d) oM oM oM hki).le hcm.2.1 (Nat.le_refl _)) Gq r code p l (hR1.mono (hg1.trans hgq)) hs2 hp
  repeat' (first | (refine jR ?_) | (refine jo ?_;first | (refine jAt rfl ?_) | (refine c_m1s rfl rfl rfl (cx_dv oM) rfl ?_;rintro _ G1 _ hle ⟨w1,b1,q1,rfl,hrep,htot,hone,rfl,hq1,hq2⟩;dsimp only [zA,fA];skip)) | (refine k_gt rfl rfl (dTt oM) ?_) | (refine k_tt rfl (dTt ‹_›) ?_))
  have hob:=outR hw hrep
  unfold OutB at hob
  have cx_out:=c_outS hw hrep oM
  have e : (d - 1).toNat + 1 = d.toNat:=oM
  repeat' (first | refine jM ?_ | (refine jo ?_;(refine c_rt rfl rfl rfl cx_out rfl ?_)))
  exact k_rd (w1.out,d - 1,q1,G1) ⟨hgq.trans hle,by dsimp only;omega,⟨hone,by dsimp only;rw [e];omega⟩,by dsimp only;omega,by dsimp only;omega⟩ (by dsimp only;omega) tU rfl sRr
 ·have hx : t.length ≤ 150 ∨ d ≤ 0:=oM
  have hl : t.length ≤ 8480:=by
   rcases hx with hx | hx
   ·omega
   ·have e : d = 0:=oM
    subst e
    have : ctt (Int.toNat 0 + 1) = 4240:=by decide
    omega
  repeat' (first | (refine jR ?_) | (refine jo ?_;first | (refine jAt rfl ?_) | (refine jAf rfl ?_) | (refine c_m1g rfl rfl rfl (c_pick ?_ (by (repeat (assumption));done)) rfl ?_;(focus ((omega);done));rintro _ _ ⟨k,rfl,rfl,hk0,hk1⟩;dsimp only [zA,fA])) | refine k_g rfl rfl (fun _=>?_) (fun _=>?_) | (refine k_ff rfl (by first | rfl | (refine decide_eq_false ?_;(omega))) ?_) | refine k_if rfl (fun _=>?_) (fun _=>?_))
  all_goals refine Nx.base hok hB ?_
  all_goals (first | exact k_rr (vs:=[_]) rfl ⟨rfl,trivial⟩ rfl sRr ⟨rfl,_,_,rfl,by (omega),rfl,oM,oM⟩ | skip)
  all_goals (refine k_any (s_any (id:=11) [] (fun _ h=>absurd h (by simp)) mixed ?_);refine jW 7 [0,1,2,4,9,10,11,12] (bts 15 7703) ?_;refine x_all [3,5] kR dC ⟨?_,?_,trivial⟩;(focus (refine x_opg rfl rfl ?_;(refine jF fun _=>?_);refine jK (bts 15 7711) ?_;refine jA 5 rfl ?_;((refine c_m1g rfl rfl rfl (c_pick ?_ (by (repeat (assumption));done)) rfl ?_;(focus ((omega);done));rintro _ _ ⟨k,rfl,rfl,hk0,hk1⟩;dsimp only [zA,fA]));refine jK (bts 15 7743) ?_;((refine jG (bts 15 7807) 6 rfl (g_iaddr rfl rfl ?_) ?_;(focus ((omega);done))));refine jA 7 rfl ?_;((refine c_ldMS 64 rfl rfl rfl ?_ rfl (fun xs hxs=>?_);(focus ((simp only [List.length_append,List.length_cons,List.length_nil,List.length_take];omega);done))));refine jK (bts 15 7935) ?_;refine jW 0 [8,13,14] (bts 15 32767) ?_;refine jQ ?_));rotate_left 1;(focus (refine x_opg rfl rfl ?_;((refine c_m1g rfl rfl rfl (c_pick ?_ (by (repeat (assumption));done)) rfl ?_;(focus ((omega);done));rintro _ _ ⟨k,rfl,rfl,hk0,hk1⟩;dsimp only [zA,fA]));refine jK (bts 15 7735) ?_;refine jA 3 rfl ?_;(refine jF fun _=>?_);refine jK (bts 15 7743) ?_;((refine jG (bts 15 7807) 6 rfl (g_iaddr rfl rfl ?_) ?_;(focus ((omega);done))));refine jA 7 rfl ?_;((refine c_ldMS 64 rfl rfl rfl ?_ rfl (fun xs hxs=>?_);(focus ((simp only [List.length_append,List.length_cons,List.length_nil,List.length_take];omega);done))));refine jK (bts 15 7935) ?_;refine jW 0 [8,13,14] (bts 15 32767) ?_;refine jQ ?_));rotate_left 1)
  all_goals repeat' (refine jR ?_)
  all_goals exact k_rr (vs:=[_]) rfl ⟨rfl,trivial⟩ rfl sB ⟨rfl,_,_,rfl,by (simp only [List.length_append,List.length_cons,List.length_nil,List.length_take,List.length_drop];omega),rfl,oM,oM⟩
theorem c_l91Three {r : Nat} {code : Value} {p : Int} {l : List UInt8} (hp : 0 ≤ p ∧ p ≤ 400000000000) (hs : SlV G code 1 l.length (u8s l)) :
  FnG Tryz.prog 19 [Pt r 0] G [rdO r code p tRdr] (fun v L'=>∃ s k x q,v = Tu [S s,S k,S x] ∧ (s.length ≤ 20000 ∧ k.length ≤ 400 ∧ x.length ≤ 20000) ∧ L' = [rdO r code q tRdr] ∧ p ≤ q ∧ q ≤ p + 4000000):=by
 refine jH [(0,_)] Tryz.func19 Tryz.ntmps19 fun B hB hW=>?_
 repeat' (first | (refine jR ?_) | (refine jo ?_;first | (refine c_m1g rfl rfl rfl (c_l91Schema ?_ (by (repeat (assumption));done)) rfl ?_;(focus ((omega);done));rintro _ _ ⟨sc,q1,rfl,hsc,rfl,hq1,hq2⟩;dsimp only [zA,fA]) | (refine c_m1g rfl rfl rfl (c_l91Some ?_ (by (repeat (assumption));done) ?_) rfl ?_;(focus ((omega);done));(focus ((omega);done));rintro _ _ ⟨kd,q1,rfl,hkd,rfl,hq1,hq2⟩;dsimp only [zA,fA]) | (refine c_m1g rfl rfl rfl (c_l91Of ?_ (by (repeat (assumption));done) ?_ ?_) rfl ?_;(focus ((omega);done));(focus ((omega);done));(focus ((omega);done));rintro _ _ ⟨tx,q1,rfl,htx,rfl,hq1,hq2⟩;dsimp only [zA,fA])))
 exact k_rr (vs:=[_,_,_]) rfl ⟨rfl,rfl,rfl,trivial⟩ rfl sRr ⟨rfl,_,_,_,_,rfl,⟨oM,oM,oM⟩,rfl,oM,oM⟩
def leavesV (s k w : List UInt8) : Option (List (List UInt8)):=match givenV s k w with
 | some u=>if (u.leaves.all fun r=>decide (r.length ≤ 8)) = true then some (lvT [] u) else none
 | none=>none
theorem leaves_deep : ∀ (n : Nat) (v : V),v.tot ≤ n → ∀ r ∈ v.leaves,r.length ≤ n
 | 0,v,h,_,_=>by have:=tot_pos v;omega
 | n + 1,.nd w x t ks,h,r,hr=>by
  rw [nd_tot] at h
  rw [V.leaves] at hr
  split at hr
  ·simp only [List.mem_singleton] at hr;subst hr;simp
  ·split at hr
   ·have : ∀ (ks : List V),V.tots ks ≤ n → r ∈ V.leavesF ks → r.length ≤ n:=fun ks=>by
     induction ks with
     | nil=>intro _ hr;rw [V.leavesF] at hr;cases hr
     | cons v ks ih =>
      intro ht hr
      rw [V.tots] at ht
      rw [V.leavesF] at hr
      rcases List.mem_append.1 hr with hr | hr
      ·exact leaves_deep n v oM r hr
      ·exact ih oM hr
    have:=this ks oM hr
    omega
   ·obtain ⟨j,q,h1,rfl,h3⟩:=leavesS_mem hr
    have:=tot_nth h1
    have:=leaves_deep n (nth ks j) oM q h3
    simp only [List.length_cons];omega
theorem lvT_nth {u : V} {i : Nat} (h : i < u.leaves.length) : nth (lvT [] u) i = pathText (nth u.leaves i):=by
 unfold lvT
 rw [nth_eq (by simpa using h),nth_eq h];simp
theorem c_PathLeavesS {s k w : List UInt8} (h : s.length ≤ 1048576 ∧ k.length ≤ 1048576 ∧ w.length ≤ 1048576) : FnS Tryz.prog 16 [S s,S k,S w] G (fun v G'=>∃ a c ls,v = Tu [.slice a ls.length c,Bo (leavesV s k w).isSome] ∧ SlV G' (.slice a ls.length c) 1 ls.length (rows strF ls) ∧ (∀ l,leavesV s k w = some l → ls = l) ∧ (leavesV s k w = none → ls = [])):=by
 unfold leavesV
 cases hg : givenV s k w with
 | none =>
  have cx_l40:=c_l4Of0 (G:=G) h hg
  refine jB [(0,_),(1,_),(2,_)] Tryz.func16 Tryz.ntmps16 fun B hok hB hW=>?_
  repeat' (first | (refine jR ?_) | (refine jo ?_;first | refine jF fun _=>?_ | (refine c_fns rfl rfl rfl cx_l40 rfl ?_;rintro _ G hle ⟨uu,q1,rfl⟩;skip)) | (refine k_tt rfl rfl ?_))
  rename_i x
  refine Nx.blkAcc (m:=0) (sz:=1) .here rfl ?_
  refine Nx.sealS (v:=.slice (some ⟨x,0,none⟩) 0 0) fun G2 hG2 hsl=>?_
  refine jZ (vs:=[_,_]) rfl ⟨rfl,rfl,trivial⟩ rfl ⟨(Gh.le.trans aS hG2),rfl,?_⟩
  exact ⟨_,_,[],rfl,hsl,fun l h=>(by cases h),fun _=>rfl⟩
 | some u =>
  obtain ⟨ts,hs,hki,hvo,hto,hwf⟩:=given_some hg
  have hw:=schemaOf_w hs
  have cx_l4x:=c_l4OfX (G:=G) (s:=s) (k:=k) (w:=w) h hs hki hvo
  have hok:=leaves_ok hw (valOf_of_k hvo)
  have hdp:=leaves_deep u.tot u (Nat.le_refl _)
  have hll : (lvT [] u).length = u.size:=lvT_len
  have hl2 : u.leaves.length = u.size:=(size_leaves u).symm
  have hsz:=size_totL u
  dsimp only
  refine jB [(0,_),(1,_),(2,_)] Tryz.func16 Tryz.ntmps16 fun B hok hB hW=>?_
  repeat' (first | (refine jR ?_) | (refine jo ?_;first | refine jF fun _=>?_ | (refine c_fns rfl rfl rfl cx_l4x rfl ?_;rintro _ G hle ⟨av1,cv1,vs1,b1,rfl,hR1,hT1,hrep⟩;skip)) | (refine k_ff rfl rfl ?_))
  rename_i y
  subst hT1
  refine Nx.blkAcc (m:=0) (sz:=1) .here rfl ?_
  have cx_lv:=c_leavesS hw hrep [] (some ⟨y,0,none⟩) 0 0 [] rfl oM (by simp) (by simp only [List.length_nil];omega)
  repeat' (first | (refine jR ?_) | (refine jo ?_;(refine c_accg rfl rfl rfl cx_lv rfl ?_;rintro _ _ ⟨av,cv,rfl,rfl⟩;dsimp only [zA,fA])))
  rw [Nat.zero_add]
  have hle0:=hle
  refine Nx.sealS (v:=.slice av u.size cv) fun G2 hG2 hsl=>?_
  have hok8 : ∀ i,i < u.leaves.length → pathOf (nth (lvT [] u) i) = if (nth u.leaves i).length ≤ 8 then some (nth u.leaves i) else none:=fun i hi=>by
   rw [lvT_nth hi];exact pathOf_in (hok _ (nth_mem hi)).1
  have hxl : ∀ i,i < u.leaves.length → (nth (lvT [] u) i).length ≤ 1048576:=fun i hi=>by
   rw [lvT_nth hi]
   have h1:=pathText_len (hok _ (nth_mem hi)).1
   have h2:=hdp _ (nth_mem hi)
   omega
  have hall : (∀ i,i < u.leaves.length → (nth u.leaves i).length ≤ 8) → (u.leaves.all fun r=>decide (r.length ≤ 8)) = true:=fun h=>by
   rw [List.all_eq_true]
   intro r hr
   obtain ⟨i,hi,rfl⟩:=List.mem_iff_getElem.1 hr
   have:=h i hi
   rw [nth_eq hi] at this
   exact decide_eq_true this
  have hex : ∀ i,i < u.leaves.length → ¬ (nth u.leaves i).length ≤ 8 → (u.leaves.all fun r=>decide (r.length ≤ 8)) = false:=fun i hi h=>by
   cases hb : u.leaves.all fun r=>decide (r.length ≤ 8) with
   | false=>rfl
   | true =>
    rw [List.all_eq_true] at hb
    exact absurd (of_decide_eq_true (hb _ (nth_mem hi))) h
  clear cx_lv hok hdp
  generalize lvT [] u = xs at *
  generalize u.leaves = ls at *
  obtain ⟨obv,hob⟩ : ∃ b,(ls.all fun r=>decide (r.length ≤ 8)) = b:=⟨_,rfl⟩
  rw [hob]
  rw [hob] at hall
  rw [← hll] at hsl ⊢
  refine k_loop (ι:=Nat × Gh) (fun i=>(i.1 ≤ xs.length ∧ ∀ j,j < i.1 → (nth ls j).length ≤ 8) ∧ Gh.le G i.2 ∧ SlV i.2 (.slice av xs.length cv) 1 xs.length (rows strF xs)) (fun i=>[(11,.slice av xs.length cv),(12,I i.1)]) (fun i=>i.2) (fun i=>[]) (fun i=>xs.length - i.1) (0,G2) ?_ tU rfl sRr (fun i Hi=>?_)
  ·exact ⟨⟨Nat.zero_le _,fun j hj=>absurd hj (Nat.not_lt_zero _)⟩,hG2,hsl⟩
  obtain ⟨i,Gq⟩:=i
  dsimp only at Hi ⊢
  obtain ⟨⟨hi0,hj8⟩,hgq,hsq⟩:=Hi
  by_cases hi : i < xs.length
  ·obtain ⟨xb,xo,xc,e,hsx⟩:=hsq.expl oM
   simp only [Value.slice.injEq] at e
   obtain ⟨rfl,-,rfl⟩:=e
   have hxi : nth xs i = nth xs i:=rfl
   have hpo:=hok8 i oM
   by_cases h8 : (nth ls i).length ≤ 8
   ·rw [if_pos h8] at hpo
    have cx_sp:=steps_yes (hxl i oM) hpo
    repeat' (first | refine jM ?_ | (refine jo ?_;first | refine jV (g_lenL rfl) ?_ | (refine jV (g_iaddrN rfl rfl oM) ?_) | (refine jV (g_ldRS rfl rfl aS ?_) ?_;(focus ((omega);done))) | (refine c_fns rfl rfl rfl (cx_sp _) rfl ?_;rintro _ G hle ⟨sa,sc,sn,rfl,hsp⟩;skip)) | (refine k_tt rfl (dTt oM) ?_) | (refine k_ff rfl rfl ?_))
    exact k_rd (i + 1,_) ⟨⟨by dsimp only;omega,fun j hj=>by
     rcases Nat.lt_or_ge j i with h | h
     ·exact hj8 j h
     ·obtain rfl : j = i:=by dsimp only at hj;omega
      exact h8⟩,Gh.le.trans hgq aS,hsq.mono aS⟩ (by dsimp only;omega) tU rfl sRr
   ·rw [if_neg h8] at hpo
    have cx_sp:=steps_no (hxl i oM) hpo
    obtain rfl : obv = false:=by rw [← hob];exact hex i oM h8
    repeat' (first | (refine jR ?_) | (refine jo ?_;first | refine jF fun _=>?_ | refine jV (g_lenL rfl) ?_ | (refine jV (g_iaddrN rfl rfl oM) ?_) | (refine jV (g_ldRS rfl rfl aS ?_) ?_;(focus ((omega);done))) | (refine c_fns rfl rfl rfl (cx_sp _) rfl ?_;rintro _ G hle ⟨sa,sc,sn,rfl,hsp⟩;skip)) | (refine k_tt rfl (by first | rfl | (refine decide_eq_true ?_;(omega))) ?_))
    rename_i z
    refine Nx.blkAcc (m:=0) (sz:=1) .here rfl ?_
    refine Nx.sealS (v:=.slice (some ⟨z,0,none⟩) 0 0) fun G3 hG3 hsl3=>?_
    refine jZ (vs:=[_,_]) rfl ⟨rfl,rfl,trivial⟩ rfl ⟨(hle0.trans (hgq.trans (hle.trans hG3))),rfl,?_⟩
    exact ⟨_,_,[],rfl,hsl3,fun l h=>(by cases h),fun _=>rfl⟩
  ·obtain rfl : i = xs.length:=oM
   obtain rfl : obv = true:=hall fun j hj=>hj8 j oM
   repeat' (first | (refine jR ?_) | (refine jo ?_;(refine jV (g_lenL rfl) ?_)) | (refine k_ff rfl (dFf oM) ?_))
   refine jZ (vs:=[_,_]) rfl ⟨rfl,rfl,trivial⟩ rfl ⟨(hle0.trans hgq),rfl,?_⟩
   exact ⟨_,_,xs,rfl,hsq,fun l h=>by simpa using h,fun h=>(by cases h)⟩
theorem putB_at {α : Type} [Inhabited α] {tg : α → Int} {node : α} {tag : Int} {l : List α} {i : Nat} (hi : i < l.length) {d : Bool} : putB tg node tag (l.drop i) d = (if tag < tg (nth l i) ∧ d = false then [node] else []) ++ ((if tg (nth l i) = tag then [] else [nth l i]) ++ putB tg node tag (l.drop (i + 1)) (d || decide (tag < tg (nth l i)))):=by
 rw [List.drop_eq_getElem_cons hi,nth_eq hi,putB]
theorem putB_mem {α : Type} {tg : α → Int} {node : α} {tag : Int} {y : α} : ∀ {l : List α} {d : Bool},y ∈ putB tg node tag l d → y = node ∨ y ∈ l
 | [],d,h=>by
  unfold putB at h
  split at h
  ·simp at h
  ·exact .inl (by simpa using h)
 | z :: r,d,h=>by
  rw [putB] at h
  simp only [List.mem_append] at h
  rcases h with h | h | h
  ·split at h
   ·exact .inl (by simpa using h)
   ·simp at h
  ·split at h
   ·simp at h
   ·exact .inr (by simp at h;simp [h])
  ·exact (putB_mem h).imp id fun h=>by simp [h]
theorem putB_memT {α : Type} {tg : α → Int} {node : α} {tag : Int} {y : α} : ∀ {l : List α},y ∈ putB tg node tag l true → y ∈ l
 | [],h=>by simp [putB] at h
 | z :: r,h=>by
  rw [putB,if_neg (by simp),Bool.true_or,List.nil_append] at h
  rcases List.mem_append.1 h with h | h
  ·split at h
   ·simp at h
   ·simp at h;simp [h]
  ·simp [putB_memT h]
def tgP (p : (Fld × V) × Nat) : Int:=p.1.1.tag
def fvP (p : (Fld × V) × Nat) : V:=fldV p.1
theorem fvP_map {ps : List ((Fld × V) × Nat)} : ps.map fvP = (ps.map (·.1)).map fldV:=by rw [List.map_map];rfl
theorem recd_inv {ts : List Ty} {k : List UInt8} {t : Ty} {b : Nat} {vs : List V} (hr : RepR G ts (.nd 82 [] 0 vs) k b) (hrf : refT ts k = some t) : t.sort = 82 ∧ ∃ (ps : List ((Fld × V) × Nat)) (a a2 : Option Addr) (c c2 : Nat),vs = ps.map fvP ∧ Seg G b 0 [S k,S [82],.slice a ps.length c,.slice a2 ps.length c2] ∧ SlV G (.slice a ps.length c) 1 ps.length (rows inR (ps.map tgP)) ∧ SlV G (.slice a2 ps.length c2) 1 ps.length (rows ptR (ps.map (·.2))) ∧ ∀ p ∈ ps,p.1.1 ∈ t.fields ∧ RepR G ts p.1.2 p.1.1.kind p.2:=by
 cases hr with
 | leaf w x k tx b h1 h2=>rcases h2 with ⟨h,_⟩ | ⟨h,_⟩ | ⟨h,_⟩ <;> omega
 | recd k b t' fs bs a a2 c c2 h0 h1 h2 h3 h4 h5 hk =>
  obtain rfl : t' = t:=by rw [hrf] at h0;exact (Option.some.inj h0.1).symm
  have e1 : (fs.zip bs).map (·.1) = fs:=List.map_fst_zip oM
  have e2 : (fs.zip bs).map (·.2) = bs:=List.map_snd_zip oM
  have el : (fs.zip bs).length = fs.length:=by simp [h4]
  have e3 : (fs.zip bs).map tgP = fs.map fun p=>p.1.tag:=by
   rw [show tgP = (fun p : Fld × V=>p.1.tag) ∘ Prod.fst from rfl,← List.map_map,e1]
  refine ⟨h0.2,fs.zip bs,a,a2,c,c2,by rw [fvP_map,e1],by rw [el];exact h1,by rw [el,e3];exact h2,by rw [el,e2];exact h3,fun p hp=>?_⟩
  obtain ⟨i,hi,e⟩:=List.getElem_of_mem hp
  rw [List.getElem_zip] at e
  subst e
  have hi' : i < fs.length:=by rw [el] at hi;exact hi
  have g1:=hk i hi'
  have g2:=h5 i hi'
  rw [nth_eq hi',nth_eq oM] at g1
  rw [nth_eq hi'] at g2
  exact ⟨g2,g1⟩
theorem recd_mk {ts : List Ty} {k : List UInt8} {t : Ty} {b : Nat} {ps : List ((Fld × V) × Nat)} {a a2 : Option Addr} {c c2 : Nat} (hrf : refT ts k = some t) (hso : t.sort = 82) (h1 : Seg G b 0 [S k,S [82],.slice a ps.length c,.slice a2 ps.length c2]) (h2 : SlV G (.slice a ps.length c) 1 ps.length (rows inR (ps.map tgP))) (h3 : SlV G (.slice a2 ps.length c2) 1 ps.length (rows ptR (ps.map (·.2)))) (hm : ∀ p ∈ ps,p.1.1 ∈ t.fields ∧ RepR G ts p.1.2 p.1.1.kind p.2) : RepR G ts (.nd 82 [] 0 (ps.map fvP)) k b:=by
 have el : (ps.map (·.1)).length = ps.length:=by simp
 have hn1 : ∀ i,i < ps.length → nth (ps.map (·.1)) i = (nth ps i).1:=fun i hi=>by rw [nth_eq (by simpa using hi),nth_eq hi];simp
 have hn2 : ∀ i,i < ps.length → nth (ps.map (·.2)) i = (nth ps i).2:=fun i hi=>by rw [nth_eq (by simpa using hi),nth_eq hi];simp
 have e3 : (ps.map (·.1)).map (fun p : Fld × V=>p.1.tag) = ps.map tgP:=by rw [List.map_map];rfl
 rw [fvP_map]
 refine RepR.recd k b t (ps.map (·.1)) (ps.map (·.2)) a a2 c c2 ⟨hrf,hso⟩ (by rw [el];exact h1) (by rw [el,e3];exact h2) (by rw [el];exact h3) (by simp) (fun i hi=>?_) (fun i hi=>?_)
 ·rw [el] at hi
  rw [hn1 i hi];exact (hm _ (nth_mem hi)).1
 ·rw [el] at hi
  rw [hn1 i hi,hn2 i hi];exact (hm _ (nth_mem hi)).2
abbrev tIntW : TypeId:=3
abbrev tPtrW : TypeId:=63
section
variable {ts : List Ty} {k : List UInt8} {t : Ty} {b : Nat} {ps : List ((Fld × V) × Nat)} {a a2 : Option Addr} {c c2 : Nat}
theorem c_withN {node : (Fld × V) × Nat} {tag : Int} (hrf : refT ts k = some t) (hso : t.sort = 82) (h1 : Seg G b 0 [S k,S [82],.slice a ps.length c,.slice a2 ps.length c2]) (h2 : SlV G (.slice a ps.length c) 1 ps.length (rows inR (ps.map tgP))) (h3 : SlV G (.slice a2 ps.length c2) 1 ps.length (rows ptR (ps.map (·.2)))) (hm : ∀ p ∈ ps,p.1.1 ∈ t.fields ∧ RepR G ts p.1.2 p.1.1.kind p.2) (h9 : ps.length ≤ 100000) :
  FnS Tryz.prog 66 [Pt b 0,I tag,.pointer none] G (fun r G'=>∃ b',r = Pt b' 0 ∧ RepR G' ts (.nd 82 [] 0 ((putB tgP node tag ps true).map fvP)) k b'):=by
 have htl : (ps.map tgP).length = ps.length:=by simp
 have hbl : (ps.map (·.2)).length = ps.length:=by simp
 refine jB [(0,_),(1,_),(2,_)] Tryz.func66 Tryz.ntmps66 fun B hok hB hW=>?_
 repeat' (first | (refine jR ?_) | (refine jo ?_;(refine jV (g_peq0 rfl rfl) ?_)) | (refine k_any (s_any (id:=1) _ (fun _ h=>h) mixed ?_);refine jT 5 [0,1,2,4,5,6] (bts 11 119) ?_;(refine jG (bts 11 127) 3 rfl (g_ldS rfl rfl aS rfl rfl) ?_);(refine jG (bts 11 255) 7 rfl (g_ldS rfl rfl aS rfl rfl) ?_);(refine jG (bts 11 511) 8 rfl (g_bld rfl rfl) ?_);refine jA 9 rfl ?_;(refine jO fun _=>?_);refine jS (bts 11 1023) ?_;refine jT 0 [10] (bts 11 2047) ?_;refine jQ ?_))
 rename_i x
 refine Nx.addNil tIntW 1 (Nx.addNil tPtrW 1 ?_)
 refine k_loop (ι:=List ((Fld × V) × Nat) × Option Addr × Nat × Option Addr × Nat × Nat) (fun q=>(q.2.2.2.2.2 ≤ ps.length ∧ q.1.length ≤ q.2.2.2.2.2) ∧ putB tgP node tag ps true = q.1 ++ putB tgP node tag (ps.drop q.2.2.2.2.2) true) (fun q=>[(0,Pt b 0),(1,I tag),(7,Pt x 0),(8,Bo true),(9,I q.2.2.2.2.2)]) (fun _=>G) (fun q=>[.acc (.slice q.2.2.2.1 q.1.length q.2.2.2.2.1) tPtrW 1 q.1.length (rows ptR (q.1.map (·.2))),.acc (.slice q.2.1 q.1.length q.2.2.1) tIntW 1 q.1.length (rows inR (q.1.map tgP)),.blk x (.cells (List.toArray [S k,S [82],.slice q.2.1 q.1.length q.2.2.1,.slice q.2.2.2.1 q.1.length q.2.2.2.2.1]) tLv (0,0))]) (fun q=>ps.length - q.2.2.2.2.2) ([],none,0,none,0,0) ?_ tU rfl sRr (fun q Hq=>?_)
 ·exact ⟨⟨Nat.zero_le _,Nat.zero_le _⟩,rfl⟩
 obtain ⟨gs,a3,c3,a4,c4,i⟩:=q
 dsimp only at Hq ⊢
 obtain ⟨⟨hi0,hgl⟩,hinv⟩:=Hq
 by_cases hi : i < ps.length
 ·obtain ⟨xb,xo,xc,e,hs1⟩:=h2.expl oM
  simp only [Value.slice.injEq] at e
  obtain ⟨rfl,-,rfl⟩:=e
  obtain ⟨zb,zo,zc,e,hs2⟩:=h3.expl oM
  simp only [Value.slice.injEq] at e
  obtain ⟨rfl,-,rfl⟩:=e
  have hti : nth (ps.map tgP) i = tgP (nth ps i):=by rw [nth_eq oM,nth_eq hi];simp
  have hxi : nth (ps.map (·.2)) i = (nth ps i).2:=by rw [nth_eq oM,nth_eq hi];simp
  rw [putB_at hi,if_neg (by simp),List.nil_append,Bool.true_or] at hinv
  by_cases hne : tgP (nth ps i) = tag
  ·rw [if_pos hne,List.nil_append] at hinv
   repeat' (first | refine jM ?_ | (refine jo ?_;first | refine jV (g_ldS rfl rfl aS rfl rfl) ?_ | (refine jV (g_ldR1x rfl rfl aS ?_ aS rfl) ?_;(focus ((omega);done))) | refine jV (g_lenL rfl) ?_ | (refine jV (g_iaddrN rfl rfl oM) ?_) | (refine jAf rfl ?_)) | (refine k_gf rfl rfl rfl ?_) | (refine k_tt rfl (dTt oM) ?_) | (refine k_ff rfl (by first | rfl | (refine decide_eq_false ?_;(omega))) ?_))
   exact k_rd (gs,a3,c3,a4,c4,i + 1) ⟨⟨by dsimp only;omega,by dsimp only;omega⟩,hinv⟩ (by dsimp only;omega) tU rfl sRr
  ·rw [if_neg hne,← List.append_assoc] at hinv
   have hl1 : (gs ++ [nth ps i]).length = gs.length + 1:=by simp
   have hr1 : rows inR (gs.map tgP) ++ [I (tgP (nth ps i))] = rows inR ((gs ++ [nth ps i]).map tgP):=by rw [List.map_append];exact (rows_snoc inR _ (tgP (nth ps i))).symm
   have hr2 : rows ptR (gs.map (·.2)) ++ [Pt (nth ps i).2 0] = rows ptR ((gs ++ [nth ps i]).map (·.2)):=by rw [List.map_append];exact (rows_snoc ptR _ (nth ps i).2).symm
   repeat' (first | (refine jR ?_) | (refine jo ?_;first | refine jV (g_ldS rfl rfl aS rfl rfl) ?_ | (refine jV (g_ldR1x rfl rfl aS ?_ aS rfl) ?_;(focus ((omega);done))) | refine jV (g_lenL rfl) ?_ | (refine jV (g_iaddrN rfl rfl oM) ?_) | (refine jAf rfl ?_)) | (refine k_gf rfl rfl rfl ?_) | (refine k_tt rfl (by refine decide_eq_true ?_;first | assumption | omega) ?_) | (refine k_ff rfl rfl ?_))
   (refine k_any (s_any (id:=11) [] (fun _ h=>absurd h (by simp)) mixed ?_);refine jW 9 [0,1,2,3,5,6,7,9] (bts 17 751) ?_;(refine jG (bts 17 1007) 8 rfl (g_ldS rfl rfl aS rfl rfl) ?_);((refine jG (bts 17 2031) 10 rfl (g_iaddrN rfl rfl ?_) ?_;(focus ((omega);done))));((refine jG (bts 17 4079) 11 rfl (g_ldR1x rfl rfl aS ?_ aS rfl) ?_;(focus ((omega);done))));refine x_all [4,12] kR dC ⟨?_,?_,trivial⟩;(focus (refine x_opg rfl rfl ?_;(refine jAl rfl ?_);refine jK (bts 17 4095) ?_;refine jA 12 rfl ?_;(refine jF fun _=>?_);refine jK (bts 17 8191) ?_;refine jA 13 rfl ?_;((refine c_apX rfl rfl rfl rfl rfl rfl rfl rfl rfl ?_ fun _ _=>?_;(focus ((omega);done))));refine jK (bts 17 16383) ?_;refine jW 1 [14,15] (bts 17 65535) ?_;refine jA 16 rfl ?_;(refine jD rfl rfl rfl ?_);refine jK (bts 17 131071) ?_;refine jQ ?_));rotate_left 1;(focus (refine x_opg rfl rfl ?_;(refine jF fun _=>?_);refine jK (bts 17 8175) ?_;refine jA 4 rfl ?_;(refine jAl rfl ?_);refine jK (bts 17 8191) ?_;refine jA 13 rfl ?_;((refine c_apX rfl rfl rfl rfl rfl rfl rfl rfl rfl ?_ fun _ _=>?_;(focus ((omega);done))));refine jK (bts 17 16383) ?_;refine jW 1 [14,15] (bts 17 65535) ?_;refine jA 16 rfl ?_;(refine jD rfl rfl rfl ?_);refine jK (bts 17 131071) ?_;refine jQ ?_));rotate_left 1)
   all_goals repeat' (refine jR ?_)
   all_goals (refine k_any (s_any (id:=12) [] (fun _ h=>absurd h (by simp)) mixed ?_);refine jW 9 [0,1,2,3,5,6,7,9] (bts 17 751) ?_;(refine jG (bts 17 1007) 8 rfl (g_ldS rfl rfl aS rfl rfl) ?_);((refine jG (bts 17 2031) 10 rfl (g_iaddrN rfl rfl ?_) ?_;(focus ((omega);done))));((refine jG (bts 17 4079) 11 rfl (g_ldR1x rfl rfl aS ?_ aS rfl) ?_;(focus ((omega);done))));refine x_all [4,12] kR dC ⟨?_,?_,trivial⟩;(focus (refine x_opg rfl rfl ?_;(refine jAl rfl ?_);refine jK (bts 17 4095) ?_;refine jA 12 rfl ?_;(refine jF fun _=>?_);refine jK (bts 17 8191) ?_;refine jA 13 rfl ?_;((refine c_apX rfl rfl rfl rfl rfl rfl rfl rfl rfl ?_ fun _ _=>?_;(focus ((omega);done))));refine jK (bts 17 16383) ?_;refine jW 1 [14,15] (bts 17 65535) ?_;refine jA 16 rfl ?_;(refine jD rfl rfl rfl ?_);refine jK (bts 17 131071) ?_;refine jQ ?_));rotate_left 1;(focus (refine x_opg rfl rfl ?_;(refine jF fun _=>?_);refine jK (bts 17 8175) ?_;refine jA 4 rfl ?_;(refine jAl rfl ?_);refine jK (bts 17 8191) ?_;refine jA 13 rfl ?_;((refine c_apX rfl rfl rfl rfl rfl rfl rfl rfl rfl ?_ fun _ _=>?_;(focus ((omega);done))));refine jK (bts 17 16383) ?_;refine jW 1 [14,15] (bts 17 65535) ?_;refine jA 16 rfl ?_;(refine jD rfl rfl rfl ?_);refine jK (bts 17 131071) ?_;refine jQ ?_));rotate_left 1)
   all_goals repeat' (refine jM ?_)
   all_goals
    rename_i _ y1 yc1 _ y2 yc2
    rw [hr1,hr2]
    exact k_rd (gs ++ [nth ps i],some ⟨y1,0,none⟩,yc1,some ⟨y2,0,none⟩,yc2,i + 1) ⟨⟨by dsimp only;omega,by dsimp only;omega⟩,hinv⟩ (by dsimp only;omega) tU rfl (by rw [hl1];repeat (first | exact List.Sublist.refl _ | apply List.Sublist.cons_cons | apply List.Sublist.cons))
 ·rw [List.drop_eq_nil_of_le oM,show putB tgP node tag [] true = [] from rfl,List.append_nil] at hinv
  repeat' (first | (refine jR ?_) | (refine jo ?_;first | refine jV (g_ldS rfl rfl aS rfl rfl) ?_ | refine jV (g_lenL rfl) ?_) | (refine k_ff rfl (by first | rfl | (refine decide_eq_false ?_;(omega))) ?_))
  refine Nx.sealS (v:=.slice a3 gs.length c3) fun G2 hG2 hs1=>?_
  refine Nx.sealS (v:=.slice a4 gs.length c4) fun G3 hG3 hs2=>?_
  refine Nx.sealC (b:=x) fun G4 hG4 hsg=>?_
  refine jZ (vs:=[_]) rfl ⟨rfl,trivial⟩ rfl ⟨((hG2.trans hG3).trans hG4),rfl,?_⟩
  rw [hinv]
  exact ⟨x,rfl,recd_mk hrf hso hsg ((hs1.mono hG3).mono hG4) (hs2.mono hG4) fun p hp=>by
   rw [← hinv] at hp
   have hp:=putB_memT hp
   exact ⟨(hm p hp).1,((hm p hp).2).mono ((hG2.trans hG3).trans hG4)⟩⟩
theorem c_withY {f : Fld} {z : V} {zb : Nat} (hrf : refT ts k = some t) (hso : t.sort = 82) (h1 : Seg G b 0 [S k,S [82],.slice a ps.length c,.slice a2 ps.length c2]) (h2 : SlV G (.slice a ps.length c) 1 ps.length (rows inR (ps.map tgP))) (h3 : SlV G (.slice a2 ps.length c2) 1 ps.length (rows ptR (ps.map (·.2)))) (hm : ∀ p ∈ ps,p.1.1 ∈ t.fields ∧ RepR G ts p.1.2 p.1.1.kind p.2) (h9 : ps.length ≤ 100000) (hf : f ∈ t.fields) (hz : RepR G ts z f.kind zb) :
  FnS Tryz.prog 66 [Pt b 0,I f.tag,Pt zb 0] G (fun r G'=>∃ b',r = Pt b' 0 ∧ RepR G' ts (.nd 82 [] 0 ((putB tgP ((f,z),zb) f.tag ps false).map fvP)) k b'):=by
 have htl : (ps.map tgP).length = ps.length:=by simp
 have hbl : (ps.map (·.2)).length = ps.length:=by simp
 have hnd : tgP ((f,z),zb) = f.tag:=rfl
 have hap1 : ∀ (gs : List ((Fld × V) × Nat)) (p : (Fld × V) × Nat),rows inR (gs.map tgP) ++ [I (tgP p)] = rows inR ((gs ++ [p]).map tgP):=fun gs p=>by rw [List.map_append];exact (rows_snoc inR _ (tgP p)).symm
 have hap2 : ∀ (gs : List ((Fld × V) × Nat)) (p : (Fld × V) × Nat),rows ptR (gs.map (·.2)) ++ [Pt p.2 0] = rows ptR ((gs ++ [p]).map (·.2)):=fun gs p=>by rw [List.map_append];exact (rows_snoc ptR _ p.2).symm
 have hmem : ∀ {G' : Gh} {p : (Fld × V) × Nat},Gh.le G G' → p ∈ putB tgP ((f,z),zb) f.tag ps false → p.1.1 ∈ t.fields ∧ RepR G' ts p.1.2 p.1.1.kind p.2:=fun hle hp=>by
  rcases putB_mem hp with rfl | hp
  ·exact ⟨hf,hz.mono hle⟩
  ·exact ⟨(hm _ hp).1,((hm _ hp).2).mono hle⟩
 refine jB [(0,_),(1,_),(2,_)] Tryz.func66 Tryz.ntmps66 fun B hok hB hW=>?_
 repeat' (first | (refine jR ?_) | (refine jo ?_;(refine jV (g_peq0 rfl rfl) ?_)) | (refine k_any (s_any (id:=1) _ (fun _ h=>h) mixed ?_);refine jT 5 [0,1,2,4,5,6] (bts 11 119) ?_;(refine jG (bts 11 127) 3 rfl (g_ldS rfl rfl aS rfl rfl) ?_);(refine jG (bts 11 255) 7 rfl (g_ldS rfl rfl aS rfl rfl) ?_);(refine jG (bts 11 511) 8 rfl (g_bld rfl rfl) ?_);refine jA 9 rfl ?_;(refine jO fun _=>?_);refine jS (bts 11 1023) ?_;refine jT 0 [10] (bts 11 2047) ?_;refine jQ ?_))
 rename_i x
 refine Nx.addNil tIntW 1 (Nx.addNil tPtrW 1 ?_)
 refine k_loop (ι:=List ((Fld × V) × Nat) × Option Addr × Nat × Option Addr × Nat × Bool × Nat) (fun q=>(q.2.2.2.2.2.2 ≤ ps.length ∧ q.1.length ≤ 2 * q.2.2.2.2.2.2 + 1) ∧ putB tgP ((f,z),zb) f.tag ps false = q.1 ++ putB tgP ((f,z),zb) f.tag (ps.drop q.2.2.2.2.2.2) q.2.2.2.2.2.1) (fun q=>[(0,Pt b 0),(1,I f.tag),(2,Pt zb 0),(7,Pt x 0),(8,Bo q.2.2.2.2.2.1),(9,I q.2.2.2.2.2.2)]) (fun _=>G) (fun q=>[.acc (.slice q.2.2.2.1 q.1.length q.2.2.2.2.1) tPtrW 1 q.1.length (rows ptR (q.1.map (·.2))),.acc (.slice q.2.1 q.1.length q.2.2.1) tIntW 1 q.1.length (rows inR (q.1.map tgP)),.blk x (.cells (List.toArray [S k,S [82],.slice q.2.1 q.1.length q.2.2.1,.slice q.2.2.2.1 q.1.length q.2.2.2.2.1]) tLv (0,0))]) (fun q=>ps.length - q.2.2.2.2.2.2) ([],none,0,none,0,false,0) ?_ tU rfl sRr (fun q Hq=>?_)
 ·exact ⟨⟨Nat.zero_le _,Nat.zero_le _⟩,rfl⟩
 obtain ⟨gs,a3,c3,a4,c4,d,i⟩:=q
 dsimp only at Hq ⊢
 obtain ⟨⟨hi0,hgl⟩,hinv⟩:=Hq
 by_cases hi : i < ps.length
 ·obtain ⟨xb,xo,xc,e,hs1⟩:=h2.expl oM
  simp only [Value.slice.injEq] at e
  obtain ⟨rfl,-,rfl⟩:=e
  obtain ⟨zc,zo,zd,e,hs2⟩:=h3.expl oM
  simp only [Value.slice.injEq] at e
  obtain ⟨rfl,-,rfl⟩:=e
  have hti : nth (ps.map tgP) i = tgP (nth ps i):=by rw [nth_eq oM,nth_eq hi];simp
  have hxi : nth (ps.map (·.2)) i = (nth ps i).2:=by rw [nth_eq oM,nth_eq hi];simp
  rw [putB_at hi] at hinv
  have hl1 : (gs ++ [nth ps i]).length = gs.length + 1:=by simp
  have hl2 : (gs ++ [((f,z),zb)] ++ [nth ps i]).length = gs.length + 1 + 1:=by simp
  cases d with
  | true =>
   rw [if_neg (by simp),List.nil_append,Bool.true_or] at hinv
   by_cases hne : tgP (nth ps i) = f.tag
   ·rw [if_pos hne,List.nil_append] at hinv
    repeat' (first | refine jM ?_ | (refine jo ?_;first | refine jV (g_ldS rfl rfl aS rfl rfl) ?_ | (refine jV (g_ldR1x rfl rfl aS ?_ aS rfl) ?_;(focus ((omega);done))) | refine jV (g_lenL rfl) ?_ | (refine jV (g_iaddrN rfl rfl oM) ?_) | (refine jAf rfl ?_)) | (refine k_gf rfl rfl rfl ?_) | (refine k_tt rfl (dTt oM) ?_) | (refine k_ff rfl (by first | rfl | (refine decide_eq_false ?_;(omega))) ?_))
    exact k_rd (gs,a3,c3,a4,c4,true,i + 1) ⟨⟨by dsimp only;omega,by dsimp only;omega⟩,hinv⟩ (by dsimp only;omega) tU rfl sRr
   ·rw [if_neg hne,← List.append_assoc] at hinv
    repeat' (first | (refine jR ?_) | (refine jo ?_;first | refine jV (g_ldS rfl rfl aS rfl rfl) ?_ | (refine jV (g_ldR1x rfl rfl aS ?_ aS rfl) ?_;(focus ((omega);done))) | refine jV (g_lenL rfl) ?_ | (refine jV (g_iaddrN rfl rfl oM) ?_) | (refine jAf rfl ?_)) | (refine k_gf rfl rfl rfl ?_) | (refine k_tt rfl (by refine decide_eq_true ?_;first | assumption | omega) ?_) | (refine k_ff rfl rfl ?_))
    (refine k_any (s_any (id:=11) [] (fun _ h=>absurd h (by simp)) mixed ?_);refine jW 9 [0,1,2,3,5,6,7,9] (bts 17 751) ?_;(refine jG (bts 17 1007) 8 rfl (g_ldS rfl rfl aS rfl rfl) ?_);((refine jG (bts 17 2031) 10 rfl (g_iaddrN rfl rfl ?_) ?_;(focus ((omega);done))));((refine jG (bts 17 4079) 11 rfl (g_ldR1x rfl rfl aS ?_ aS rfl) ?_;(focus ((omega);done))));refine x_all [4,12] kR dC ⟨?_,?_,trivial⟩;(focus (refine x_opg rfl rfl ?_;(refine jAl rfl ?_);refine jK (bts 17 4095) ?_;refine jA 12 rfl ?_;(refine jF fun _=>?_);refine jK (bts 17 8191) ?_;refine jA 13 rfl ?_;((refine c_apX rfl rfl rfl rfl rfl rfl rfl rfl rfl ?_ fun _ _=>?_;(focus ((omega);done))));refine jK (bts 17 16383) ?_;refine jW 1 [14,15] (bts 17 65535) ?_;refine jA 16 rfl ?_;(refine jD rfl rfl rfl ?_);refine jK (bts 17 131071) ?_;refine jQ ?_));rotate_left 1;(focus (refine x_opg rfl rfl ?_;(refine jF fun _=>?_);refine jK (bts 17 8175) ?_;refine jA 4 rfl ?_;(refine jAl rfl ?_);refine jK (bts 17 8191) ?_;refine jA 13 rfl ?_;((refine c_apX rfl rfl rfl rfl rfl rfl rfl rfl rfl ?_ fun _ _=>?_;(focus ((omega);done))));refine jK (bts 17 16383) ?_;refine jW 1 [14,15] (bts 17 65535) ?_;refine jA 16 rfl ?_;(refine jD rfl rfl rfl ?_);refine jK (bts 17 131071) ?_;refine jQ ?_));rotate_left 1)
    all_goals repeat' (refine jR ?_)
    all_goals (refine k_any (s_any (id:=12) [] (fun _ h=>absurd h (by simp)) mixed ?_);refine jW 9 [0,1,2,3,5,6,7,9] (bts 17 751) ?_;(refine jG (bts 17 1007) 8 rfl (g_ldS rfl rfl aS rfl rfl) ?_);((refine jG (bts 17 2031) 10 rfl (g_iaddrN rfl rfl ?_) ?_;(focus ((omega);done))));((refine jG (bts 17 4079) 11 rfl (g_ldR1x rfl rfl aS ?_ aS rfl) ?_;(focus ((omega);done))));refine x_all [4,12] kR dC ⟨?_,?_,trivial⟩;(focus (refine x_opg rfl rfl ?_;(refine jAl rfl ?_);refine jK (bts 17 4095) ?_;refine jA 12 rfl ?_;(refine jF fun _=>?_);refine jK (bts 17 8191) ?_;refine jA 13 rfl ?_;((refine c_apX rfl rfl rfl rfl rfl rfl rfl rfl rfl ?_ fun _ _=>?_;(focus ((omega);done))));refine jK (bts 17 16383) ?_;refine jW 1 [14,15] (bts 17 65535) ?_;refine jA 16 rfl ?_;(refine jD rfl rfl rfl ?_);refine jK (bts 17 131071) ?_;refine jQ ?_));rotate_left 1;(focus (refine x_opg rfl rfl ?_;(refine jF fun _=>?_);refine jK (bts 17 8175) ?_;refine jA 4 rfl ?_;(refine jAl rfl ?_);refine jK (bts 17 8191) ?_;refine jA 13 rfl ?_;((refine c_apX rfl rfl rfl rfl rfl rfl rfl rfl rfl ?_ fun _ _=>?_;(focus ((omega);done))));refine jK (bts 17 16383) ?_;refine jW 1 [14,15] (bts 17 65535) ?_;refine jA 16 rfl ?_;(refine jD rfl rfl rfl ?_);refine jK (bts 17 131071) ?_;refine jQ ?_));rotate_left 1)
    all_goals repeat' (refine jM ?_)
    all_goals
     rename_i _ y1 yc1 _ y2 yc2
     rw [hap1,hap2]
     exact k_rd (gs ++ [nth ps i],some ⟨y1,0,none⟩,yc1,some ⟨y2,0,none⟩,yc2,true,i + 1) ⟨⟨by dsimp only;omega,by dsimp only;omega⟩,hinv⟩ (by dsimp only;omega) tU rfl (by rw [hl1];repeat (first | exact List.Sublist.refl _ | apply List.Sublist.cons_cons | apply List.Sublist.cons))
  | false =>
   rw [Bool.false_or] at hinv
   by_cases hgt : f.tag < tgP (nth ps i)
   ·rw [if_pos ⟨hgt,rfl⟩,decide_eq_true hgt,if_neg oM,← List.append_assoc,← List.append_assoc] at hinv
    have hne : ¬ tgP (nth ps i) = f.tag:=oM
    repeat' (first | (refine jR ?_) | (refine jo ?_;first | refine jAl rfl ?_ | refine jV (g_ldS rfl rfl aS rfl rfl) ?_ | (refine jV (g_ldR1x rfl rfl aS ?_ aS rfl) ?_;(focus ((omega);done))) | refine jV (g_lenL rfl) ?_ | (refine jV (g_iaddrN rfl rfl oM) ?_) | (refine jAt rfl ?_) | refine jF fun _=>?_ | (refine c_apX rfl rfl rfl rfl rfl rfl rfl rfl rfl oM fun _ _=>?_) | refine jD rfl rfl rfl ?_) | (refine k_gt rfl rfl rfl ?_) | (refine k_tt rfl (by refine decide_eq_true ?_;first | assumption | omega) ?_))
    (refine k_any (s_any (id:=11) [] (fun _ h=>absurd h (by simp)) mixed ?_);refine jW 9 [0,1,2,3,5,6,7,9] (bts 17 751) ?_;(refine jG (bts 17 1007) 8 rfl (g_ldS rfl rfl aS rfl rfl) ?_);((refine jG (bts 17 2031) 10 rfl (g_iaddrN rfl rfl ?_) ?_;(focus ((omega);done))));((refine jG (bts 17 4079) 11 rfl (g_ldR1x rfl rfl aS ?_ aS rfl) ?_;(focus ((omega);done))));refine x_all [4,12] kR dC ⟨?_,?_,trivial⟩;(focus (refine x_opg rfl rfl ?_;(refine jAl rfl ?_);refine jK (bts 17 4095) ?_;refine jA 12 rfl ?_;(refine jF fun _=>?_);refine jK (bts 17 8191) ?_;refine jA 13 rfl ?_;((refine c_apX rfl rfl rfl rfl rfl rfl rfl rfl rfl ?_ fun _ _=>?_;(focus ((omega);done))));refine jK (bts 17 16383) ?_;refine jW 1 [14,15] (bts 17 65535) ?_;refine jA 16 rfl ?_;(refine jD rfl rfl rfl ?_);refine jK (bts 17 131071) ?_;refine jQ ?_));rotate_left 1;(focus (refine x_opg rfl rfl ?_;(refine jF fun _=>?_);refine jK (bts 17 8175) ?_;refine jA 4 rfl ?_;(refine jAl rfl ?_);refine jK (bts 17 8191) ?_;refine jA 13 rfl ?_;((refine c_apX rfl rfl rfl rfl rfl rfl rfl rfl rfl ?_ fun _ _=>?_;(focus ((omega);done))));refine jK (bts 17 16383) ?_;refine jW 1 [14,15] (bts 17 65535) ?_;refine jA 16 rfl ?_;(refine jD rfl rfl rfl ?_);refine jK (bts 17 131071) ?_;refine jQ ?_));rotate_left 1)
    all_goals repeat' (refine jR ?_)
    all_goals (refine k_any (s_any (id:=12) [] (fun _ h=>absurd h (by simp)) mixed ?_);refine jW 9 [0,1,2,3,5,6,7,9] (bts 17 751) ?_;(refine jG (bts 17 1007) 8 rfl (g_ldS rfl rfl aS rfl rfl) ?_);((refine jG (bts 17 2031) 10 rfl (g_iaddrN rfl rfl ?_) ?_;(focus ((omega);done))));((refine jG (bts 17 4079) 11 rfl (g_ldR1x rfl rfl aS ?_ aS rfl) ?_;(focus ((omega);done))));refine x_all [4,12] kR dC ⟨?_,?_,trivial⟩;(focus (refine x_opg rfl rfl ?_;(refine jAl rfl ?_);refine jK (bts 17 4095) ?_;refine jA 12 rfl ?_;(refine jF fun _=>?_);refine jK (bts 17 8191) ?_;refine jA 13 rfl ?_;((refine c_apX rfl rfl rfl rfl rfl rfl rfl rfl rfl ?_ fun _ _=>?_;(focus ((omega);done))));refine jK (bts 17 16383) ?_;refine jW 1 [14,15] (bts 17 65535) ?_;refine jA 16 rfl ?_;(refine jD rfl rfl rfl ?_);refine jK (bts 17 131071) ?_;refine jQ ?_));rotate_left 1;(focus (refine x_opg rfl rfl ?_;(refine jF fun _=>?_);refine jK (bts 17 8175) ?_;refine jA 4 rfl ?_;(refine jAl rfl ?_);refine jK (bts 17 8191) ?_;refine jA 13 rfl ?_;((refine c_apX rfl rfl rfl rfl rfl rfl rfl rfl rfl ?_ fun _ _=>?_;(focus ((omega);done))));refine jK (bts 17 16383) ?_;refine jW 1 [14,15] (bts 17 65535) ?_;refine jA 16 rfl ?_;(refine jD rfl rfl rfl ?_);refine jK (bts 17 131071) ?_;refine jQ ?_));rotate_left 1)
    all_goals repeat' (refine jM ?_)
    all_goals
     rename_i _ y1 yc1 _ y2 yc2 _ y3 yc3 _ y4 yc4
     rw [show rows inR (gs.map tgP) ++ [I f.tag] = rows inR ((gs ++ [((f,z),zb)]).map tgP) from hap1 gs ((f,z),zb),show rows ptR (gs.map (·.2)) ++ [Pt zb 0] = rows ptR ((gs ++ [((f,z),zb)]).map (·.2)) from hap2 gs ((f,z),zb),hap1,hap2]
     exact k_rd (gs ++ [((f,z),zb)] ++ [nth ps i],some ⟨y3,0,none⟩,yc3,some ⟨y4,0,none⟩,yc4,true,i + 1) ⟨⟨by dsimp only;omega,by dsimp only;omega⟩,hinv⟩ (by dsimp only;omega) tU rfl (by rw [hl2];repeat (first | exact List.Sublist.refl _ | apply List.Sublist.cons_cons | apply List.Sublist.cons))
   ·rw [if_neg (by simp [hgt]),decide_eq_false hgt,List.nil_append] at hinv
    by_cases hne : tgP (nth ps i) = f.tag
    ·rw [if_pos hne,List.nil_append] at hinv
     repeat' (first | refine jM ?_ | (refine jo ?_;first | refine jV (g_ldS rfl rfl aS rfl rfl) ?_ | (refine jV (g_ldR1x rfl rfl aS ?_ aS rfl) ?_;(focus ((omega);done))) | refine jV (g_lenL rfl) ?_ | (refine jV (g_iaddrN rfl rfl oM) ?_) | (refine jAt rfl ?_)) | (refine k_gt rfl rfl rfl ?_) | (refine k_tt rfl (dTt oM) ?_) | (refine k_ff rfl (by refine decide_eq_false ?_;first | assumption | omega) ?_))
     exact k_rd (gs,a3,c3,a4,c4,false,i + 1) ⟨⟨by dsimp only;omega,by dsimp only;omega⟩,hinv⟩ (by dsimp only;omega) tU rfl sRr
    ·rw [if_neg hne,← List.append_assoc] at hinv
     repeat' (first | (refine jR ?_) | (refine jo ?_;first | refine jV (g_ldS rfl rfl aS rfl rfl) ?_ | (refine jV (g_ldR1x rfl rfl aS ?_ aS rfl) ?_;(focus ((omega);done))) | refine jV (g_lenL rfl) ?_ | (refine jV (g_iaddrN rfl rfl oM) ?_) | (refine jAt rfl ?_)) | (refine k_gt rfl rfl rfl ?_) | (refine k_tt rfl (by refine decide_eq_true ?_;first | assumption | omega) ?_) | (refine k_ff rfl (dFf ‹_›) ?_))
     (refine k_any (s_any (id:=11) [] (fun _ h=>absurd h (by simp)) mixed ?_);refine jW 9 [0,1,2,3,5,6,7,9] (bts 17 751) ?_;(refine jG (bts 17 1007) 8 rfl (g_ldS rfl rfl aS rfl rfl) ?_);((refine jG (bts 17 2031) 10 rfl (g_iaddrN rfl rfl ?_) ?_;(focus ((omega);done))));((refine jG (bts 17 4079) 11 rfl (g_ldR1x rfl rfl aS ?_ aS rfl) ?_;(focus ((omega);done))));refine x_all [4,12] kR dC ⟨?_,?_,trivial⟩;(focus (refine x_opg rfl rfl ?_;(refine jAl rfl ?_);refine jK (bts 17 4095) ?_;refine jA 12 rfl ?_;(refine jF fun _=>?_);refine jK (bts 17 8191) ?_;refine jA 13 rfl ?_;((refine c_apX rfl rfl rfl rfl rfl rfl rfl rfl rfl ?_ fun _ _=>?_;(focus ((omega);done))));refine jK (bts 17 16383) ?_;refine jW 1 [14,15] (bts 17 65535) ?_;refine jA 16 rfl ?_;(refine jD rfl rfl rfl ?_);refine jK (bts 17 131071) ?_;refine jQ ?_));rotate_left 1;(focus (refine x_opg rfl rfl ?_;(refine jF fun _=>?_);refine jK (bts 17 8175) ?_;refine jA 4 rfl ?_;(refine jAl rfl ?_);refine jK (bts 17 8191) ?_;refine jA 13 rfl ?_;((refine c_apX rfl rfl rfl rfl rfl rfl rfl rfl rfl ?_ fun _ _=>?_;(focus ((omega);done))));refine jK (bts 17 16383) ?_;refine jW 1 [14,15] (bts 17 65535) ?_;refine jA 16 rfl ?_;(refine jD rfl rfl rfl ?_);refine jK (bts 17 131071) ?_;refine jQ ?_));rotate_left 1)
     all_goals repeat' (refine jR ?_)
     all_goals (refine k_any (s_any (id:=12) [] (fun _ h=>absurd h (by simp)) mixed ?_);refine jW 9 [0,1,2,3,5,6,7,9] (bts 17 751) ?_;(refine jG (bts 17 1007) 8 rfl (g_ldS rfl rfl aS rfl rfl) ?_);((refine jG (bts 17 2031) 10 rfl (g_iaddrN rfl rfl ?_) ?_;(focus ((omega);done))));((refine jG (bts 17 4079) 11 rfl (g_ldR1x rfl rfl aS ?_ aS rfl) ?_;(focus ((omega);done))));refine x_all [4,12] kR dC ⟨?_,?_,trivial⟩;(focus (refine x_opg rfl rfl ?_;(refine jAl rfl ?_);refine jK (bts 17 4095) ?_;refine jA 12 rfl ?_;(refine jF fun _=>?_);refine jK (bts 17 8191) ?_;refine jA 13 rfl ?_;((refine c_apX rfl rfl rfl rfl rfl rfl rfl rfl rfl ?_ fun _ _=>?_;(focus ((omega);done))));refine jK (bts 17 16383) ?_;refine jW 1 [14,15] (bts 17 65535) ?_;refine jA 16 rfl ?_;(refine jD rfl rfl rfl ?_);refine jK (bts 17 131071) ?_;refine jQ ?_));rotate_left 1;(focus (refine x_opg rfl rfl ?_;(refine jF fun _=>?_);refine jK (bts 17 8175) ?_;refine jA 4 rfl ?_;(refine jAl rfl ?_);refine jK (bts 17 8191) ?_;refine jA 13 rfl ?_;((refine c_apX rfl rfl rfl rfl rfl rfl rfl rfl rfl ?_ fun _ _=>?_;(focus ((omega);done))));refine jK (bts 17 16383) ?_;refine jW 1 [14,15] (bts 17 65535) ?_;refine jA 16 rfl ?_;(refine jD rfl rfl rfl ?_);refine jK (bts 17 131071) ?_;refine jQ ?_));rotate_left 1)
     all_goals repeat' (refine jM ?_)
     all_goals
      rename_i _ y1 yc1 _ y2 yc2
      rw [hap1,hap2]
      exact k_rd (gs ++ [nth ps i],some ⟨y1,0,none⟩,yc1,some ⟨y2,0,none⟩,yc2,false,i + 1) ⟨⟨by dsimp only;omega,by dsimp only;omega⟩,hinv⟩ (by dsimp only;omega) tU rfl (by rw [hl1];repeat (first | exact List.Sublist.refl _ | apply List.Sublist.cons_cons | apply List.Sublist.cons))
 ·rw [List.drop_eq_nil_of_le oM] at hinv
  cases d with
  | true =>
   rw [show putB tgP ((f,z),zb) f.tag [] true = [] from rfl,List.append_nil] at hinv
   repeat' (first | (refine jR ?_) | (refine jo ?_;first | refine jV (g_ldS rfl rfl aS rfl rfl) ?_ | refine jV (g_lenL rfl) ?_) | (refine k_ff rfl (by first | rfl | (refine decide_eq_false ?_;(omega))) ?_))
   refine Nx.sealS (v:=.slice a3 gs.length c3) fun G2 hG2 hs1=>?_
   refine Nx.sealS (v:=.slice a4 gs.length c4) fun G3 hG3 hs2=>?_
   refine Nx.sealC (b:=x) fun G4 hG4 hsg=>?_
   refine jZ (vs:=[_]) rfl ⟨rfl,trivial⟩ rfl ⟨((hG2.trans hG3).trans hG4),rfl,?_⟩
   exact ⟨x,rfl,by rw [hinv];exact recd_mk hrf hso hsg ((hs1.mono hG3).mono hG4) (hs2.mono hG4) fun p hp=>hmem ((hG2.trans hG3).trans hG4) (by rw [hinv];exact hp)⟩
  | false =>
   rw [show putB tgP ((f,z),zb) f.tag [] false = [((f,z),zb)] from rfl] at hinv
   have hl1 : (gs ++ [((f,z),zb)]).length = gs.length + 1:=by simp
   repeat' (first | (refine jR ?_) | (refine jo ?_;first | refine jAl rfl ?_ | refine jV (g_ldS rfl rfl aS rfl rfl) ?_ | refine jV (g_lenL rfl) ?_ | refine jF fun _=>?_ | (refine c_apX rfl rfl rfl rfl rfl rfl rfl rfl rfl oM fun _ _=>?_) | refine jD rfl rfl rfl ?_) | (refine k_tt rfl rfl ?_) | (refine k_ff rfl (dFf oM) ?_))
   rename_i _ y1 yc1 _ y2 yc2
   rw [show rows inR (gs.map tgP) ++ [I f.tag] = rows inR ((gs ++ [((f,z),zb)]).map tgP) from hap1 gs ((f,z),zb),show rows ptR (gs.map (·.2)) ++ [Pt zb 0] = rows ptR ((gs ++ [((f,z),zb)]).map (·.2)) from hap2 gs ((f,z),zb),← hl1]
   refine Nx.sealS (v:=.slice (some ⟨y1,0,none⟩) (gs ++ [((f,z),zb)]).length yc1) fun G2 hG2 hs1=>?_
   refine Nx.sealS (v:=.slice (some ⟨y2,0,none⟩) (gs ++ [((f,z),zb)]).length yc2) fun G3 hG3 hs2=>?_
   refine Nx.sealC (b:=x) fun G4 hG4 hsg=>?_
   refine jZ (vs:=[_]) rfl ⟨rfl,trivial⟩ rfl ⟨((hG2.trans hG3).trans hG4),rfl,?_⟩
   exact ⟨x,rfl,by rw [hinv];exact recd_mk hrf hso hsg ((hs1.mono hG3).mono hG4) (hs2.mono hG4) fun p hp=>hmem ((hG2.trans hG3).trans hG4) (by rw [hinv];exact hp)⟩
end
end Go.E
namespace Go.E
set_option maxRecDepth 20000
set_option maxHeartbeats 2000000
open Go.Proofs
variable {ts : List Ty}
theorem fldT_tag' {fs : List Fld} {n : Int} {d : Fld} (h : fldT fs n = some d) : d.tag = n ∧ d ∈ fs:=⟨by have:=List.find?_some h;simpa using this,List.mem_of_find?_eq_some h⟩
theorem tots_set : ∀ {ks : List V} {i : Nat} {y : V},i < ks.length → V.tots (ks.set i y) + (nth ks i).tot = V.tots ks + y.tot
 | [],i,y,h=>by simp at h
 | v :: ks,0,y,_=>by rw [List.set_cons_zero,V.tots,V.tots,show nth (v :: ks) 0 = v from rfl];omega
 | v :: ks,i + 1,y,h=>by
  have:=tots_set (ks:=ks) (i:=i) (y:=y) (by simpa using h)
  rw [List.set_cons_succ,V.tots,V.tots,show nth (v :: ks) (i + 1) = nth ks i from rfl];omega
theorem nf_tot {f : Fld} {y : V} : V.tots (nf ts f y) ≤ 20 + y.tot:=by
 unfold nf
 split
 ·simp [V.tots]
 ·simp [V.tots,nd_tot]
theorem putF_tot {f : Fld} {y : V} : ∀ {vs : List V},V.tots (putF ts f y vs) ≤ V.tots vs + 20 + y.tot
 | []=>by rw [putF_nil];have:=nf_tot (ts:=ts) (f:=f) (y:=y);simp only [V.tots];omega
 | v :: vs=>by
  have h1:=nf_tot (ts:=ts) (f:=f) (y:=y)
  have h2:=putF_tot (f:=f) (y:=y) (vs:=vs)
  rw [putF_cons]
  split
  ·rw [V.tots,V.tots];omega
  ·rw [tots_app]
   split
   ·rw [V.tots];omega
   ·rw [V.tots];omega
theorem kid0_tot (v : V) : (nth v.kids 0).tot ≤ v.tot:=by
 obtain ⟨w,x,t,ks⟩:=v
 rw [nd_tot,V.kids]
 cases ks with
 | nil =>
  have : (nth ([] : List V) 0).tot = 20:=by show V.tot (.nd 0 [] 0 []) = 20;rw [nd_tot];simp [V.tots]
  omega
 | cons u ks=>rw [V.tots,show nth (u :: ks) 0 = u from rfl];omega
theorem putF_tot2 {f : Fld} {y u : V} : ∀ {vs : List V},Srt vs → toldV f vs = some u → V.tots (putF ts f y vs) + u.tot ≤ V.tots vs + 20 + y.tot
 | [],_,h=>by cases h
 | v :: vs,hs,h=>by
  replace hs:=List.pairwise_cons.1 hs
  have h1:=nf_tot (ts:=ts) (f:=f) (y:=y)
  rw [toldV] at h
  rw [putF_cons]
  by_cases he : v.tag = f.tag
  ·rw [if_pos he] at h
   simp only [Option.some.injEq] at h
   have h3:=kid0_tot v
   rw [h] at h3
   rw [if_neg oM,if_pos he,tots_app,V.tots];omega
  ·rw [if_neg he] at h
   by_cases hl : v.tag < f.tag
   ·have h2:=putF_tot2 (y:=y) hs.2 h
    rw [if_pos hl,V.tots,V.tots];omega
   ·rw [toldV_gt fun z hz=>by have:=hs.1 z hz;omega] at h
    cases h
theorem setV_tot (hw : SchW ts) {k : List UInt8} {v : V} (h : OfK ts k v) (hk : kindIn ts k = true) {n : Int} (hn : 0 ≤ n) {k1 : List UInt8} {v1 : V} (e : stepV ts k v n = some (k1,v1)) (y : V) :
  (setV ts k v n y).tot + v1.tot ≤ v.tot + 40 + y.tot ∨ (v1.tot ≤ 40000 ∧ (setV ts k v n y).tot ≤ v.tot + 40 + y.tot):=by
 obtain ⟨c,r,rfl⟩:=kind_ne hk
 unfold stepV at e
 dsimp only at e
 split at e
 ·rename_i hc
  split at e
  ·rename_i hlt
   simp only [Option.some.injEq,Prod.mk.injEq] at e
   obtain ⟨rfl,rfl⟩:=e
   rcases ofK_inv_c h oM with ⟨g1,_⟩ | ⟨g1,_⟩ | ⟨g1,_⟩ | ⟨g1,ks,g2,g3,rfl⟩ | ⟨g1,rfl | ⟨u,g3,rfl⟩⟩
   ·omega
   ·omega
   ·omega
   ·rw [V.kids] at hlt ⊢
    have hs:=tots_set (ks:=ks) (i:=n.toNat) (y:=y) oM
    unfold setV
    rw [V.what,if_neg dC,if_pos rfl,V.kids,nd_tot,nd_tot]
    left;omega
   ·simp [V.kids] at hlt;omega
   ·simp [V.kids] at hlt
    obtain rfl : n = 0:=oM
    unfold setV
    rw [V.what,if_neg dC,if_neg dC,V.kids,nd_tot,nd_tot]
    left
    simp only [V.tots]
    show 20 + _ + (y.tot + 0) + u.tot ≤ _
    omega
  ·cases e
 ·split at e
  ·cases e
  ·rename_i t hr
   have ht:=refT_mem hr
   split at e
   ·cases e
   ·rename_i f hf
    have hfm:=List.mem_of_find?_eq_some hf
    split at e
    ·cases e
    ·rename_i h69
     split at e
     ·rename_i h82
      simp only [Option.some.injEq,Prod.mk.injEq] at e
      obtain ⟨rfl,rfl⟩:=e
      rcases ofK_inv_t h hr with ⟨_,fs,rfl,g3,g4,g5,g6⟩ | ⟨g1,_⟩ | ⟨g1,_⟩
      ·have e1 : setV ts (c :: r) (.nd 82 [] 0 (fs.map fldV)) n y = .nd 82 [] 0 (putF ts f y (fs.map fldV)):=by
        unfold setV;rw [V.what,if_pos rfl,hr]
        dsimp only
        rw [hf];rfl
       rw [e1,nd_tot,nd_tot]
       unfold getV
       rw [V.kids]
       cases hto : toldV f (fs.map fldV) with
       | none =>
        have h1:=putF_tot (ts:=ts) (f:=f) (y:=y) (vs:=fs.map fldV)
        have h2:=standV_tot hw ht h69 hfm
        right
        refine ⟨h2,?_⟩
        omega
       | some u =>
        have h1:=putF_tot2 (ts:=ts) (y:=y) (srt_fs g6) hto
        left
        show _ + u.tot ≤ _
        omega
      ·omega
      ·omega
     ·rename_i h82
      split at e
      ·simp only [Option.some.injEq,Prod.mk.injEq] at e
       obtain ⟨rfl,rfl⟩:=e
       rcases ofK_inv_t h hr with ⟨h1,_⟩ | ⟨h1,_⟩ | ⟨_,_,d,u,rfl,g4,g5⟩
       ·omega
       ·omega
       ·unfold setV
        rw [V.what,if_neg dC,if_neg dC,V.kids,nd_tot,nd_tot]
        left
        simp only [V.tots]
        show 20 + _ + (y.tot + 0) + u.tot ≤ _
        omega
      ·cases e
theorem changeV_tot (hw : SchW ts) : ∀ {p : List Int} {k : List UInt8} {v y : V} {k' : List UInt8} {v' : V},OfK ts k v → kindIn ts k = true → (∀ n ∈ p,0 ≤ n) → followV ts k v p = some (k',v') → (changeV ts k v p y).tot ≤ v.tot + 40040 * p.length + y.tot
 | [],k,v,y,k',v',h,hk,_,e=>by rw [changeV];omega
 | n :: p,k,v,y,k',v',h,hk,hp,e=>by
  unfold followV at e
  cases hs : stepV ts k v n with
  | none=>rw [hs] at e;cases e
  | some x =>
   rw [hs] at e
   obtain ⟨k1,v1⟩:=x
   have hn:=hp n (by simp)
   obtain ⟨h1,h2⟩:=stepV_ok hw h hk hn hs
   have ih:=changeV_tot hw (y:=y) h1 h2 (fun m hm=>hp m (by simp [hm])) e
   rw [changeV_cons hs,List.length_cons]
   rcases setV_tot hw h hk hn hs (changeV ts k1 v1 p y) with g | ⟨g1,g2⟩
   ·omega
   ·omega
end Go.E
namespace Go.E
set_option maxRecDepth 20000
set_option maxHeartbeats 2000000
open Go.Proofs
variable {G : Gh}
theorem putB_put {ts : List Ty} {f : Fld} {z : V} {zb : Nat} {ps : List ((Fld × V) × Nat)} {vs : List V} (e : vs = ps.map fvP) (hs : Srt vs) {d : Bool} (hd : d = decide (z.out = standF ts f)) : (putB tgP ((f,z),zb) f.tag ps d).map fvP = putF ts f z vs:=by
 rw [putB_map (tg:=tgP) (tg':=V.tag) (h:=fvP) (fun _=>rfl),← e,hd]
 exact putB_eq hs
theorem cut_ints {b o c : Nat} {n : Int} {p : List Int} (h : SlV G (.slice (some ⟨b,o,none⟩) (n :: p).length c) 1 (n :: p).length (rows inR (n :: p))) : SlV G (.slice (some ⟨b,slO o c (Int.toNat 1) 1,none⟩) ((n :: p).length - Int.toNat 1) (c - Int.toNat 1)) 1 p.length (rows inR p):=by
 have h1:=h.cutAt (m:=Int.toNat 1) (by show 1 ≤ p.length + 1;omega)
 exact h1
theorem nth_set {α : Type} [Inhabited α] {l : List α} {m i : Nat} {x : α} (hi : i < l.length) : nth (l.set m x) i = if m = i then x else nth l i:=by
 rw [nth_eq (by rw [List.length_set];exact hi),nth_eq hi,List.getElem_set]
theorem slv_cap {b o m c sz : Nat} {xs : List Value} (h : SlV G (.slice (some ⟨b,o,none⟩) m c) sz m xs) (hm : 1 ≤ m) : 1 ≤ c:=by
 obtain ⟨_,⟨h2,_⟩ | ⟨b',o',c',e,hc,_⟩⟩:=h
 ·cases h2
 ·simp only [Value.slice.injEq] at e
  omega
abbrev tPtrS : TypeId:=63
section
variable {u : Value} {vs : List TyX} {k1 : List UInt8} {v1 z : V} {n : Int} {p : List Int} {pb po pc b yb : Nat}
theorem c_setRec (h : SchR G u vs) (hw : SchW (tys vs)) {k : List UInt8} {fs : List (Fld × V)} {t : Ty} {f : Fld} (hki : kindIn (tys vs) k = true) (hrf : refT (tys vs) k = some t) (hg : fldT t.fields n = some f) (hk1 : k1 = f.kind) (hsr : Srt (fs.map fldV)) (hfs : fs.length ≤ 100000) (hn : 0 ≤ n ∧ n ≤ 999999) (hp : SlV G (.slice (some ⟨pb,po,none⟩) (n :: p).length pc) 1 (n :: p).length (rows inR (n :: p)))
  (hr : RepR G (tys vs) (.nd 82 [] 0 (fs.map fldV)) k b) (hpl : p.length ≤ 100) (hzt : z.tot ≤ 10000000000)
  (cx_sty : FnS Tryz.prog 60 [u,Pt b 0,I n] G (fun r G'=>∃ b',r = Tu [Pt b' 0,Bo true] ∧ RepR G' (tys vs) v1 k1 b'))
  (ihz : ∀ {G2 : Gh} {b1 : Nat},Gh.le G G2 → RepR G2 (tys vs) v1 k1 b1 → FnS Tryz.prog 35 [u,Pt b1 0,.slice (some ⟨pb,slO po pc (Int.toNat 1) 1,none⟩) ((n :: p).length - Int.toNat 1) (pc - Int.toNat 1),Pt yb 0] G2 (fun r G'=>∃ b',r = Tu [Pt b' 0,Bo true] ∧ RepR G' (tys vs) z k1 b')) :
  FnS Tryz.prog 35 [u,Pt b 0,.slice (some ⟨pb,po,none⟩) (n :: p).length pc,Pt yb 0] G (fun r G'=>∃ b',r = Tu [Pt b' 0,Bo true] ∧ RepR G' (tys vs) (.nd 82 [] 0 (putF (tys vs) f z (fs.map fldV))) k b'):=by
 have hu:=h.sl.one
 obtain ⟨ua,uc,rfl⟩:=h.sl.sl
 obtain ⟨hso,ps,a,a2,c,c2,e,h1,h2,h3,hm⟩:=recd_inv hr hrf
 have hTW:=hw.ty _ (refT_mem hrf)
 have hkk:=kindOk_kOk (kindIn_ok hki)
 obtain ⟨r,rfl⟩:=refT_64 hrf
 have hk0 : bt (64 :: r) (Int.toNat 0) = 64:=bt_zero 64 r
 have hkl2 : (64 :: r).length = r.length + 1:=rfl
 have hpl0 : (n :: p).length = p.length + 1:=rfl
 have hti : nth (n :: p) (Int.toNat 0) = n:=rfl
 have hvl : vs.length ≤ 8:=by have:=hw.len;unfold tys at this;simpa using this
 have href:=refV_ty vs (64 :: r)
 rcases hrv : refV vs (64 :: r) with _ | x
 ·rw [hrv,hrf] at href;cases href
 rw [hrv] at href
 have htx : x.2 = t:=by rw [hrf] at href;exact Option.some.inj href
 subst htx
 have hxm:=refV_mem hrv
 have hfl:=hTW.len
 obtain ⟨hft,hfm⟩:=fldT_tag' hg
 have hdk : kindIn (tys vs) f.kind = true:=kind_in hw (refT_mem hrf) oM hfm
 have hpsl : ps.length ≤ 100000:=by
  have e1 : (fs.map fldV).length = ps.length:=by rw [e];simp
  simp at e1;omega
 obtain ⟨G0,rfl⟩ : ∃ G0,G0 = G:=⟨G,rfl⟩
 have hg0 : Gh.le G0 G0:=Gh.le.refl _
 have hsx : Seg G0 pb po (rows inR (n :: p)):=by
  obtain ⟨b',o',c',e',hs'⟩:=hp.expl (by simp)
  simp only [Value.slice.injEq,Option.some.injEq,Addr.mk.injEq] at e'
  obtain ⟨⟨rfl,rfl,_⟩,_,rfl⟩:=e'
  exact hs'
 refine jB [(0,_),(1,_),(2,_),(3,_)] Tryz.func35 Tryz.ntmps35 fun B hok hB hW=>?_
 repeat' (first | (refine jR ?_) | (refine jo ?_;first | refine jV (g_lenL rfl) ?_ | (refine jV (g_iaddr rfl rfl oM) ?_) | (refine jV (g_ldRFx rfl rfl aS ?_ aS rfl rfl) ?_;(focus ((omega);done))) | (refine jV (g_slV rfl rfl oM) ?_) | (refine c_fns rfl rfl rfl cx_sty rfl ?_;rintro _ G hle ⟨b1,rfl,hrep1⟩;(have hg0:=hg0.trans hle);(have h1:=h1.mono hle);(have h2:=h2.mono hle);(have h3:=h3.mono hle);(have h:=h.mono hle);(try have hrep1:=RepR.mono hle hrep1);(try have hrepz:=RepR.mono hle hrepz))) | (refine k_ff rfl rfl ?_))
 have cx_set:=ihz hg0 hrep1
 repeat' (first | refine jM ?_ | (refine jo ?_;first | refine jV (g_ldS rfl rfl aS rfl rfl) ?_ | (refine jAt rfl ?_) | (refine c_fns rfl rfl rfl cx_set rfl ?_;rintro _ G hle ⟨bz,rfl,hrepz⟩;(have hg0:=hg0.trans hle);(have h1:=h1.mono hle);(have h2:=h2.mono hle);(have h3:=h3.mono hle);(have h:=h.mono hle);(try have hrep1:=RepR.mono hle hrep1);(try have hrepz:=RepR.mono hle hrepz))) | (refine k_gt rfl rfl rfl ?_) | (refine k_tt rfl rfl ?_) | (refine k_ff rfl rfl ?_))
 have cx_rf:=c_ref (k:=64 :: r) h oM hkk.1 oM
 rw [hrv] at cx_rf
 have cx_rec:=c_l4Record (n:=n) hu (h.fl x hxm) oM cx_rf hso
 rw [hg] at cx_rec
 simp only [Option.getD_some,Option.isSome_some] at cx_rec
 have cx_out:=c_outS hw hrepz oM
 have cx_sta:=c_standS (f:=f) h hw hdk
 subst hk1
 have hm2 : ∀ q ∈ ps,q.1.1 ∈ x.2.fields ∧ RepR G (tys vs) q.1.2 q.1.1.kind q.2:=fun q hq=>⟨(hm q hq).1,((hm q hq).2).mono hg0⟩
 by_cases hst : z.out = standF (tys vs) f
 ·have cx_wi:=c_withN (node:=((f,z),0)) (tag:=f.tag) hrf hso h1 h2 h3 hm2 hpsl
  rw [putB_put e hsr (decide_eq_true hst).symm,hft] at cx_wi
  repeat' (first | (refine jR ?_) | (refine jo ?_;first | refine jL fun _=>?_ | refine jC rfl rfl rfl ?_ | (refine c_rt rfl rfl rfl cx_rec rfl ?_) | (refine c_fns rfl rfl rfl cx_wi rfl ?_;rintro _ G hle ⟨bw,rfl,hrepw⟩;(have hg0:=hg0.trans hle);(have h1:=h1.mono hle);(have h2:=h2.mono hle);(have h3:=h3.mono hle);(have h:=h.mono hle);(try have hrep1:=RepR.mono hle hrep1);(try have hrepz:=RepR.mono hle hrepz))) | (refine k_tt rfl (dTt ‹_›) ?_) | (refine k_any (s_any (id:=12) _ (fun _ h=>h) mixed ?_);refine jT 4 [0,2] (bts 6 5) ?_;(refine jG (bts 6 13) 3 rfl (g_ldA rfl rfl rfl rfl) ?_);refine jA 1 rfl ?_;(refine c_rt rfl rfl rfl cx_out rfl ?_);refine jS (bts 6 15) ?_;refine jA 4 rfl ?_;(refine c_rt rfl rfl rfl cx_sta rfl ?_);refine jS (bts 6 31) ?_;refine jT 0 [5] (bts 6 63) ?_;refine jQ ?_))
  all_goals refine jZ (vs:=[_,_]) rfl ⟨rfl,rfl,trivial⟩ rfl ⟨hg0,rfl,?_⟩
  all_goals exact ⟨_,rfl,hrepw⟩
 ·have cx_wi:=c_withY (f:=f) (z:=z) hrf hso h1 h2 h3 hm2 hpsl hfm hrepz
  rw [putB_put e hsr (decide_eq_false hst).symm,hft] at cx_wi
  repeat' (first | (refine jR ?_) | (refine jo ?_;first | refine jL fun _=>?_ | refine jC rfl rfl rfl ?_ | (refine c_rt rfl rfl rfl cx_rec rfl ?_) | (refine c_fns rfl rfl rfl cx_wi rfl ?_;rintro _ G hle ⟨bw,rfl,hrepw⟩;(have hg0:=hg0.trans hle);(have h1:=h1.mono hle);(have h2:=h2.mono hle);(have h3:=h3.mono hle);(have h:=h.mono hle);(try have hrep1:=RepR.mono hle hrep1);(try have hrepz:=RepR.mono hle hrepz))) | (refine k_ff rfl (dFf ‹_›) ?_) | (refine k_any (s_any (id:=12) _ (fun _ h=>h) mixed ?_);refine jT 4 [0,2] (bts 6 5) ?_;(refine jG (bts 6 13) 3 rfl (g_ldA rfl rfl rfl rfl) ?_);refine jA 1 rfl ?_;(refine c_rt rfl rfl rfl cx_out rfl ?_);refine jS (bts 6 15) ?_;refine jA 4 rfl ?_;(refine c_rt rfl rfl rfl cx_sta rfl ?_);refine jS (bts 6 31) ?_;refine jT 0 [5] (bts 6 63) ?_;refine jQ ?_))
  all_goals refine jZ (vs:=[_,_]) rfl ⟨rfl,rfl,trivial⟩ rfl ⟨hg0,rfl,?_⟩
  all_goals exact ⟨_,rfl,hrepw⟩
theorem setN_take {bs : List Nat} {i m : Nat} {zb : Nat} (hi : i < bs.length) : ((bs.set m zb).take (i + 1)) = (bs.set m zb).take i ++ [if i = m then zb else nth bs i]:=by
 rw [take_nth (by rw [List.length_set];exact hi)]
 congr 2
 rw [nth_eq (by rw [List.length_set];exact hi),nth_eq hi,List.getElem_set]
 by_cases h : m = i
 ·rw [if_pos h,if_pos h.symm]
 ·rw [if_neg h,if_neg (fun e=>h e.symm)]
theorem c_setKid (hu : u.oneCell' = true) {c0 : UInt8} {k : List UInt8} {bs : List Nat} {a : Option Addr} {c : Nat} {m : Nat} (hc0 : c0 = 91 ∨ c0 = 63) (hnm : n = (m : Nat)) (hm : m < bs.length) (hbs : bs.length ≤ 100000) (hn : 0 ≤ n ∧ n ≤ 999999) (hp : SlV G (.slice (some ⟨pb,po,none⟩) (n :: p).length pc) 1 (n :: p).length (rows inR (n :: p)))
  (h1 : Seg G b 0 [S (c0 :: k),S [],nilS,.slice a bs.length c]) (h2 : SlV G (.slice a bs.length c) 1 bs.length (rows ptR bs)) (hpl : p.length ≤ 100) {ts : List Ty}
  (cx_sty : FnS Tryz.prog 60 [u,Pt b 0,I n] G (fun r G'=>∃ b',r = Tu [Pt b' 0,Bo true] ∧ RepR G' ts v1 k1 b'))
  (ihz : ∀ {G2 : Gh} {b1 : Nat},Gh.le G G2 → RepR G2 ts v1 k1 b1 → FnS Tryz.prog 35 [u,Pt b1 0,.slice (some ⟨pb,slO po pc (Int.toNat 1) 1,none⟩) ((n :: p).length - Int.toNat 1) (pc - Int.toNat 1),Pt yb 0] G2 (fun r G'=>∃ b',r = Tu [Pt b' 0,Bo true] ∧ RepR G' ts z k1 b')) :
  FnS Tryz.prog 35 [u,Pt b 0,.slice (some ⟨pb,po,none⟩) (n :: p).length pc,Pt yb 0] G (fun r G'=>∃ b' zb kb cc,r = Tu [Pt b' 0,Bo true] ∧ RepR G' ts z k1 zb ∧ Gh.le G G' ∧ Seg G' b' 0 [S (c0 :: k),S [],nilS,.slice (some ⟨kb,0,none⟩) bs.length cc] ∧ SlV G' (.slice (some ⟨kb,0,none⟩) bs.length cc) 1 bs.length (rows ptR (bs.set m zb))):=by
 have hk0 : bt (c0 :: k) (Int.toNat 0) = c0.toNat:=bt_zero c0 k
 have hc64 : ¬ c0.toNat = 64:=by rcases hc0 with rfl | rfl <;> decide
 have hkl2 : (c0 :: k).length = k.length + 1:=rfl
 have hpl0 : (n :: p).length = p.length + 1:=rfl
 have hti : nth (n :: p) (Int.toNat 0) = n:=rfl
 obtain ⟨G0,rfl⟩ : ∃ G0,G0 = G:=⟨G,rfl⟩
 have hg0 : Gh.le G0 G0:=Gh.le.refl _
 have hsx : Seg G0 pb po (rows inR (n :: p)):=by
  obtain ⟨b',o',c',e',hs'⟩:=hp.expl (by simp)
  simp only [Value.slice.injEq,Option.some.injEq,Addr.mk.injEq] at e'
  obtain ⟨⟨rfl,rfl,_⟩,_,rfl⟩:=e'
  exact hs'
 obtain ⟨xb,xo,xc,e,hs1⟩:=h2.expl oM
 simp only [Value.slice.injEq] at e
 obtain ⟨rfl,-,rfl⟩:=e
 refine jB [(0,_),(1,_),(2,_),(3,_)] Tryz.func35 Tryz.ntmps35 fun B hok hB hW=>?_
 repeat' (first | (refine jR ?_) | (refine jo ?_;first | refine jV (g_lenL rfl) ?_ | (refine jV (g_iaddr rfl rfl oM) ?_) | refine jV (g_ldS rfl rfl aS rfl rfl) ?_ | (refine jV (g_slV rfl rfl oM) ?_) | (refine c_fns rfl rfl rfl cx_sty rfl ?_;rintro _ G hle ⟨b1,rfl,hrep1⟩;(have hg0:=hg0.trans hle);(have h1:=h1.mono hle);(have h2:=h2.mono hle);(have hs1:=hs1.mono hle);(try have hrep1:=RepR.mono hle hrep1);(try have hrepz:=RepR.mono hle hrepz))) | (refine k_ff rfl rfl ?_))
 have cx_set:=ihz hg0 hrep1
 repeat' (first | (refine jR ?_) | (refine jo ?_;first | refine jV (g_ldS rfl rfl aS rfl rfl) ?_ | (refine jAf rfl ?_) | (refine c_fns rfl rfl rfl cx_set rfl ?_;rintro _ G hle ⟨bz,rfl,hrepz⟩;(have hg0:=hg0.trans hle);(have h1:=h1.mono hle);(have h2:=h2.mono hle);(have hs1:=hs1.mono hle);(try have hrep1:=RepR.mono hle hrep1);(try have hrepz:=RepR.mono hle hrepz))) | (refine k_gf rfl rfl rfl ?_) | (refine k_ff rfl rfl ?_) | (refine k_any (s_any (id:=15) _ (fun _ h=>h) mixed ?_);refine jT 6 [0,1,2,4,5,6,8,9,10] (bts 15 1911) ?_;(refine jG (bts 15 1919) 3 rfl (g_ldS rfl rfl aS rfl rfl) ?_);(refine jG (bts 15 2047) 7 rfl (g_ldS rfl rfl aS rfl rfl) ?_);(refine jG (bts 15 4095) 11 rfl (g_ldS rfl rfl aS rfl rfl) ?_);(refine jG (bts 15 8191) 12 rfl (g_bld rfl rfl) ?_);refine jA 13 rfl ?_;(refine jO fun _=>?_);refine jS (bts 15 16383) ?_;refine jT 0 [14] (bts 15 32767) ?_;refine jQ ?_))
 rename_i x
 refine Nx.addNil tPtrS 1 ?_
 have hsl : ∀ zb : Nat,(bs.set m zb).length = bs.length:=fun zb=>List.length_set
 refine k_loop (ι:=Option Addr × Nat × Nat) (fun q=>q.2.2 ≤ bs.length) (fun q=>[(1,Pt b 0),(10,I n),(13,Pt bz 0),(17,Pt x 0),(18,I q.2.2)]) (fun _=>G) (fun q=>[.acc (.slice q.1 q.2.2 q.2.1) tPtrS 1 q.2.2 (rows ptR ((bs.set m bz).take q.2.2)),.blk x (.cells (List.toArray [S (c0 :: k),S [],nilS,.slice q.1 q.2.2 q.2.1]) tLv (0,0))]) (fun q=>bs.length - q.2.2) (none,0,0) ?_ tU rfl sRr (fun q Hq=>?_)
 ·exact Nat.zero_le _
 obtain ⟨a3,c3,i⟩:=q
 dsimp only at Hq ⊢
 by_cases hi : i < bs.length
 ·have hxi : nth bs i = nth bs i:=rfl
  have hst:=setN_take (m:=m) (zb:=bz) hi
  by_cases him : i = m
  ·rw [if_pos him] at hst
   have hin : ((i : Nat) : Int) = n:=oM
   repeat' (first | refine jM ?_ | (refine jo ?_;first | refine jV (g_lenL rfl) ?_ | refine jAl rfl ?_ | refine jV (g_ldS rfl rfl aS rfl rfl) ?_ | (refine jAt rfl ?_) | refine jD rfl rfl rfl ?_ | refine jF fun _=>?_ | (refine c_apX rfl rfl rfl rfl rfl rfl rfl rfl rfl oM fun _ _=>?_)) | (refine k_gt rfl rfl (dTt ‹_›) ?_) | (refine k_tt rfl (by first | rfl | (refine decide_eq_true ?_;(omega))) ?_))
   rename_i y1 yc1
   rw [show rows ptR ((bs.set m bz).take i) ++ [Pt bz 0] = rows ptR ((bs.set m bz).take (i + 1)) by rw [hst,rows_snoc];rfl]
   exact k_rd (some ⟨y1,0,none⟩,yc1,i + 1) (by dsimp only;omega) (by dsimp only;omega) tU rfl sB
  ·rw [if_neg him] at hst
   have hin : ¬ ((i : Nat) : Int) = n:=oM
   repeat' (first | (refine jR ?_) | (refine jo ?_;first | refine jV (g_lenL rfl) ?_ | refine jV (g_ldS rfl rfl aS rfl rfl) ?_ | (refine jAf rfl ?_)) | (refine k_gf rfl rfl (by first | rfl | (refine decide_eq_false ?_;(assumption))) ?_) | (refine k_tt rfl (dTt oM) ?_) | (refine k_ff rfl rfl ?_))
   (refine k_any (s_any (id:=21) [] (fun _ h=>absurd h (by simp)) mixed ?_);refine jW 9 [0,1,2,3,5,6,7,9] (bts 17 751) ?_;(refine jG (bts 17 1007) 8 rfl (g_ldS rfl rfl aS rfl rfl) ?_);((refine jG (bts 17 2031) 10 rfl (g_iaddrN rfl rfl ?_) ?_;(focus ((omega);done))));((refine jG (bts 17 4079) 11 rfl (g_ldR1x rfl rfl aS ?_ aS rfl) ?_;(focus ((omega);done))));refine x_all [4,12] kR dC ⟨?_,?_,trivial⟩;(focus (refine x_opg rfl rfl ?_;(refine jAl rfl ?_);refine jK (bts 17 4095) ?_;refine jA 12 rfl ?_;(refine jF fun _=>?_);refine jK (bts 17 8191) ?_;refine jA 13 rfl ?_;((refine c_apX rfl rfl rfl rfl rfl rfl rfl rfl rfl ?_ fun _ _=>?_;(focus ((omega);done))));refine jK (bts 17 16383) ?_;refine jW 1 [14,15] (bts 17 65535) ?_;refine jA 16 rfl ?_;(refine jD rfl rfl rfl ?_);refine jK (bts 17 131071) ?_;refine jQ ?_));rotate_left 1;(focus (refine x_opg rfl rfl ?_;(refine jF fun _=>?_);refine jK (bts 17 8175) ?_;refine jA 4 rfl ?_;(refine jAl rfl ?_);refine jK (bts 17 8191) ?_;refine jA 13 rfl ?_;((refine c_apX rfl rfl rfl rfl rfl rfl rfl rfl rfl ?_ fun _ _=>?_;(focus ((omega);done))));refine jK (bts 17 16383) ?_;refine jW 1 [14,15] (bts 17 65535) ?_;refine jA 16 rfl ?_;(refine jD rfl rfl rfl ?_);refine jK (bts 17 131071) ?_;refine jQ ?_));rotate_left 1)
   all_goals repeat' (refine jM ?_)
   all_goals
    rename_i _ y1 yc1
    rw [show rows ptR ((bs.set m bz).take i) ++ [Pt (nth bs i) 0] = rows ptR ((bs.set m bz).take (i + 1)) by rw [hst,rows_snoc];rfl]
    exact k_rd (some ⟨y1,0,none⟩,yc1,i + 1) (by dsimp only;omega) (by dsimp only;omega) tU rfl sB
 ·have hib : i = bs.length:=by have : i ≤ bs.length:=Hq;omega
  subst hib
  rw [List.take_of_length_le (by rw [hsl];exact Nat.le_refl _)]
  repeat' (first | (refine jR ?_) | (refine jo ?_;first | refine jV (g_lenL rfl) ?_ | refine jV (g_ldS rfl rfl aS rfl rfl) ?_) | (refine k_ff rfl (dFf oM) ?_))
  refine Nx.shp (.head _) fun hsh=>?_
  obtain ⟨kb,kc,e9⟩:=hsh.pos oM
  simp only [Value.slice.injEq] at e9
  obtain ⟨rfl,-,rfl⟩:=e9
  refine Nx.sealS (v:=.slice (some ⟨kb,0,none⟩) bs.length c3) fun G2 hG2 hs3=>?_
  refine Nx.sealC (b:=x) fun G4 hG4 hsg=>?_
  refine jZ (vs:=[_,_]) rfl ⟨rfl,rfl,trivial⟩ rfl ⟨(hg0.trans (hG2.trans hG4)),rfl,?_⟩
  exact ⟨x,bz,kb,c3,rfl,hrepz.mono (hG2.trans hG4),hg0.trans (hG2.trans hG4),hsg,hs3.mono hG4⟩
theorem c_setUni (hu : u.oneCell' = true) {r : List UInt8} {tgb wb0 kb0 cc tc : Nat} {tg : Int} (hcc : 1 ≤ cc) (hn : 0 ≤ n ∧ n ≤ 999999) (hp : SlV G (.slice (some ⟨pb,po,none⟩) (n :: p).length pc) 1 (n :: p).length (rows inR (n :: p)))
  (h1 : Seg G b 0 [S (64 :: r),S [85],.slice (some ⟨tgb,0,none⟩) 1 (tc + 1),.slice (some ⟨kb0,0,none⟩) 1 cc]) (h2 : Seg G tgb 0 [I tg]) (h3 : Seg G kb0 0 [Pt wb0 0]) (hpl : p.length ≤ 100) {ts : List Ty}
  (cx_sty : FnS Tryz.prog 60 [u,Pt b 0,I n] G (fun r G'=>∃ b',r = Tu [Pt b' 0,Bo true] ∧ RepR G' ts v1 k1 b'))
  (ihz : ∀ {G2 : Gh} {b1 : Nat},Gh.le G G2 → RepR G2 ts v1 k1 b1 → FnS Tryz.prog 35 [u,Pt b1 0,.slice (some ⟨pb,slO po pc (Int.toNat 1) 1,none⟩) ((n :: p).length - Int.toNat 1) (pc - Int.toNat 1),Pt yb 0] G2 (fun r G'=>∃ b',r = Tu [Pt b' 0,Bo true] ∧ RepR G' ts z k1 b')) :
  FnS Tryz.prog 35 [u,Pt b 0,.slice (some ⟨pb,po,none⟩) (n :: p).length pc,Pt yb 0] G (fun rr G'=>∃ b' zb kb cc,rr = Tu [Pt b' 0,Bo true] ∧ RepR G' ts z k1 zb ∧ 1 ≤ cc ∧ Seg G' b' 0 [S (64 :: r),S [85],.slice (some ⟨tgb,0,none⟩) 1 (tc + 1),.slice (some ⟨kb,0,none⟩) 1 cc] ∧ Seg G' tgb 0 [I tg] ∧ Seg G' kb 0 [Pt zb 0]):=by
 have hk0 : bt (64 :: r) (Int.toNat 0) = 64:=bt_zero 64 r
 have hkl2 : (64 :: r).length = r.length + 1:=rfl
 have hpl0 : (n :: p).length = p.length + 1:=rfl
 have hti : nth (n :: p) (Int.toNat 0) = n:=rfl
 obtain ⟨G0,rfl⟩ : ∃ G0,G0 = G:=⟨G,rfl⟩
 have hg0 : Gh.le G0 G0:=Gh.le.refl _
 have hsx : Seg G0 pb po (rows inR (n :: p)):=by
  obtain ⟨b',o',c',e',hs'⟩:=hp.expl (by simp)
  simp only [Value.slice.injEq,Option.some.injEq,Addr.mk.injEq] at e'
  obtain ⟨⟨rfl,rfl,_⟩,_,rfl⟩:=e'
  exact hs'
 refine jB [(0,_),(1,_),(2,_),(3,_)] Tryz.func35 Tryz.ntmps35 fun B hok hB hW=>?_
 repeat' (first | (refine jR ?_) | (refine jo ?_;first | refine jV (g_lenL rfl) ?_ | (refine jV (g_iaddr rfl rfl oM) ?_) | (refine jV (g_ldRFx rfl rfl aS ?_ aS rfl rfl) ?_;(focus ((omega);done))) | (refine jV (g_slV rfl rfl oM) ?_) | (refine c_fns rfl rfl rfl cx_sty rfl ?_;rintro _ G hle ⟨b1,rfl,hrep1⟩;(have hg0:=hg0.trans hle);(have h1:=h1.mono hle);(have h2:=h2.mono hle);(have h3:=h3.mono hle);(try have hrep1:=RepR.mono hle hrep1);(try have hrepz:=RepR.mono hle hrepz))) | (refine k_ff rfl rfl ?_))
 have cx_set:=ihz hg0 hrep1
 repeat' (first | (refine jR ?_) | (refine jo ?_;first | refine jV (g_ldS rfl rfl aS rfl rfl) ?_ | (refine jAf rfl ?_) | (refine c_fns rfl rfl rfl cx_set rfl ?_;rintro _ G hle ⟨bz,rfl,hrepz⟩;(have hg0:=hg0.trans hle);(have h1:=h1.mono hle);(have h2:=h2.mono hle);(have h3:=h3.mono hle);(try have hrep1:=RepR.mono hle hrep1);(try have hrepz:=RepR.mono hle hrepz))) | (refine k_gf rfl rfl rfl ?_) | (refine k_ff rfl rfl ?_) | (refine k_any (s_any (id:=15) _ (fun _ h=>h) mixed ?_);refine jT 6 [0,1,2,4,5,6,8,9,10] (bts 15 1911) ?_;(refine jG (bts 15 1919) 3 rfl (g_ldS rfl rfl aS rfl rfl) ?_);(refine jG (bts 15 2047) 7 rfl (g_ldS rfl rfl aS rfl rfl) ?_);(refine jG (bts 15 4095) 11 rfl (g_ldS rfl rfl aS rfl rfl) ?_);(refine jG (bts 15 8191) 12 rfl (g_bld rfl rfl) ?_);refine jA 13 rfl ?_;(refine jO fun _=>?_);refine jS (bts 15 16383) ?_;refine jT 0 [14] (bts 15 32767) ?_;refine jQ ?_))
 rename_i x
 refine Nx.addNil tPtrS 1 ?_
 refine k_loop (ι:=Option Addr × Nat × Nat) (fun q=>q.2.2 ≤ 1) (fun q=>[(1,Pt b 0),(10,I n),(13,Pt bz 0),(17,Pt x 0),(18,I q.2.2)]) (fun _=>G) (fun q=>[.acc (.slice q.1 q.2.2 q.2.1) tPtrS 1 q.2.2 (rows ptR (List.replicate q.2.2 bz)),.blk x (.cells (List.toArray [S (64 :: r),S [85],.slice (some ⟨tgb,0,none⟩) 1 (tc + 1),.slice q.1 q.2.2 q.2.1]) tLv (0,0))]) (fun q=>1 - q.2.2) (none,0,0) ?_ tU rfl sRr (fun q Hq=>?_)
 ·exact Nat.zero_le _
 obtain ⟨a3,c3,i⟩:=q
 dsimp only at Hq ⊢
 by_cases hi : i < 1
 ·have hi0 : i = 0:=oM
  subst hi0
  have hrr : rows ptR (List.replicate 0 bz) ++ [Pt bz 0] = rows ptR (List.replicate 1 bz):=rfl
  by_cases hn0 : ((0 : Nat) : Int) = n
  ·repeat' (first | refine jM ?_ | (refine jo ?_;first | refine jV (g_lenL rfl) ?_ | refine jAl rfl ?_ | refine jV (g_ldS rfl rfl aS rfl rfl) ?_ | (refine jAt rfl ?_) | refine jD rfl rfl rfl ?_ | refine jF fun _=>?_ | (refine c_apX rfl rfl rfl rfl rfl rfl rfl rfl rfl oM fun _ _=>?_)) | (refine k_gt rfl rfl (dTt ‹_›) ?_) | (refine k_tt rfl rfl ?_))
   rename_i y1 yc1
   rw [hrr]
   exact k_rd (some ⟨y1,0,none⟩,yc1,1) (Nat.le_refl _) (by dsimp only;omega) tU rfl sB
  ·repeat' (first | refine jM ?_ | (refine jo ?_;first | refine jV (g_lenL rfl) ?_ | refine jAl rfl ?_ | refine jV (g_ldS rfl rfl aS rfl rfl) ?_ | (refine jAt rfl ?_) | (refine jAf rfl ?_) | refine jD rfl rfl rfl ?_ | refine jF fun _=>?_ | (refine c_apX rfl rfl rfl rfl rfl rfl rfl rfl rfl oM fun _ _=>?_)) | (refine k_gt rfl rfl rfl ?_) | (refine k_gf rfl rfl (dFf ‹_›) ?_) | (refine k_tt rfl rfl ?_))
   rename_i y1 yc1
   rw [hrr]
   exact k_rd (some ⟨y1,0,none⟩,yc1,1) (Nat.le_refl _) (by dsimp only;omega) tU rfl sB
 ·have hib : i = 1:=oM
  subst hib
  repeat' (first | (refine jR ?_) | (refine jo ?_;first | refine jV (g_lenL rfl) ?_ | refine jV (g_ldS rfl rfl aS rfl rfl) ?_) | (refine k_ff rfl rfl ?_))
  refine Nx.shp (.head _) fun hsh=>?_
  obtain ⟨kb,kc,e9⟩:=hsh.pos oM
  simp only [Value.slice.injEq] at e9
  obtain ⟨rfl,-,rfl⟩:=e9
  refine Nx.sealS (v:=.slice (some ⟨kb,0,none⟩) 1 c3) fun G2 hG2 hs3=>?_
  refine Nx.sealC (b:=x) fun G4 hG4 hsg=>?_
  refine jZ (vs:=[_,_]) rfl ⟨rfl,rfl,trivial⟩ rfl ⟨(hg0.trans (hG2.trans hG4)),rfl,?_⟩
  obtain ⟨kb',ko',kc',e9,hs9⟩:=hs3.expl oM
  simp only [Value.slice.injEq,Option.some.injEq,Addr.mk.injEq] at e9
  obtain ⟨⟨rfl,rfl,-⟩,-,rfl⟩:=e9
  exact ⟨x,bz,kb,c3,rfl,hrepz.mono (hG2.trans hG4),slv_cap (hs3.mono hG4) oM,hsg,h2.mono (hG2.trans hG4),hs9.mono hG4⟩
end
theorem c_setS {vs : List TyX} (hw : SchW (tys vs)) : ∀ (p : List Int) {G : Gh} {u pv : Value} {k : List UInt8} {v y : V} {b yb : Nat} {k' : List UInt8} {v' : V},SchR G u vs → SlV G pv 1 p.length (rows inR p) → (∀ n ∈ p,0 ≤ n ∧ n ≤ 999999) → p.length ≤ 8 → RepR G (tys vs) v k b → OfK (tys vs) k v → kindIn (tys vs) k = true → v.tot ≤ 400000 → followV (tys vs) k v p = some (k',v') → RepR G (tys vs) y k' yb → OfK (tys vs) k' y → y.tot ≤ 200000000 →
  FnS Tryz.prog 35 [u,Pt b 0,pv,Pt yb 0] G (fun r G'=>∃ b',r = Tu [Pt b' 0,Bo true] ∧ RepR G' (tys vs) (changeV (tys vs) k v p y) k b')
 | [],G,u,pv,k,v,y,b,yb,k',v',h,hp,hpn,hpl,hr,ho,hki,htt,hf,hy,hoy,hyt=>by
  simp only [followV,Option.some.injEq,Prod.mk.injEq] at hf
  obtain ⟨rfl,rfl⟩:=hf
  obtain ⟨pa,pc,rfl⟩:=hp.sl
  have hl0 : ([] : List Int).length = 0:=rfl
  rw [changeV]
  refine jB [(0,_),(1,_),(2,_),(3,_)] Tryz.func35 Tryz.ntmps35 fun B hok hB hW=>?_
  repeat' (first | (refine jR ?_) | (refine jo ?_;(refine jV (g_lenL rfl) ?_)) | (refine k_tt rfl rfl ?_))
  all_goals refine jZ (vs:=[_,_]) rfl ⟨rfl,rfl,trivial⟩ rfl ⟨Gh.le.refl _,rfl,?_⟩
  all_goals exact ⟨yb,rfl,hy⟩
 | n :: p,G,u,pv,k,v,y,b,yb,k',v',h,hp,hpn,hpl,hr,ho,hki,htt,hf,hy,hoy,hyt=>by
  obtain ⟨pb,po,pc,rfl,_⟩:=hp.expl (by simp)
  have hn:=hpn n (by simp)
  have hpn2 : ∀ m ∈ p,0 ≤ m ∧ m ≤ 999999:=fun m hm=>hpn m (by simp [hm])
  have hpl2 : p.length ≤ 8:=by simp at hpl;omega
  unfold followV at hf
  cases hs : stepV (tys vs) k v n with
  | none=>rw [hs] at hf;cases hf
  | some x =>
   rw [hs] at hf
   obtain ⟨k1,v1⟩:=x
   dsimp only at hf
   obtain ⟨g1,g2⟩:=stepV_ok hw ho hki hn.1 hs
   have g3:=stepV_tot hw ho hki hn.1 hs (N:=400000) htt oM
   have g4:=changeV_tot hw (y:=y) g1 g2 (fun m hm=>(hpn2 m hm).1) hf
   have cx_sty:=StepP.yes (c_stepS h hw hr ho hki hn oM) hs
   have hcut:=cut_ints hp
   have ihz : ∀ {G2 : Gh} {b1 : Nat},Gh.le G G2 → RepR G2 (tys vs) v1 k1 b1 → FnS Tryz.prog 35 [u,Pt b1 0,.slice (some ⟨pb,slO po pc (Int.toNat 1) 1,none⟩) ((n :: p).length - Int.toNat 1) (pc - Int.toNat 1),Pt yb 0] G2 (fun r G'=>∃ b',r = Tu [Pt b' 0,Bo true] ∧ RepR G' (tys vs) (changeV (tys vs) k1 v1 p y) k1 b'):=fun hle hr1 =>
    c_setS hw p (h.mono hle) (hcut.mono hle) hpn2 hpl2 hr1 g1 g2 g3 hf (hy.mono hle) hoy hyt
   rw [changeV_cons hs]
   have hu:=h.sl.one
   cases hrf : refT (tys vs) k with
   | none =>
    obtain ⟨c,kr,rfl⟩:=kind_ne hki
    by_cases hc : c.toNat = 91 ∨ c.toNat = 63
    ·have hst:=stepV_kid (ts:=tys vs) (c:=c) (r:=kr) (v:=v) (n:=n) hc
     rw [hs] at hst
     by_cases hlt : n < ((v.kids.length : Nat) : Int)
     ·rw [if_pos hlt] at hst
      simp only [Option.some.injEq,Prod.mk.injEq] at hst
      obtain ⟨rfl,rfl⟩:=hst
      rcases ofK_inv_c ho oM with ⟨a1,_⟩ | ⟨a1,_⟩ | ⟨a1,_⟩ | ⟨a1,ks,a2,a3,rfl⟩ | ⟨a1,rfl | ⟨w,a3,rfl⟩⟩
      ·omega
      ·omega
      ·omega
      ·obtain rfl:=u8_eq a1 dC
       rw [V.kids] at hlt
       cases hr with
       | leaf w x k tx b h1 h2=>rcases h2 with ⟨h,_⟩ | ⟨h,_⟩ | ⟨h,_⟩ <;> omega
       | lst k b ks bs a c h1 h2 h3 hk =>
        have hbl : bs.length = ks.length:=h3
        refine (c_setKid (u:=u) (n:=n) (m:=n.toNat) (bs:=bs) hu (.inl rfl) oM oM oM hn hp (by rw [hbl];exact h1) (by rw [hbl];exact h2) oM cx_sty ihz).mono ?_
        rintro v G' L' ⟨q1,q2,b',zb,kb,cc,rfl,q3,q4,q5,q6⟩
        refine ⟨q1,q2,b',rfl,?_⟩
        have e1 : setV (tys vs) (91 :: k1) (.nd 91 [] 0 ks) n (changeV (tys vs) k1 (nth ks n.toNat) p y) = .nd 91 [] 0 (ks.set n.toNat (changeV (tys vs) k1 (nth ks n.toNat) p y)):=by
         unfold setV;rw [V.what,if_neg dC,if_pos rfl];rfl
        show RepR G' (tys vs) (setV (tys vs) (91 :: k1) (.nd 91 [] 0 ks) n (changeV (tys vs) k1 (nth ks n.toNat) p y)) (91 :: k1) b'
        rw [e1]
        rw [hbl] at q5 q6
        refine RepR.lst k1 b' _ (bs.set n.toNat zb) (some ⟨kb,0,none⟩) cc (by rw [List.length_set];exact q5) (by rw [List.length_set];exact q6) (by simp [hbl]) fun i hi=>?_
        rw [List.length_set] at hi
        rw [nth_set hi,nth_set oM]
        by_cases him : n.toNat = i
        ·rw [if_pos him,if_pos him];exact q3
        ·rw [if_neg him,if_neg him];exact (hk i hi).mono q4
      ·simp [V.kids] at hlt;omega
      ·obtain rfl:=u8_eq a1 dC
       simp [V.kids] at hlt
       obtain rfl : n = 0:=oM
       cases hr with
       | opt k b kb b' cc v hcc h1 h2 h3 =>
        have h2s : SlV G (.slice (some ⟨kb,0,none⟩) 1 cc) 1 1 (rows ptR [b']):=⟨rfl,.inr ⟨kb,0,cc,rfl,hcc,h2⟩⟩
        refine (c_setKid (u:=u) (n:=0) (m:=0) (bs:=[b']) hu (.inr rfl) rfl (by simp) (by simp) hn hp h1 h2s oM cx_sty ihz).mono ?_
        rintro v G' L' ⟨q1,q2,b2,zb,kb2,cc2,rfl,q3,q4,q5,q6⟩
        refine ⟨q1,q2,b2,rfl,?_⟩
        have q7:=slv_cap q6 (by simp)
        obtain ⟨kb',ko',kc',e9,hs9⟩:=q6.expl (by simp)
        simp only [Value.slice.injEq,Option.some.injEq,Addr.mk.injEq] at e9
        obtain ⟨⟨rfl,rfl,-⟩,-,rfl⟩:=e9
        exact RepR.opt k1 b2 kb2 zb cc2 _ q7 q5 hs9 q3
     ·rw [if_neg hlt] at hst;cases hst
    ·have hno : stepV (tys vs) (c :: kr) v n = none:=by
      rcases plain_kinds hki hc hrf with e | e | e
      all_goals (rw [e];exact stepV_plain dC dC dC)
     rw [hno] at hs;cases hs
   | some t =>
    have hst:=stepV_typ (v:=v) (n:=n) hrf
    rw [hs] at hst
    cases hg : fldT t.fields n with
    | none=>rw [hg] at hst;cases hst
    | some f =>
     rw [hg] at hst
     dsimp only at hst
     by_cases h69 : t.sort = 69
     ·rw [if_pos h69] at hst;cases hst
     ·rw [if_neg h69] at hst
      by_cases h82 : t.sort = 82
      ·rw [if_pos h82] at hst
       simp only [Option.some.injEq,Prod.mk.injEq] at hst
       obtain ⟨rfl,rfl⟩:=hst
       rcases ofK_inv_t ho hrf with ⟨_,fs,rfl,a3,a4,a5,a6⟩ | ⟨a1,_⟩ | ⟨a1,_⟩
       ·have hfs9 : fs.length ≤ 100000:=by
         have h7:=tots_len (fs.map fldV)
         rw [nd_tot] at htt
         have e1 : (fs.map fldV).length = fs.length:=by simp
         omega
        have e1 : ∀ z,setV (tys vs) k (.nd 82 [] 0 (fs.map fldV)) n z = .nd 82 [] 0 (putF (tys vs) f z (fs.map fldV)):=fun z=>by
         unfold setV;rw [V.what,if_pos rfl,hrf]
         dsimp only
         rw [hg];rfl
        rw [e1]
        exact c_setRec h hw hki hrf hg rfl (srt_fs a6) hfs9 hn hp hr oM oM cx_sty ihz
       ·omega
       ·omega
      ·rw [if_neg h82] at hst
       by_cases htg : v.tag = n
       ·rw [if_pos htg] at hst
        simp only [Option.some.injEq,Prod.mk.injEq] at hst
        obtain ⟨rfl,rfl⟩:=hst
        obtain ⟨hft,hfm⟩:=fldT_tag' hg
        cases hr with
        | leaf w x k tx b h1 h2 =>
         rcases h2 with ⟨_,rfl,_⟩ | ⟨_,rfl,_⟩ | ⟨_,rfl,_⟩ <;> exact (refT_no hrf rfl dC).elim
        | lst k b ks bs a c h1 h2 h3 hk=>exact (refT_no hrf rfl dC).elim
        | non k b h1=>exact (refT_no hrf rfl dC).elim
        | opt k b kb b' cc w h0 h1 h2 h3=>exact (refT_no hrf rfl dC).elim
        | recd k b t' fs bs a a2 c c2 h0 h1 h2 h3 h4 h5 hk=>rw [hrf] at h0;obtain rfl:=Option.some.inj h0.1;exact (h82 h0.2).elim
        | enm k b tgb t' d h0 h1 h2 h3=>rw [hrf] at h0;obtain rfl:=Option.some.inj h0.1;exact (h69 h0.2).elim
        | uni k b tgb kb b' cc t' d w hcc h0 h1 h2 h3 h4 hk =>
         rw [hrf] at h0
         obtain rfl:=Option.some.inj h0.1
         have hdf : d = f:=fld_tag (hw.ty _ (refT_mem hrf)) h1 hfm (by rw [hft];exact htg)
         subst hdf
         obtain ⟨r,rfl⟩:=refT_64 hrf
         refine (c_setUni (u:=u) (n:=n) hu hcc hn hp h2 h3 h4 oM cx_sty ihz).mono ?_
         rintro v G' L' ⟨q1,q2,b2,zb,kb2,cc2,rfl,q3,q4,q5,q6,q7⟩
         refine ⟨q1,q2,b2,rfl,?_⟩
         have e1 : ∀ z,setV (tys vs) (64 :: r) (.nd 85 [] d.tag [w]) n z = .nd 85 [] d.tag [z]:=fun z=>by
          unfold setV;rw [V.what,if_neg dC,if_neg dC];rfl
         rw [e1]
         exact RepR.uni _ b2 tgb kb2 zb cc2 _ d _ q4 ⟨hrf,h0.2⟩ h1 q5 q6 q7 q3
       ·rw [if_neg htg] at hst;cases hst
theorem c_l4Back {u : Value} {vs : List TyX} (hw : SchW (tys vs)) (h : SchR G u vs) {k s : List UInt8} (hki : kindIn (tys vs) k = true) :
  FnS Tryz.prog 36 [u,S k,S s] G (fun r _=>r = Tu [S (if (valOf (tys vs) k s).isSome = true then s else []),Bo (valOf (tys vs) k s).isSome]):=by
 obtain ⟨ua,uc,rfl⟩:=h.sl.sl
 by_cases hl : s.length ≤ 400
 ·have cx_rd:=readC_all (u:=.slice ua vs.length uc) (vs:=vs) hw 12 oM G k s h hki oM
  have hvo : valOf (tys vs) k s = match rd (tys vs) 12 k s with
   | some (v,[])=>some v
   | _=>none:=by
   unfold valOf;rw [if_pos hl]
   all_goals (rcases rd (tys vs) 12 k s with _ | ⟨v,_ | _⟩ <;> rfl)
  refine jB [(0,_),(1,_),(2,_)] Tryz.func36 Tryz.ntmps36 fun B hok hB hW=>?_
  repeat' (first | (refine jR ?_) | (refine jo ?_;first | refine jV (g_bld rfl rfl) ?_ | (refine jAt rfl ?_) | (refine jAf rfl ?_) | (refine c_fns rfl rfl rfl cx_rd rfl ?_;rintro _ G hle ⟨q1,r1,ok1,rfl,hyes,hno⟩;skip)) | refine k_gb rfl rfl (fun _=>?_) (fun _=>?_) | (refine k_tt rfl rfl ?_) | (refine k_ff rfl (dFf oM) ?_) | refine k_if rfl (fun _=>?_) (fun _=>?_))
  all_goals refine jZ (vs:=[_,_]) rfl ⟨rfl,rfl,trivial⟩ rfl ⟨hle,rfl,?_⟩
  ·rename_i hz
   rw [hno (by simpa using hz)] at hvo
   rw [hvo];rfl
  ·rename_i hz hr
   obtain ⟨w,b,rfl,hf,hrep⟩:=hyes (by simpa using hz)
   rw [hf] at hvo
   have hvo2 : valOf (tys vs) k s = none:=by
    rw [hvo]
    cases r1 with
    | nil=>exact absurd rfl hr
    | cons c r=>rfl
   rw [hvo2];rfl
  ·rename_i hz hr
   obtain ⟨w,b,rfl,hf,hrep⟩:=hyes (by simpa using hz)
   obtain rfl : r1 = []:=by simpa using hr
   rw [hf] at hvo
   rw [hvo];rfl
 ·have hvo : valOf (tys vs) k s = none:=by unfold valOf;rw [if_neg hl]
  rw [hvo]
  refine jB [(0,_),(1,_),(2,_)] Tryz.func36 Tryz.ntmps36 fun B hok hB hW=>?_
  repeat' (first | (refine jR ?_) | (refine k_tt rfl (dTt oM) ?_))
  all_goals refine jZ (vs:=[_,_]) rfl ⟨rfl,rfl,trivial⟩ rfl ⟨Gh.le.refl _,rfl,?_⟩
  all_goals rfl
def pathSetV (s k w p x : List UInt8) : Option (List UInt8):=match schemaOf s,givenV s k w,pathOf p with
 | some ts,some u,some q=>match followV ts k u q with
  | none=>none
  | some (k',_)=>match rd ts 12 k' x with
   | some (y,[])=>if (changeV ts k u q y).out.length ≤ 400 ∧ (changeV ts k u q y).deep ≤ 12 then some (changeV ts k u q y).out else none
   | _=>none
 | _,_,_=>none
def psR (o : Option (List UInt8)) : Value:=Tu [S (o.getD []),Bo o.isSome]
theorem psv_none {s k x : List UInt8} {o : Option (List Int)} : (match schemaOf s,(none : Option V),o with
 | some ts,some u,some q=>match followV ts k u q with
  | none=>none
  | some (k',_)=>match rd ts 12 k' x with
   | some (y,[])=>if (changeV ts k u q y).out.length ≤ 400 ∧ (changeV ts k u q y).deep ≤ 12 then some (changeV ts k u q y).out else none
   | _=>none
 | _,_,_=>none) = none:=by cases schemaOf s <;> rfl
theorem c_PathSetS {s k w p x : List UInt8} (h1 : s.length ≤ 1048576 ∧ k.length ≤ 1048576 ∧ w.length ≤ 1048576 ∧ p.length ≤ 1048576) (hx : x.length ≤ 1048576) : PuG Tryz.prog 9 [S s,S k,S w,S p,S x] G (· = psR (pathSetV s k w p x)):=by
 unfold pathSetV
 cases hg : givenV s k w with
 | none =>
  rw [psv_none]
  have cx_la0:=fun G=>c_l4Of0 (G:=G) (s:=s) (k:=k) (w:=w) oM hg
  cases hpo : pathOf p with
  | none =>
   have cx_sp:=steps_no h1.2.2.2 hpo
   refine jB (Post:=fun v G' L'=>G' = G ∧ L' = [] ∧ _) [(0,_),(1,_),(2,_),(3,_),(4,_)] Tryz.func9 Tryz.ntmps9 fun B hok hB hW=>?_
   repeat' (first | (refine jR ?_) | (refine jo ?_;first | (refine jAt rfl ?_) | (refine c_fns rfl rfl rfl (cx_la0 _) rfl ?_;rintro _ G hle ⟨ua,qa,rfl⟩;skip) | (refine c_fns rfl rfl rfl (cx_sp _) rfl ?_;rintro _ G hle ⟨sa,sc,sn,rfl,hsp⟩;skip)) | (refine k_gt rfl rfl rfl ?_) | (refine k_tt rfl rfl ?_))
   all_goals refine Nx.base hok hB ?_
   all_goals refine jY (vs:=[_,_]) ?_
   all_goals rfl
  | some q =>
   have cx_sp:=steps_yes h1.2.2.2 hpo
   refine jB (Post:=fun v G' L'=>G' = G ∧ L' = [] ∧ _) [(0,_),(1,_),(2,_),(3,_),(4,_)] Tryz.func9 Tryz.ntmps9 fun B hok hB hW=>?_
   repeat' (first | (refine jR ?_) | (refine jo ?_;first | (refine jAt rfl ?_) | (refine c_fns rfl rfl rfl (cx_la0 _) rfl ?_;rintro _ G hle ⟨ua,qa,rfl⟩;skip) | (refine c_fns rfl rfl rfl (cx_sp _) rfl ?_;rintro _ G hle ⟨sa,sc,sn,rfl,hsp⟩;skip)) | (refine k_gt rfl rfl rfl ?_) | (refine k_tt rfl rfl ?_))
   all_goals refine Nx.base hok hB ?_
   all_goals refine jY (vs:=[_,_]) ?_
   all_goals rfl
 | some u =>
  obtain ⟨ts,hs,hki,hvo,hto,hwf⟩:=given_some hg
  have cx_l4x:=c_l4OfX (G:=G) (s:=s) (k:=k) (w:=w) oM hs hki hvo
  rw [hs]
  cases hpo : pathOf p with
  | none =>
   have cx_sp:=steps_no h1.2.2.2 hpo
   refine jB (Post:=fun v G' L'=>G' = G ∧ L' = [] ∧ _) [(0,_),(1,_),(2,_),(3,_),(4,_)] Tryz.func9 Tryz.ntmps9 fun B hok hB hW=>?_
   repeat' (first | (refine jR ?_) | (refine jo ?_;first | (refine jAf rfl ?_) | (refine c_fns rfl rfl rfl cx_l4x rfl ?_;rintro _ G hle ⟨av1,cv1,vs1,b1,rfl,hR1,hT1,hrep⟩;skip) | (refine c_fns rfl rfl rfl (cx_sp _) rfl ?_;rintro _ G hle ⟨sa,sc,sn,rfl,hsp⟩;skip)) | (refine k_gf rfl rfl rfl ?_) | (refine k_tt rfl rfl ?_))
   all_goals refine Nx.base hok hB ?_
   all_goals refine jY (vs:=[_,_]) ?_
   all_goals rfl
  | some q =>
   have cx_sp:=steps_yes h1.2.2.2 hpo
   obtain ⟨hq8,hqn⟩:=pathOf_le hpo
   have hof:=valOf_of_k hvo
   have hw:=schemaOf_w hs
   dsimp only
   refine jB (Post:=fun v G' L'=>G' = G ∧ L' = [] ∧ _) [(0,_),(1,_),(2,_),(3,_),(4,_)] Tryz.func9 Tryz.ntmps9 fun B hok hB hW=>?_
   repeat' (first | (refine jR ?_) | (refine jo ?_;first | (refine jAf rfl ?_) | (refine c_fns rfl rfl rfl cx_l4x rfl ?_;rintro _ G hle ⟨av1,cv1,vs1,b1,rfl,hR1,hT1,hrep⟩;(try have hrep:=RepR.mono hle hrep);(try have hR1:=SchR.mono hR1 hle);(try have hsp:=SlV.mono hsp hle);(try have hsg1:=Seg.mono hsg1 hle)) | (refine c_fns rfl rfl rfl (cx_sp _) rfl ?_;rintro _ G hle ⟨sa,sc,sn,rfl,hsp⟩;(try have hrep:=RepR.mono hle hrep);(try have hR1:=SchR.mono hR1 hle);(try have hsp:=SlV.mono hsp hle);(try have hsg1:=Seg.mono hsg1 hle))) | (refine k_gf rfl rfl rfl ?_) | (refine k_ff rfl rfl ?_))
   obtain ⟨rfl,hsp⟩:=hsp
   subst hT1
   have hwk:=c_walkS hR1 hw hsp hqn oM hrep hof hki oM
   cases hfo : followV (tys vs1) k u q with
   | none =>
    have cx_wan:=StepP.no hwk hfo
    repeat' (first | (refine jR ?_) | (refine jo ?_;(refine c_fns rfl rfl rfl cx_wan rfl ?_;rintro _ G hle ⟨q1,rfl⟩;(try have hrep:=RepR.mono hle hrep);(try have hR1:=SchR.mono hR1 hle);(try have hsp:=SlV.mono hsp hle);(try have hsg1:=Seg.mono hsg1 hle))) | (refine k_tt rfl rfl ?_))
    all_goals refine Nx.base hok hB ?_
    all_goals refine jY (vs:=[_,_]) ?_
    all_goals rfl
   | some y =>
    obtain ⟨k1,v1⟩:=y
    have cx_way:=StepP.yes hwk hfo
    have hqn0:=fun n hn=>(hqn n hn).1
    obtain ⟨_,hk1⟩:=followV_ok hw hof hki hqn0 hfo
    dsimp only
    repeat' (first | (refine jR ?_) | (refine jo ?_;first | refine jV (g_bld rfl rfl) ?_ | (refine c_fns rfl rfl rfl cx_way rfl ?_;rintro _ G hle ⟨b1,rfl,hrep1⟩;(try have hrep:=RepR.mono hle hrep);(try have hR1:=SchR.mono hR1 hle);(try have hsp:=SlV.mono hsp hle);(try have hsg1:=Seg.mono hsg1 hle))) | (refine k_ff rfl rfl ?_))
    obtain ⟨z1,z2,z3,hsg1⟩:=repR_seg hrep1
    have cx_rd:=readC_all (u:=.slice av1 vs1.length cv1) (vs:=vs1) hw 12 oM G k1 x hR1 hk1 oM
    repeat' (first | (refine jR ?_) | (refine jo ?_;first | (refine jAt rfl ?_) | (refine jAf rfl ?_) | refine jV (g_ldS rfl rfl aS rfl rfl) ?_ | (refine c_fns rfl rfl rfl cx_rd rfl ?_;rintro _ G hle ⟨q1,r1,ok1,rfl,hyes,hno⟩;(try have hrep:=RepR.mono hle hrep);(try have hR1:=SchR.mono hR1 hle);(try have hsp:=SlV.mono hsp hle);(try have hsg1:=Seg.mono hsg1 hle))) | refine k_gb rfl rfl (fun _=>?_) (fun _=>?_) | (refine k_tt rfl rfl ?_) | refine k_if rfl (fun _=>?_) (fun _=>?_))
    ·rename_i hz
     rw [hno (by simpa using hz)]
     refine Nx.base hok hB ?_
     refine jY (vs:=[_,_]) ?_
     rfl
    ·rename_i hz hr
     obtain ⟨w2,b2,rfl,hf2,hrep2⟩:=hyes (by simpa using hz)
     rw [hf2]
     refine Nx.base hok hB ?_
     refine jY (vs:=[_,_]) ?_
     cases r1 with
     | nil=>exact absurd rfl hr
     | cons c r=>rfl
    ·rename_i hz hr
     obtain ⟨w2,b2,rfl,hf2,hrep2⟩:=hyes (by simpa using hz)
     obtain rfl : r1 = []:=by simpa using hr
     rw [hf2]
     dsimp only
     have hoy:=rd_of _ _ _ _ hf2
     have hyt:=rd_tot _ _ _ _ hf2
     dsimp only at hoy hyt
     have cx_set:=c_setS hw q hR1 hsp hqn hq8 hrep hof hki oM hfo hrep2 hoy oM
     have hcg:=changeV_ok hw hof hki hqn0 hfo hoy
     have hct:=changeV_tot hw (y:=w2) hof hki hqn0 hfo
     repeat' (first | (refine jR ?_) | (refine jo ?_;(refine c_fns rfl rfl rfl cx_set rfl ?_;rintro _ G hle ⟨bz,rfl,hrepz⟩;(try have hrep:=RepR.mono hle hrep);(try have hR1:=SchR.mono hR1 hle);(try have hsp:=SlV.mono hsp hle);(try have hsg1:=Seg.mono hsg1 hle))) | (refine k_ff rfl rfl ?_))
     have cx_out:=c_outS hw hrepz oM
     have cx_bk:=c_l4Back (s:=(changeV (tys vs1) k u q w2).out) hw hR1 hki
     by_cases hfit : (changeV (tys vs1) k u q w2).out.length ≤ 400 ∧ (changeV (tys vs1) k u q w2).deep ≤ 12
     ·rw [if_pos hfit]
      rw [valOf_in hw hcg hfit.1 hfit.2] at cx_bk
      repeat' (first | (refine jR ?_) | (refine jo ?_;first | (refine c_rt rfl rfl rfl cx_out rfl ?_) | (refine c_fns rfl rfl rfl cx_bk rfl ?_;rintro _ G hle rfl;(try have hrep:=RepR.mono hle hrep);(try have hR1:=SchR.mono hR1 hle);(try have hsp:=SlV.mono hsp hle);(try have hsg1:=Seg.mono hsg1 hle))))
      all_goals refine Nx.base hok hB ?_
      all_goals refine jY (vs:=[_,_]) ?_
      all_goals rfl
     ·rw [if_neg hfit]
      rw [valOf_no_in hw hcg hfit] at cx_bk
      repeat' (first | (refine jR ?_) | (refine jo ?_;first | (refine c_rt rfl rfl rfl cx_out rfl ?_) | (refine c_fns rfl rfl rfl cx_bk rfl ?_;rintro _ G hle rfl;(try have hrep:=RepR.mono hle hrep);(try have hR1:=SchR.mono hR1 hle);(try have hsp:=SlV.mono hsp hle);(try have hsg1:=Seg.mono hsg1 hle))))
      all_goals refine Nx.base hok hB ?_
      all_goals refine jY (vs:=[_,_]) ?_
      all_goals rfl
end Go.E
namespace Go.E
set_option maxRecDepth 20000
set_option maxHeartbeats 2000000
def keyW (w : Nat) (x : List UInt8) (t : Int) (js : List (List UInt8)) : List UInt8 :=
 if w = 110 then [u8 ((numOf x 999999).getD 0 / 65536),u8 ((numOf x 999999).getD 0 / 256),u8 ((numOf x 999999).getD 0)] else if w = 116 then x ++ [0] else if w = 102 then (if x = [121,101,115] then [1] else [0]) else if w = 69 then [u8 t]
 else if w = 63 ∧ js = [] then [0] else if w = 85 ∨ w = 61 then u8 t :: js.flatten else if w = 63 then (js.map (1 :: ·)).flatten else (js.map (1 :: ·)).flatten ++ [0]
mutual
def V.key : V → List UInt8
 | .nd w x t ks=>keyW w x t (V.keys ks)
def V.keys : List V → List (List UInt8)
 | []=>[]
 | v :: r=>V.key v :: V.keys r
end
def okV (s k w : List UInt8) : Bool:=(givenV s k w).isSome
end Go.E
namespace Go.E
set_option maxRecDepth 20000
set_option maxHeartbeats 2000000
open Go.Proofs
theorem pgv_some {s k w p k1 x1 : List UInt8} (h : pathGetV s k w p = some (k1,x1)) : ∃ ts u q v1,schemaOf s = some ts ∧ givenV s k w = some u ∧ pathOf p = some q ∧ followV ts k u q = some (k1,v1) ∧ x1 = v1.out:=by
 unfold pathGetV at h
 split at h
 ·rename_i ts u q h1 h2 h3
  cases hf : followV ts k u q with
  | none=>rw [hf] at h;cases h
  | some y =>
   rw [hf] at h
   obtain ⟨k',v'⟩:=y
   simp only [Option.map_some,Option.some.injEq,Prod.mk.injEq] at h
   obtain ⟨rfl,rfl⟩:=h
   exact ⟨ts,u,q,v',h1,h2,h3,hf,rfl⟩
 ·cases h
theorem pgv_in {s k w p k1 : List UInt8} {ts : List Ty} {u v1 : V} {q : List Int} (h1 : schemaOf s = some ts) (h2 : givenV s k w = some u) (h3 : pathOf p = some q) (h4 : followV ts k u q = some (k1,v1)) : pathGetV s k w p = some (k1,v1.out):=by
 unfold pathGetV
 rw [h1,h2,h3]
 dsimp only
 rw [h4];rfl
theorem psv_some {s k w p x z : List UInt8} (h : pathSetV s k w p x = some z) : ∃ ts u q k1 v1 y,schemaOf s = some ts ∧ givenV s k w = some u ∧ pathOf p = some q ∧ followV ts k u q = some (k1,v1) ∧ rd ts 12 k1 x = some (y,[]) ∧ ((changeV ts k u q y).out.length ≤ 400 ∧ (changeV ts k u q y).deep ≤ 12) ∧ z = (changeV ts k u q y).out:=by
 unfold pathSetV at h
 split at h
 ·rename_i ts u q h1 h2 h3
  cases hf : followV ts k u q with
  | none=>rw [hf] at h;cases h
  | some y =>
   rw [hf] at h
   obtain ⟨k',v'⟩:=y
   dsimp only at h
   split at h
   ·rename_i y hy
    split at h
    ·rename_i hc
     simp only [Option.some.injEq] at h
     exact ⟨ts,u,q,k',v',y,h1,h2,h3,hf,hy,hc,h.symm⟩
    ·cases h
   ·cases h
 ·cases h
theorem psv_in {s k w p x k1 : List UInt8} {ts : List Ty} {u v1 y : V} {q : List Int} (h1 : schemaOf s = some ts) (h2 : givenV s k w = some u) (h3 : pathOf p = some q) (h4 : followV ts k u q = some (k1,v1)) (h5 : rd ts 12 k1 x = some (y,[])) (h6 : (changeV ts k u q y).out.length ≤ 400 ∧ (changeV ts k u q y).deep ≤ 12) : pathSetV s k w p x = some (changeV ts k u q y).out:=by
 unfold pathSetV
 rw [h1,h2,h3]
 dsimp only
 rw [h4]
 dsimp only
 rw [h5]
 dsimp only
 rw [if_pos h6]
theorem given_in {s k w : List UInt8} {ts : List Ty} {u : V} (h1 : schemaOf s = some ts) (h2 : kindIn ts k = true) (h3 : valOf ts k w = some u) : givenV s k w = some u:=by
 unfold givenV
 rw [h1]
 dsimp only
 rw [if_pos h2,h3]
theorem rd_in0 {ts : List Ty} (hw : SchW ts) {k : List UInt8} {v : V} (h : OfK ts k v) (hd : v.deep ≤ 12) : rd ts 12 k v.out = some (v,[]):=by
 have:=rd_in hw 12 h hd [] dl_nil
 rwa [List.append_nil] at this
theorem path_set {s k w p x z : List UInt8} (h : pathSetV s k w p x = some z) : ∃ k1 old,pathGetV s k w p = some (k1,old) ∧ pathGetV s k z p = some (k1,x) ∧ pathSetV s k z p old = some w:=by
 obtain ⟨ts,u,q,k1,v1,y,h1,h2,h3,h4,h5,h6,rfl⟩:=psv_some h
 obtain ⟨ts',g1,g2,g3,g4,g5⟩:=given_some h2
 obtain rfl : ts = ts':=Option.some.inj (h1.symm.trans g1)
 have hw:=schemaOf_w h1
 have ho:=valOf_of_k g3
 obtain ⟨a1,a2,a3⟩:=valOf_out g3
 obtain ⟨b1,b2,b3,b4⟩:=pathOf_text h3
 have hq0 : ∀ n ∈ q,0 ≤ n:=fun n hn=>(b3 n hn).1
 obtain ⟨c1,c2⟩:=followV_ok hw ho g2 hq0 h4
 obtain ⟨d1,d2⟩:=followV_fits hw ho g2 hq0 h4 a3 (by rw [a1];exact a2)
 have hy:=rd_of _ _ _ _ h5
 dsimp only at hy
 have hyx:=rd_out _ _ _ _ h5
 dsimp only at hyx
 rw [List.append_nil] at hyx
 have hc:=changeV_ok hw ho g2 hq0 h4 hy
 have hz:=given_in h1 g2 (valOf_in hw hc h6.1 h6.2)
 obtain ⟨e1,e2,e3⟩:=change_follow hw (x:=y) (y:=v1) ho g2 hq0 h4 hy
 have e4:=e3.trans e2
 refine ⟨k1,v1.out,pgv_in h1 h2 h3 h4,by rw [hyx];exact pgv_in h1 hz h3 e1,?_⟩
 have:=psv_in (x:=v1.out) h1 hz h3 e1 (rd_in0 hw c1 d1) (by rw [e4,a1];exact ⟨a2,a3⟩)
 rwa [e4,a1] at this
theorem psv_ok {s k w p x z : List UInt8} (h : pathSetV s k w p x = some z) : okV s k z = true ∧ z.length ≤ 400:=by
 obtain ⟨ts,u,q,k1,v1,y,h1,h2,h3,h4,h5,h6,rfl⟩:=psv_some h
 obtain ⟨ts',g1,g2,g3,g4,g5⟩:=given_some h2
 obtain rfl : ts = ts':=Option.some.inj (h1.symm.trans g1)
 have hw:=schemaOf_w h1
 have ho:=valOf_of_k g3
 obtain ⟨b1,b2,b3,b4⟩:=pathOf_text h3
 have hq0 : ∀ n ∈ q,0 ≤ n:=fun n hn=>(b3 n hn).1
 have hy:=rd_of _ _ _ _ h5
 have hc:=changeV_ok hw ho g2 hq0 h4 hy
 exact ⟨by unfold okV;rw [given_in h1 g2 (valOf_in hw hc h6.1 h6.2)];rfl,h6.1⟩
theorem path_keeps {s k w p x z l : List UInt8} (h : pathSetV s k w p x = some z) (hl : ∃ q,pathOf l = some q) (h1 : p ≠ []) (h2 : l ≠ p) (h3 : ∀ r,l ≠ p ++ 47 :: r) (h4 : ∀ r,p ≠ l ++ 47 :: r) (h5 : l ≠ []) : pathGetV s k z l = pathGetV s k w l:=by
 obtain ⟨ts,u,q,k1,v1,y,g1,g2,g3,g4,g5,g6,rfl⟩:=psv_some h
 obtain ⟨ts',g1',e2,e3,_,_⟩:=given_some g2
 obtain rfl : ts = ts':=Option.some.inj (g1.symm.trans g1')
 obtain ⟨ql,hql⟩:=hl
 have hw:=schemaOf_w g1
 have ho:=valOf_of_k e3
 obtain ⟨b1,b2,b3,b4⟩:=pathOf_text g3
 obtain ⟨c1,c2,c3,c4⟩:=pathOf_text hql
 have hq0 : ∀ n ∈ q,0 ≤ n:=fun n hn=>(b3 n hn).1
 have hy:=rd_of _ _ _ _ g5
 have hc:=changeV_ok hw ho e2 hq0 g4 hy
 have hz:=given_in g1 e2 (valOf_in hw hc g6.1 g6.2)
 have hqn : q ≠ []:=fun e=>h1 (b4.2 e)
 have hln : ql ≠ []:=fun e=>h5 (c4.2 e)
 have hap : apartP ql q:=by
  refine apart_of (fun r e=>?_) (fun r e=>?_)
  ·by_cases hr : r = []
   ·subst hr;rw [List.append_nil] at e;exact h2 (by rw [b1,c1,e])
   ·exact h3 (pathText r) (by rw [c1,e,pathText_app hqn hr,← b1])
  ·by_cases hr : r = []
   ·subst hr;rw [List.append_nil] at e;exact h2 (by rw [b1,c1,e])
   ·exact h4 (pathText r) (by rw [b1,e,pathText_app hln hr,← c1])
 have e:=change_apart hw (x:=y) ho e2 hq0 (fun n hn=>(c3 n hn).1) g4 hy hap
 unfold pathGetV
 rw [g1,hz,g2,hql]
 dsimp only
 rw [e]
end Go.E
