/- Contracts and plain laws that the statement rests on, part 7. Conditions: as each says. -/
import Derived.Test.YtaafndolbdancabGreatDoorT6
set_option linter.unusedVariables false
set_option linter.unusedSimpArgs false
namespace Go.E
set_option maxRecDepth 20000
set_option maxHeartbeats 2000000
open Go.Proofs
variable {G : Gh}
theorem leavesV_len {s k w : List UInt8} {ls : List (List UInt8)} (h : leavesV s k w = some ls) : ∀ i,i < ls.length → (nth ls i).length ≤ 56:=fun i hi=>by
 unfold leavesV at h
 cases hg : givenV s k w with
 | none=>rw [hg] at h;cases h
 | some u =>
  rw [hg] at h
  dsimp only at h
  split at h
  ·rename_i hall
   simp only [Option.some.injEq] at h
   subst h
   obtain ⟨ts,hs,hki,hvo,hto,hwf⟩:=given_some hg
   have hok:=leaves_ok (schemaOf_w hs) (valOf_of_k hvo)
   have hi2 : i < u.leaves.length:=by simpa [lvT] using hi
   rw [lvT_nth hi2]
   have h1:=pathText_len (hok _ (nth_mem hi2)).1
   rw [List.all_eq_true] at hall
   have h2:=of_decide_eq_true (hall _ (nth_mem hi2))
   omega
  ·cases h
theorem cut_ne {k : Nat} {s : List UInt8} : 1 ≤ (cut k s).length:=by
 rw [cut_cut1]
 split <;> simp
theorem leavesV_cnt {s k w : List UInt8} {ls : List (List UInt8)} (h : leavesV s k w = some ls) : ls.length ≤ 40000:=by
 unfold leavesV at h
 cases hg : givenV s k w with
 | none=>rw [hg] at h;cases h
 | some u =>
  rw [hg] at h
  dsimp only at h
  split at h
  ·simp only [Option.some.injEq] at h
   subst h
   obtain ⟨ts,hs,hki,hvo,hto,hwf⟩:=given_some hg
   have:=size_totL u
   rw [lvT_len];omega
  ·cases h
theorem c_l91Path {r : Nat} {code : Value} {p : Int} {l s k w : List UInt8} (hp : 0 ≤ p ∧ p ≤ 500000000000) (hs : SlV G code 1 l.length (u8s l)) (hsz : s.length ≤ 1048576 ∧ k.length ≤ 1048576 ∧ w.length ≤ 1048576) :
  FnG Tryz.prog 20 [Pt r 0,S s,S k,S w] G [rdO r code p tRdr] (fun v L'=>∃ x q,v = S x ∧ x.length ≤ 400 ∧ L' = [rdO r code q tRdr] ∧ p ≤ q ∧ q ≤ p + 20):=by
 cases hl : leavesV s k w with
 | none =>
  have cx_pls : FnS Tryz.prog 16 [S s,S k,S w] G (fun v _=>∃ a n c,v = Tu [.slice a n c,Bo false]):=(c_PathLeavesS hsz).mono fun v G' L' ⟨h1,h2,a,c,ls,h3,_⟩=>⟨h1,h2,a,ls.length,c,by rw [h3,hl];rfl⟩
  refine jB (Post:=fun v G' L'=>G' = G ∧ _) [(0,_),(1,_),(2,_),(3,_)] Tryz.func20 Tryz.ntmps20 fun B hok hB hW=>?_
  repeat' (first | (refine jR ?_) | (refine jo ?_;first | (refine jAt rfl ?_) | refine jF fun _=>?_ | (refine jV (g_iaddr rfl rfl oM) ?_) | (refine c_ldMS 64 rfl rfl rfl ?_ rfl (fun xs hxs=>?_);(focus ((simp only [List.length_append,List.length_cons,List.length_nil,List.length_take];omega);done))) | (refine c_fns rfl rfl rfl cx_pls rfl ?_;rintro _ G hle ⟨pa1,pn1,pc1,rfl⟩;skip) | (refine c_m1g rfl rfl rfl (c_pick ?_ (by (repeat (first | assumption | refine SlV.mono ?_ aS));done)) rfl ?_;(focus ((omega);done));rintro _ _ ⟨k,rfl,rfl,hk0,hk1⟩;dsimp only [zA,fA])) | (refine k_gt rfl rfl rfl ?_) | (refine k_tt rfl rfl ?_))
  all_goals refine Nx.base hok hB ?_
  all_goals exact k_rr (vs:=[_]) rfl ⟨rfl,trivial⟩ rfl sB ⟨rfl,_,_,rfl,by (omega),rfl,oM,oM⟩
 | some ls =>
  have hlen:=leavesV_len hl
  have hcnt:=leavesV_cnt hl
  by_cases hne : ls.length = 0
  ·have cx_plt : FnS Tryz.prog 16 [S s,S k,S w] G (fun v _=>∃ a n c,v = Tu [.slice a 0 c,Bo true] ∧ n = 0):=(c_PathLeavesS hsz).mono fun v G' L' ⟨h1,h2,a,c,ls',h3,h4,h5,_⟩=>by
    obtain rfl:=h5 ls hl
    exact ⟨h1,h2,a,0,c,by rw [h3,hl];exact congrArg (fun n=>Tu [.slice a n c,Bo true]) hne,rfl⟩
   refine jB (Post:=fun v G' L'=>G' = G ∧ _) [(0,_),(1,_),(2,_),(3,_)] Tryz.func20 Tryz.ntmps20 fun B hok hB hW=>?_
   repeat' (first | (refine jR ?_) | (refine jo ?_;first | refine jV (g_lenL rfl) ?_ | (refine jAt rfl ?_) | (refine jAf rfl ?_) | refine jF fun _=>?_ | (refine jV (g_iaddr rfl rfl oM) ?_) | (refine c_ldMS 64 rfl rfl rfl ?_ rfl (fun xs hxs=>?_);(focus ((simp only [List.length_append,List.length_cons,List.length_nil,List.length_take];omega);done))) | (refine c_fns rfl rfl rfl cx_plt rfl ?_;rintro _ G hle ⟨pa1,pn1,pc1,rfl,_⟩;skip) | (refine c_m1g rfl rfl rfl (c_pick ?_ (by (repeat (first | assumption | refine SlV.mono ?_ aS));done)) rfl ?_;(focus ((omega);done));rintro _ _ ⟨k,rfl,rfl,hk0,hk1⟩;dsimp only [zA,fA])) | (refine k_gt rfl rfl rfl ?_) | (refine k_gf rfl rfl rfl ?_) | (refine k_tt rfl rfl ?_))
   all_goals refine Nx.base hok hB ?_
   all_goals exact k_rr (vs:=[_]) rfl ⟨rfl,trivial⟩ rfl sB ⟨rfl,_,_,rfl,by (omega),rfl,oM,oM⟩
  ·have cx_plu : FnS Tryz.prog 16 [S s,S k,S w] G (fun v G'=>∃ b o c,v = Tu [.slice (some ⟨b,o,none⟩) ls.length c,Bo true] ∧ Seg G' b o (rows strF ls)):=(c_PathLeavesS hsz).mono fun v G' L' ⟨h1,h2,a,c,ls',h3,h4,h5,_⟩=>by
    obtain rfl:=h5 ls hl
    obtain ⟨b,o,c',e,hs⟩:=h4.expl oM
    simp only [Value.slice.injEq] at e
    obtain ⟨rfl,-,rfl⟩:=e
    exact ⟨h1,h2,b,o,c,by rw [h3,hl];rfl,hs⟩
   have hcl : ∀ i,i < ls.length → (nth (cut 47 (nth ls i)) 0).length ≤ 56:=fun i hi=>by
    have h1:=hlen i hi
    have h2:=cut_ne (k:=47) (s:=nth ls i)
    have h3:=cut_len (nth_mem (show 0 < (cut 47 (nth ls i)).length by omega))
    omega
   have cx_cutg : ∀ {G : Gh} (i : Nat),i < ls.length → FnS Tryz.prog 47 [S (nth ls i),U8 47] G (fun v G'=>∃ b o c,v = .slice (some ⟨b,o,none⟩) (cut 47 (nth ls i)).length c ∧ 1 ≤ (cut 47 (nth ls i)).length ∧ Seg G' b o (rows strF (cut 47 (nth ls i)))):=fun {G} i hi=>(c_l3CutS (G:=G) (k:=47) (by have:=hlen i hi;omega)).mono fun v G' L' ⟨h1,h2,h3⟩=>by
    have h5:=cut_ne (k:=47) (s:=nth ls i)
    obtain ⟨la,lc,rfl⟩:=h3.sl
    obtain ⟨b,o,c,e,hsg⟩:=h3.expl oM
    exact ⟨h1,h2,b,o,c,e,h5,hsg⟩
   clear hl
   refine jB (Post:=fun v G' L'=>G' = G ∧ _) [(0,_),(1,_),(2,_),(3,_)] Tryz.func20 Tryz.ntmps20 fun B hok hB hW=>?_
   repeat' (first | (refine jR ?_) | (refine jo ?_;first | refine jV (g_lenL rfl) ?_ | (refine jAf rfl ?_) | refine jF fun _=>?_ | (refine jV (g_iaddr rfl rfl oM) ?_) | (refine c_ldMS 64 rfl rfl rfl ?_ rfl (fun xs hxs=>?_);(focus ((simp only [List.length_append,List.length_cons,List.length_nil,List.length_take];omega);done))) | (refine jV (g_ldRS rfl rfl aS ?_) ?_;(focus ((omega);done))) | (refine c_fns rfl rfl rfl cx_plu rfl ?_;rintro _ G hle ⟨pb1,po1,pc1,rfl,hlvs⟩;skip) | (refine c_m1g rfl rfl rfl (c_pick ?_ (by (repeat (first | assumption | refine SlV.mono ?_ aS));done)) rfl ?_;(focus ((omega);done));rintro _ _ ⟨k,rfl,rfl,hk0,hk1⟩;dsimp only [zA,fA]) | (refine c_fns rfl rfl rfl ((cx_cutg _) oM) rfl ?_;rintro _ G hle ⟨b1,o1,cap1,rfl,hcc,hseg⟩;skip)) | (refine k_gf rfl rfl (by first | rfl | (refine decide_eq_false ?_;(omega))) ?_) | refine k_if rfl (fun _=>?_) (fun _=>?_))
   all_goals (first | (refine Nx.base hok hB ?_;exact k_rr (vs:=[_]) rfl ⟨rfl,trivial⟩ rfl sB ⟨rfl,_,_,rfl,by (omega),rfl,oM,oM⟩) | skip)
   all_goals refine Nx.base hok hB ?_
   ·exact k_rr (vs:=[_]) rfl ⟨rfl,trivial⟩ rfl sRr ⟨rfl,_,_,rfl,Nat.le_trans (hcl _ oM) dC,rfl,oM,oM⟩
   ·exact k_rr (vs:=[_]) rfl ⟨rfl,trivial⟩ rfl sRr ⟨rfl,_,_,rfl,Nat.le_trans (hlen _ oM) dC,rfl,oM,oM⟩
abbrev tIntQ : TypeId:=3
theorem c_readPath {s : List UInt8} (h : s.length ≤ 1048576) : FnS Tryz.prog 25 [S s] G (StepsP s):=by
 by_cases h0 : s = []
 ·subst h0
  refine jB [(0,_)] Tryz.func25 Tryz.ntmps25 fun B hok hB hW=>?_
  repeat' (first | (refine jR ?_) | (refine k_tt rfl rfl ?_))
  refine jZ (vs:=[_,_]) rfl ⟨rfl,rfl,trivial⟩ rfl ⟨Gh.le.refl _,rfl,?_⟩
  exact ⟨_,_,_,rfl,fun p hp=>by
   obtain rfl : p = []:=by unfold pathOf at hp;simpa using hp.symm
   exact ⟨rfl,SlV.nil0⟩⟩
 have cx_split : FnS Tryz.prog 51 [S s,S [47]] G (fun v G'=>∃ b o cap,v = .slice (some ⟨b,o,none⟩) (cut 47 s).length cap ∧ Seg G' b o (rows strF (cut 47 s))):=by
  refine (c_Split (c:=47) oM).mono ?_
  rintro v G' L' ⟨h1,h2,h3⟩
  have hp : 0 < (cut 47 s).length:=cut_pos
  exact ⟨h1,h2,h3.expl hp⟩
 have hcl:=cut_count (k:=47) (s:=s)
 have hbad:=fun {i : Nat}=>pathOf_bad h0 (i:=i)
 have hpo:=pathOf_ne h0
 have hxl : ∀ i,i < (cut 47 s).length → (nth (cut 47 s) i).length ≤ 100000000:=fun i hi=>by
  have:=cut_len (nth_mem hi)
  omega
 generalize cut 47 s = xs at *
 refine jB [(0,_)] Tryz.func25 Tryz.ntmps25 fun B hok hB hW=>?_
 repeat' (first | (refine jR ?_) | (refine jo ?_;first | refine jV (g_lenL rfl) ?_ | (refine c_fns rfl rfl rfl cx_split rfl ?_;rintro _ G hle ⟨b1,o1,cap1,rfl,hseg⟩;skip)) | (refine k_ff rfl (dFf ‹_›) ?_))
 refine Nx.addNil tIntQ 1 ?_
 refine k_loop (ι:=List Int × Option Addr × Nat × Nat) (fun j=>(j.1.length = j.2.2.2 ∧ j.2.2.2 ≤ xs.length ∧ j.2.2.2 ≤ 8) ∧ stepsOf (xs.take j.2.2.2) = some j.1) (fun j=>[(4,.slice j.2.1 j.1.length j.2.2.1),(12,.slice (some ⟨b1,o1,none⟩) xs.length cap1),(13,I xs.length),(14,I j.2.2.2)]) (fun _=>G) (fun j=>[.acc (.slice j.2.1 j.1.length j.2.2.1) tIntQ 1 j.1.length (rows inR j.1)]) (fun j=>xs.length - j.2.2.2) ([],none,0,0) ?_ tU rfl sRr (fun j Hj=>?_)
 ·exact ⟨⟨rfl,Nat.zero_le _,Nat.zero_le _⟩,rfl⟩
 obtain ⟨ps,a,c,i⟩:=j
 dsimp only at Hj ⊢
 obtain ⟨⟨hpl,hi0,hi8⟩,hst⟩:=Hj
 by_cases hi : i < xs.length
 ·have hxl1:=hxl i hi
  cases hn : numOf (nth xs i) 999999 with
  | none =>
   have hno:=hbad hi hn
   have hns : (!(numOf (nth xs i) 999999).isSome) = true:=by rw [hn];rfl
   repeat' (first | (refine jR ?_) | (refine jo ?_;first | (refine jV (g_iaddrN rfl rfl oM) ?_) | (refine jV (g_ldRS rfl rfl aS ?_) ?_;(focus ((omega);done))) | (refine jAt rfl ?_) | (refine c_pu rfl rfl rfl (c_plainNumber oM) rfl ?_;rintro _ ⟨n,rfl,hnum⟩)) | (refine k_gt rfl rfl ‹_› ?_) | (refine k_tt rfl (by first | rfl | (refine decide_eq_true ?_;(omega))) ?_))
   all_goals refine jZ (vs:=[_,_]) rfl ⟨rfl,rfl,trivial⟩ rfl ⟨hle,rfl,?_⟩
   all_goals exact ⟨_,_,_,by rw [hno];rfl,fun p hp=>by rw [hno] at hp;cases hp⟩
  | some m =>
   have hns : (!(numOf (nth xs i) 999999).isSome) = false:=by rw [hn];rfl
   by_cases h8 : i = 8
   ·subst h8
    have hno : pathOf s = none:=by
     rw [hpo]
     cases hso : stepsOf xs with
     | none=>rfl
     | some q =>
      have:=(stepsOf_len hso).1
      dsimp only
      rw [if_neg oM]
    have h88 : ((ps.length : Nat) : Int) = 8:=oM
    repeat' (first | (refine jR ?_) | (refine jo ?_;first | refine jV (g_lenL rfl) ?_ | (refine jV (g_iaddrN rfl rfl oM) ?_) | (refine jV (g_ldRS rfl rfl aS ?_) ?_;(focus ((omega);done))) | (refine jAf rfl ?_) | (refine c_pu rfl rfl rfl (c_plainNumber oM) rfl ?_;rintro _ ⟨n,rfl,hnum⟩)) | (refine k_gf rfl rfl ‹_› ?_) | (refine k_tt rfl (by refine decide_eq_true ?_;first | assumption | omega) ?_))
    all_goals refine jZ (vs:=[_,_]) rfl ⟨rfl,rfl,trivial⟩ rfl ⟨hle,rfl,?_⟩
    all_goals exact ⟨_,_,_,by rw [hno];rfl,fun p hp=>by rw [hno] at hp;cases hp⟩
   ·have h88 : ¬ ((ps.length : Nat) : Int) = 8:=oM
    repeat' (first | refine jM ?_ | (refine jo ?_;first | refine jV (g_lenL rfl) ?_ | (refine jV (g_iaddrN rfl rfl oM) ?_) | (refine jV (g_ldRS rfl rfl aS ?_) ?_;(focus ((omega);done))) | (refine jAf rfl ?_) | refine jF fun _=>?_ | (refine c_apX rfl rfl rfl rfl rfl rfl rfl rfl rfl oM fun _ _=>?_) | (refine c_pu rfl rfl rfl (c_plainNumber oM) rfl ?_;rintro _ ⟨n,rfl,hnum⟩)) | (refine k_gf rfl rfl ‹_› ?_) | (refine k_tt rfl (dTt oM) ?_) | (refine k_ff rfl (dFf ‹_›) ?_))
    rename_i y1 yc
    have hmn:=hnum m hn
    subst hmn
    have hst2 : stepsOf (xs.take (i + 1)) = some (ps ++ [n]):=by rw [take_nth hi,stepsOf_snoc hst,hn];rfl
    have hl1 : (ps ++ [n]).length = ps.length + 1:=by simp
    rw [show rows inR ps ++ [I n] = rows inR (ps ++ [n]) from (rows_snoc inR ps n).symm]
    exact k_rd (ps ++ [n],some ⟨y1,0,none⟩,yc,i + 1) ⟨⟨by dsimp only;omega,by dsimp only;omega,by dsimp only;omega⟩,hst2⟩ (by dsimp only;omega) (by rw [hl1];repeat (first | exact trivial | refine ⟨rfl,?_⟩)) rfl (by rw [hl1];repeat (first | exact List.nil_sublist _ | apply List.Sublist.cons_cons))
 ·rw [List.take_of_length_le oM] at hst
  rw [hst] at hpo
  dsimp only at hpo
  rw [if_pos oM] at hpo
  repeat' (first | (refine jR ?_) | (refine k_ff rfl (dFf oM) ?_))
  refine Nx.sealS (v:=.slice a ps.length c) fun G2 hG2 hsl=>?_
  refine jZ (vs:=[_,_]) rfl ⟨rfl,rfl,trivial⟩ rfl ⟨hle.trans hG2,rfl,?_⟩
  refine ⟨_,_,_,by rw [hpo];rfl,fun p hp=>?_⟩
  rw [hpo] at hp
  simp only [Option.some.injEq] at hp;subst hp;exact ⟨rfl,hsl⟩
theorem sg_core : ∀ k : List UInt8,sg k ++ core k = k
 | []=>rfl
 | c :: r=>by
  by_cases h : c.toNat = 91 ∨ c.toNat = 63
  ·rw [sg_cons h,core,if_pos h,List.cons_append,sg_core r]
  ·rw [sg_none h,core_self h];rfl
theorem kind_text {k : List UInt8} (h : kindOk k = true) : (bs k = [64] → sg k ++ [64] ++ nm k ++ [59] = k) ∧ (bs k ≠ [64] → sg k ++ bs k = k):=by
 have hk:=core_kOk (kindOk_kOk h).1
 have hsc:=sg_core k
 refine ⟨fun h64=>?_,fun hne=>?_⟩
 ·have hr:=(bs_at h).1 h64
  cases hc : core k with
  | nil=>rw [hc] at hk;cases hk
  | cons c r =>
   rw [hc] at hr hk hsc
   have h64' : c.toNat = 64:=by
    by_cases h64' : c.toNat = 64
    ·exact h64'
    ·simp [refN,h64'] at hr
   have hn : nm k = r.take (r.length - 1):=by unfold nm;rw [hc];simp [refN,h64']
   rw [kOk,if_neg oM,if_pos h64'] at hk
   simp only [Bool.and_eq_true,decide_eq_true_eq] at hk
   obtain ⟨h59,hnm⟩:=hk
   have hrl : 1 ≤ r.length:=by
    cases r with
    | nil=>simp [isNm] at hnm
    | cons=>simp
   obtain ⟨m,hm⟩ : ∃ m,r.length = m + 1:=⟨r.length - 1,oM⟩
   rw [hm,bt_succ] at h59
   have e3 : r = r.take m ++ [59]:=by
    have e1 : r.take (m + 1) = r:=List.take_of_length_le oM
    have e2:=take_nth (cs:=r) (i:=m) oM
    rw [e1] at e2
    have e4 : nth r m = 59:=by
     rw [nth_eq oM]
     have : bt r m = (r[m]'oM).toNat:=by simp [bt,List.getD,List.getElem?_eq_getElem (show m < r.length by omega)]
     exact UInt8.toNat_inj.1 (by rw [← this];show bt r m = 59;omega)
    rw [e4] at e2;exact e2
   have hc64 : c = 64:=UInt8.toNat_inj.1 h64'
   have e5 : sg k ++ 64 :: (r.take m ++ [59]) = k:=by rw [← e3,← hc64];exact hsc
   rw [hn,hm,Nat.add_sub_cancel]
   refine Eq.trans ?_ e5
   simp
 ·have hr : refN (core k) = none:=by
   cases hr : refN (core k) with
   | none=>rfl
   | some x=>exact absurd ((bs_at h).2 (by rw [hr];rfl)) hne
  have e : bs k = core k:=by
   unfold bs
   cases hc : core k with
   | nil=>rfl
   | cons c r =>
    rw [hc] at hr
    have h64 : ¬ c.toNat = 64:=by intro h64;simp [refN,h64] at hr
    simp [bsT,h64]
  rw [e];exact hsc
theorem c_textI {k : List UInt8} (h : kindOk k = true) : PuG Tryz.prog 38 [Ag (kdF k)] G (· = S k):=by
 obtain ⟨h1,h2⟩:=kind_text h
 have hl:=(kindOk_kOk h).2
 have hsl : (sg k).length ≤ 12:=by
  have:=congrArg List.length (sg_core k)
  simp only [List.length_append] at this
  omega
 unfold kdF
 by_cases h64 : bs k = [64]
 ·have e:=h1 h64
  have hnl:=congrArg List.length e
  simp only [List.length_append,List.length_cons,List.length_nil] at hnl
  rw [h64]
  refine jE [(0,_)] Tryz.func38 Tryz.ntmps38 fun B hB=>?_
  repeat' (first | (refine jX ?_) | (refine jo ?_;first | refine jO fun _=>?_ | refine jAl rfl ?_) | (refine k_tt rfl rfl ?_))
  all_goals refine jY (vs:=[_]) ?_
  all_goals (rw [oneOf_one,e])
 ·have e:=h2 h64
  have hnl:=congrArg List.length e
  simp only [List.length_append] at hnl
  refine jE [(0,_)] Tryz.func38 Tryz.ntmps38 fun B hB=>?_
  repeat' (first | refine jM ?_ | (refine jo ?_;first | refine jO fun _=>?_ | refine jAl rfl ?_) | (refine k_ff rfl (dFf ‹_›) ?_))
  all_goals refine jY (vs:=[_]) ?_
  all_goals (rw [oneOf_one,e])
theorem c_must {b : Nat} {qs : List TyP} {k s : List UInt8} {u : V} (hS : ScI G b qs) (hw : SchW (tyq qs)) (hk : kindIn (tyq qs) k = true) (hvo : valOf (tyq qs) k s = some u) :
  FnS Tryz.prog 121 [Pt b 0,Ag (kdF k),S s] G (fun r G'=>∃ c,r = Ag (vcF c) ∧ V.rep G' u c):=by
 have hl:=(valOf_rd hvo).2
 have cx_ris : FnS Tryz.prog 27 [Pt b 0,Ag [S (sg k),S (bs k),S (nm k)],S s] G (fun v G'=>∃ cv,v = Tu [Ag (vcF cv),Bo true] ∧ V.rep G' u cv):=by
  refine (c_readI (G:=G) (b:=b) (s:=s) hS hw hk oM).mono ?_
  rintro v G' L' ⟨h1,h2,⟨h4,_⟩ | ⟨u',c,h4,rfl,h5⟩⟩
  ·rw [hvo] at h4;cases h4
  ·rw [hvo] at h4;obtain rfl:=Option.some.inj h4;exact ⟨h1,h2,c,rfl,h5⟩
 unfold kdF
 refine jB [(0,_),(1,_),(2,_)] Tryz.func121 Tryz.ntmps121 fun B hok hB hW=>?_
 repeat' (first | (refine jR ?_) | (refine jo ?_;first | refine jO fun _=>?_ | refine jL fun _=>?_ | refine jAm rfl ?_ | refine jC rfl rfl rfl ?_ | (refine c_fns rfl rfl rfl cx_ris rfl ?_;rintro _ G hle ⟨cv,rfl,hrv⟩;skip)))
 all_goals refine jZ (vs:=[_]) rfl ⟨rc_A rfl rfl rfl rfl,trivial⟩ rfl ⟨hle,rfl,?_⟩
 all_goals exact ⟨cv,rfl,hrv⟩
theorem getV_told {ts : List Ty} {f : Fld} {fs : List (Fld × V)} {j : Nat} (hj : j < fs.length) (hjn : (nth fs j).1.tag = f.tag) (hno : ∀ i,i < j → (nth fs i).1.tag ≠ f.tag) : getV ts (.nd 82 [] 0 (fs.map fldV)) f = (nth fs j).2:=by
 unfold getV
 rw [V.kids,toldV_at hj hjn hno];rfl
theorem getV_untold {ts : List Ty} {f : Fld} {fs : List (Fld × V)} (hno : ∀ i,i < fs.length → (nth fs i).1.tag ≠ f.tag) : getV ts (.nd 82 [] 0 (fs.map fldV)) f = standV ts f:=by
 unfold getV
 rw [V.kids,toldV_no hno];rfl
theorem c_getI {b bf of j : Nat} {qs : List TyP} {t : Ty} {fs : List (Fld × V)} {c : VC} (hS : ScI G b qs) (hw : SchW (tyq qs)) (ht : t ∈ tyq qs) (hso : t.sort = 82) (hsf : Seg G bf of (rows fiF t.fields)) (hj : j < t.fields.length) (hrep : V.rep G (.nd 82 [] 0 (fs.map fldV)) c) (h9 : fs.length ≤ 1000000) :
  FnS Tryz.prog 88 [Pt b 0,Ag (vcF c),Pt bf (of + j * 6)] G (fun r G'=>∃ c',r = Ag (vcF c') ∧ V.rep G' (getV (tyq qs) (.nd 82 [] 0 (fs.map fldV)) (nth t.fields j)) c'):=by
 obtain ⟨a,k,cs,rfl,_,_,_,hcl,hsl,hrs⟩:=rep_inv hrep
 have hml : (fs.map fldV).length = fs.length:=by simp
 rw [hml] at hcl hsl
 have hfm : nth t.fields j ∈ t.fields:=nth_mem hj
 have hdk : kindIn (tyq qs) (nth t.fields j).kind = true:=kind_in hw ht oM hfm
 obtain ⟨g1,g2,g3⟩:=standV_ok hw ht oM hfm
 have cx_of:=c_ofI hS hw hsf hj hdk
 have hnt : ∀ i,i < fs.length → nth (fs.map fldV) i = fldV (nth fs i):=fun i hi=>by rw [nth_eq (by simpa using hi),nth_eq hi];simp
 have hrn : ∀ i,i < fs.length → V.rep G (fldV (nth fs i)) (nth cs i):=fun i hi=>by
  have:=reps_nth hrs i oM
  rwa [hnt i hi] at this
 have e0 : vcF ⟨82,[],0,a,(fs.map fldV).length,k⟩ = [U8 (82 : Nat),S [],I 0,.slice a fs.length k]:=by rw [← hml];rfl
 rw [e0]
 refine jB [(0,_),(1,_),(2,_)] Tryz.func88 Tryz.ntmps88 fun B hok hB hW=>?_
 repeat' (first | (refine jR ?_) | (refine jo ?_;first | refine jO fun _=>?_ | refine jL fun _=>?_ | refine jAl rfl ?_ | refine jV (g_lenL rfl) ?_))
 rename_i y4 y6
 refine k_loop (ι:=Nat) (fun i=>i ≤ fs.length ∧ ∀ l,l < i → (nth fs l).1.tag ≠ (nth t.fields j).tag) (fun i=>[(0,Pt b 0),(2,Pt bf (of + j * 6)),(6,Pt y6 0),(10,.slice a fs.length k),(11,I fs.length),(12,I i)]) (fun _=>G) (fun i=>[.blk y6 (.cells (List.toArray [U8 0,S [],I 0,nilS]) tVal (0,0))]) (fun i=>fs.length - i) 0 ?_ tU rfl sB (fun i Hi=>?_)
 ·exact ⟨Nat.zero_le _,fun l hl=>absurd hl oM⟩
 obtain ⟨hi0,hno⟩:=Hi
 by_cases hi : i < fs.length
 ·obtain ⟨xb,xo,xc,e,hsx⟩:=hsl.expl oM
  simp only [Value.slice.injEq] at e
  obtain ⟨rfl,-,rfl⟩:=e
  obtain ⟨a1,k1,cs1,hci,_,_,_,hcl1,hsl1,hrs1⟩:=rep_inv (hrn i hi)
  rw [V.reps] at hrs1
  obtain ⟨c1,cs2,rfl,hr1,hr2⟩:=hrs1
  rw [V.reps] at hr2
  subst hr2
  have hci : nth cs i = ⟨61,[],(nth fs i).1.tag,a1,1,k1⟩:=hci
  have hsl1 : SlV G (.slice a1 1 k1) 4 ([c1] : List VC).length (rows vcF [c1]):=hsl1
  obtain ⟨zb,zo,zc,e,hsz⟩:=hsl1.expl oM
  simp only [Value.slice.injEq] at e
  obtain ⟨rfl,-,rfl⟩:=e
  by_cases ht2 : (nth fs i).1.tag = (nth t.fields j).tag
  ·have hget:=getV_told (ts:=tyq qs) hi ht2 hno
   rw [hget]
   repeat' (first | (refine jR ?_) | (refine jo ?_;first | refine jL fun _=>?_ | refine jAl rfl ?_ | (refine jV (g_ldRx rfl rfl aS ?_ aS) ?_;(focus ((omega);done))) | (refine jV (g_iaddrN rfl rfl oM) ?_) | refine jC rfl rfl rfl ?_) | (refine k_tt rfl (by refine decide_eq_true ?_;first | assumption | omega) ?_) | (refine k_any (s_any (id:=4) _ (fun _ h=>h) mixed ?_);refine jT 3 [0,2,3,4] (bts 7 29) ?_;(refine jG (bts 7 31) 1 rfl (g_ld rfl rfl rfl) ?_);((refine jG (bts 7 63) 5 rfl (g_ldRF rfl rfl aS ?_ rfl rfl) ?_;(focus ((omega);done))));refine jT 0 [6] (bts 7 127) ?_;refine jQ ?_))
   dsimp only [vcF,VC.sl]
   repeat' (first | (refine jR ?_) | (refine jo ?_;first | (refine jV (g_ldR rfl rfl aS ?_) ?_;(focus ((omega);done))) | (refine jV (g_iaddr rfl rfl oM) ?_) | refine jC rfl rfl rfl ?_))
   all_goals refine jZ (vs:=[_]) rfl ⟨rc_A rfl rfl rfl rfl,trivial⟩ rfl ⟨Gh.le.refl _,rfl,?_⟩
   all_goals exact ⟨c1,rfl,hr1⟩
  ·repeat' (first | refine jM ?_ | (refine jo ?_;first | refine jL fun _=>?_ | (refine jV (g_ldRx rfl rfl aS ?_ aS) ?_;(focus ((omega);done))) | (refine jV (g_iaddrN rfl rfl oM) ?_) | refine jC rfl rfl rfl ?_) | (refine k_tt rfl (dTt oM) ?_) | (refine k_ff rfl (dFf ‹_›) ?_) | (refine k_any (s_any (id:=4) _ (fun _ h=>h) mixed ?_);refine jT 3 [0,2,3,4] (bts 7 29) ?_;(refine jG (bts 7 31) 1 rfl (g_ld rfl rfl rfl) ?_);((refine jG (bts 7 63) 5 rfl (g_ldRF rfl rfl aS ?_ rfl rfl) ?_;(focus ((omega);done))));refine jT 0 [6] (bts 7 127) ?_;refine jQ ?_))
   exact k_rd (i + 1) ⟨oM,fun l hl=>(by
    rcases Nat.lt_or_ge l i with h | h
    ·exact hno l h
    ·have : l = i:=oM
     subst this;exact ht2)⟩ oM tU rfl sB
 ·have hget:=getV_untold (ts:=tyq qs) (f:=nth t.fields j) (fs:=fs) fun l hl=>hno l oM
  rw [hget]
  have cx_mu:=c_must hS hw hdk g2
  unfold kdF at cx_mu
  repeat' (first | (refine jR ?_) | (refine k_ff rfl (dFf oM) ?_) | (refine k_any (s_anyD (id:=7) (tt:=6) rfl mixed ?_);refine jW 4 [0,1,2,3,5,6] (bts 10 111) ?_;((refine jG (bts 10 127) 4 rfl (g_ldRA rfl rfl aS ?_ rfl rfl) ?_;(focus ((omega);done))));refine jA 7 rfl ?_;(refine c_rt rfl rfl rfl cx_of rfl ?_);refine jK (bts 10 255) ?_;refine jA 8 rfl ?_;(refine c_fns rfl rfl rfl cx_mu rfl ?_;rintro _ G hle ⟨cv,rfl,hrv⟩;skip);refine jK (bts 10 511) ?_;refine jA 9 rfl ?_;(refine jC rfl rfl rfl ?_);refine jK (bts 10 1023) ?_;refine jQ ?_))
  all_goals refine jZ (vs:=[_]) rfl ⟨rc_A rfl rfl rfl rfl,trivial⟩ rfl ⟨hle,rfl,?_⟩
  all_goals exact ⟨cv,rfl,hrv⟩
def StepPI (ts : List Ty) (o : Option (List UInt8 × V)) (r : Value) (G' : Gh) : Prop:=(o = none ∧ r = Tu [Ag [S [],S [],S []],zP,Bo false]) ∨ ∃ k' v' c',o = some (k',v') ∧ r = Tu [Ag (kdF k'),Ag (vcF c'),Bo true] ∧ V.rep G' v' c'
theorem StepPI.no {f : FuncId} {args : List Value} {ts : List Ty} {o : Option (List UInt8 × V)} (h : FnS Tryz.prog f args G (StepPI ts o)) (e : o = none) : FnS Tryz.prog f args G (fun r _=>r = Tu [Ag [S [],S [],S []],zP,Bo false]):=by
 refine h.mono ?_
 rintro v G' L' ⟨h1,h2,⟨_,h3⟩ | ⟨k',v',b',h3,_⟩⟩
 ·exact ⟨h1,h2,h3⟩
 ·rw [e] at h3;cases h3
theorem StepPI.yes {f : FuncId} {args : List Value} {ts : List Ty} {o : Option (List UInt8 × V)} {k' : List UInt8} {v' : V} (h : FnS Tryz.prog f args G (StepPI ts o)) (e : o = some (k',v')) : FnS Tryz.prog f args G (fun r G'=>∃ c',r = Tu [Ag [S (sg k'),S (bs k'),S (nm k')],Ag (vcF c'),Bo true] ∧ V.rep G' v' c'):=by
 refine h.mono ?_
 rintro v G' L' ⟨h1,h2,⟨h3,_⟩ | ⟨k2,v2,b',h3,h4,h5⟩⟩
 ·rw [e] at h3;cases h3
 ·rw [e] at h3
  simp only [Option.some.injEq,Prod.mk.injEq] at h3
  obtain ⟨rfl,rfl⟩:=h3
  exact ⟨h1,h2,b',h4,h5⟩
theorem c_stepL {b : Nat} {k : List UInt8} {ts : List Ty} {ks : List V} {c : VC} {n : Int} (hr : V.rep G (.nd 91 [] 0 ks) c) (hn : 0 ≤ n ∧ n ≤ 999999) (hkl : ks.length ≤ 1000000) :
  FnS Tryz.prog 53 [Pt b 0,Ag (kdF (91 :: k)),Ag (vcF c),I n] G (StepPI ts (stepV ts (91 :: k) (.nd 91 [] 0 ks) n)):=by
 obtain ⟨e1,e2,e3,_⟩:=kdF_cons (c:=91) (k:=k) (.inl rfl)
 have cx_sign:=@c_sign1 G 91 (sg k) (bs k) (nm k)
 have cx_pt:=@c_part G 91 (sg k) (bs k) (nm k)
 obtain ⟨a,kc,cs,rfl,_,_,_,hcl,hsl,hrs⟩:=rep_inv hr
 have hst:=stepV_kid (ts:=ts) (c:=91) (r:=k) (v:=.nd 91 [] 0 ks) (n:=n) (.inl rfl)
 rw [V.kids] at hst
 rw [hst]
 unfold kdF
 rw [e1,e2,e3]
 have e0 : vcF ⟨91,[],0,a,ks.length,kc⟩ = [U8 (91 : Nat),S [],I 0,.slice a ks.length kc]:=rfl
 rw [e0]
 by_cases hn2 : n < ((ks.length : Nat) : Int)
 ·obtain ⟨i,rfl⟩ : ∃ i : Nat,n = i:=⟨n.toNat,oM⟩
  obtain ⟨xb,xo,xc,e,hsx⟩:=hsl.expl oM
  simp only [Value.slice.injEq] at e
  obtain ⟨rfl,-,rfl⟩:=e
  have hri:=reps_nth hrs i oM
  obtain ⟨d,hxi⟩ : ∃ d,nth cs i = d:=⟨_,rfl⟩
  rw [hxi] at hri
  rw [if_pos hn2]
  refine jB [(0,_),(1,_),(2,_),(3,_)] Tryz.func53 Tryz.ntmps53 fun B hok hB hW=>?_
  repeat' (first | (refine jR ?_) | (refine jo ?_;first | refine jO fun _=>?_ | refine jL fun _=>?_ | refine jAl rfl ?_ | refine jAm rfl ?_ | refine jV (g_lenL rfl) ?_ | (refine c_rt rfl rfl rfl cx_sign rfl ?_)) | (refine k_tt rfl rfl ?_) | (refine k_ff rfl (dFf oM) ?_))
  rename_i y5 y6 y8 y9
  (refine k_any (s_any (id:=5) [.blk y6 (.cells (List.toArray [U8 (91 : Nat),S [],I 0,.slice (some ⟨xb,xo,none⟩) ks.length kc]) tVal (0,0)),.blk y5 (.cells (List.toArray [S (91 :: sg k),S (bs k),S (nm k)]) tKnd (0,0))] (by intro y hy;simp only [List.mem_cons,List.not_mem_nil,or_false] at hy ⊢;rcases hy with hy | hy <;> simp [hy]) mixed ?_);refine jW 8 [2,4] (bts 10 20) ?_;(refine jG (bts 10 21) 0 rfl (g_ldA rfl rfl rfl rfl) ?_);(refine jG (bts 10 29) 3 rfl (g_ld rfl rfl rfl) ?_);((refine jG (bts 10 61) 5 rfl (g_iaddrN rfl rfl ?_) ?_;(focus ((omega);done))));((refine jG (bts 10 125) 6 rfl (g_ldRx rfl rfl aS ?_ aS) ?_;(focus ((omega);done))));refine jA 1 rfl ?_;(refine c_rt rfl rfl rfl cx_pt rfl ?_);refine jK (bts 10 127) ?_;refine jA 7 rfl ?_;(refine jC rfl rfl rfl ?_);refine jK (bts 10 255) ?_;refine jA 8 rfl ?_;(refine jC rfl rfl rfl ?_);refine jK (bts 10 511) ?_;refine jW 0 [9] (bts 10 1023) ?_;refine jQ ?_)
  all_goals repeat' (refine jR ?_)
  all_goals refine jZ (vs:=[_,_,_]) rfl ⟨rc_A rfl rfl rfl rfl,rc_A rfl rfl rfl rfl,rfl,trivial⟩ rfl ⟨Gh.le.refl _,rfl,?_⟩
  all_goals exact .inr ⟨k,nth ks i,d,rfl,rfl,hri⟩
 ·rw [if_neg hn2]
  refine jB [(0,_),(1,_),(2,_),(3,_)] Tryz.func53 Tryz.ntmps53 fun B hok hB hW=>?_
  repeat' (first | (refine jR ?_) | (refine jo ?_;first | refine jO fun _=>?_ | refine jL fun _=>?_ | refine jAl rfl ?_ | refine jAm rfl ?_ | refine jV (g_lenL rfl) ?_ | refine jV (g_bld rfl rfl) ?_ | refine jC rfl rfl rfl ?_ | (refine c_rt rfl rfl rfl cx_sign rfl ?_)) | (refine k_tt rfl (by first | rfl | (refine decide_eq_true ?_;(omega))) ?_))
  all_goals refine jZ (vs:=[_,_,_]) rfl ⟨rc_A rfl rfl rfl rfl,rc_A rfl rfl rfl rfl,rfl,trivial⟩ rfl ⟨Gh.le.refl _,rfl,?_⟩
  all_goals exact .inl ⟨rfl,rfl⟩
theorem c_stepO {b : Nat} {k : List UInt8} {ts : List Ty} {ks : List V} {c : VC} {n : Int} (hks : ks = [] ∨ ∃ w,ks = [w]) (hr : V.rep G (.nd 63 [] 0 ks) c) (hn : 0 ≤ n ∧ n ≤ 999999) :
  FnS Tryz.prog 53 [Pt b 0,Ag (kdF (63 :: k)),Ag (vcF c),I n] G (StepPI ts (stepV ts (63 :: k) (.nd 63 [] 0 ks) n)):=by
 obtain ⟨e1,e2,e3,_⟩:=kdF_cons (c:=63) (k:=k) (.inr rfl)
 have cx_sign:=@c_sign1 G 63 (sg k) (bs k) (nm k)
 have cx_pt:=@c_part G 63 (sg k) (bs k) (nm k)
 obtain ⟨a,kc,cs,rfl,_,_,_,hcl,hsl,hrs⟩:=rep_inv hr
 have hst:=stepV_kid (ts:=ts) (c:=63) (r:=k) (v:=.nd 63 [] 0 ks) (n:=n) (.inr rfl)
 rw [V.kids] at hst
 rw [hst]
 unfold kdF
 rw [e1,e2,e3]
 have e0 : vcF ⟨63,[],0,a,ks.length,kc⟩ = [U8 (63 : Nat),S [],I 0,.slice a ks.length kc]:=rfl
 rw [e0]
 rcases hks with rfl | ⟨w,rfl⟩
 ·rw [if_neg (by simp;omega)]
  by_cases hn0 : n = 0
  all_goals
   refine jB [(0,_),(1,_),(2,_),(3,_)] Tryz.func53 Tryz.ntmps53 fun B hok hB hW=>?_
   repeat' (first | (refine jR ?_) | (refine jo ?_;first | refine jO fun _=>?_ | refine jL fun _=>?_ | refine jAl rfl ?_ | refine jAm rfl ?_ | refine jV (g_lenL rfl) ?_ | refine jV (g_bld rfl rfl) ?_ | refine jC rfl rfl rfl ?_ | (refine jAt rfl ?_) | (refine jAf rfl ?_) | (refine c_rt rfl rfl rfl cx_sign rfl ?_)) | (refine k_gt rfl rfl (dTt ‹_›) ?_) | (refine k_gf rfl rfl (dFf oM) ?_) | (refine k_tt rfl rfl ?_) | (refine k_ff rfl rfl ?_))
   all_goals refine jZ (vs:=[_,_,_]) rfl ⟨rc_A rfl rfl rfl rfl,rc_A rfl rfl rfl rfl,rfl,trivial⟩ rfl ⟨Gh.le.refl _,rfl,?_⟩
   all_goals exact .inl ⟨rfl,rfl⟩
 ·rw [V.reps] at hrs
  obtain ⟨d,cs2,rfl,hri,hr2⟩:=hrs
  rw [V.reps] at hr2
  subst hr2
  have hsl : SlV G (.slice a 1 kc) 4 ([d] : List VC).length (rows vcF [d]):=hsl
  obtain ⟨xb,xo,xc,e,hsx⟩:=hsl.expl (by simp)
  simp only [Value.slice.injEq] at e
  obtain ⟨rfl,-,rfl⟩:=e
  have hxi : nth [d] (Int.toNat 0) = d:=rfl
  show FnS _ _ [Pt b 0,Ag [S (63 :: sg k),S (bs k),S (nm k)],Ag [U8 (63 : Nat),S [],I 0,.slice (some ⟨xb,xo,none⟩) 1 kc],I n] G _
  by_cases hn0 : n = 0
  ·subst hn0
   rw [if_pos (by simp)]
   refine jB [(0,_),(1,_),(2,_),(3,_)] Tryz.func53 Tryz.ntmps53 fun B hok hB hW=>?_
   repeat' (first | (refine jR ?_) | (refine jo ?_;first | refine jO fun _=>?_ | refine jL fun _=>?_ | refine jAl rfl ?_ | refine jAm rfl ?_ | refine jV (g_lenL rfl) ?_ | (refine jAf rfl ?_) | (refine c_rt rfl rfl rfl cx_sign rfl ?_)) | (refine k_gf rfl rfl rfl ?_) | (refine k_tt rfl rfl ?_) | (refine k_ff rfl rfl ?_))
   rename_i y5 y6 y8 y9
   (refine k_any (s_any (id:=9) [.blk y6 (.cells (List.toArray [U8 (63 : Nat),S [],I 0,.slice (some ⟨xb,xo,none⟩) 1 kc]) tVal (0,0)),.blk y5 (.cells (List.toArray [S (63 :: sg k),S (bs k),S (nm k)]) tKnd (0,0))] (by intro y hy;simp only [List.mem_cons,List.not_mem_nil,or_false] at hy ⊢;rcases hy with hy | hy <;> simp [hy]) mixed ?_);refine jW 8 [2] (bts 9 4) ?_;(refine jG (bts 9 5) 0 rfl (g_ldA rfl rfl rfl rfl) ?_);(refine jG (bts 9 13) 3 rfl (g_ld rfl rfl rfl) ?_);((refine jG (bts 9 29) 4 rfl (g_iaddr rfl rfl ?_) ?_;(focus ((omega);done))));((refine jG (bts 9 61) 5 rfl (g_ldRx rfl rfl aS ?_ aS) ?_;(focus ((simp only [List.length_append,List.length_cons,List.length_nil,List.length_take];omega);done))));refine jA 1 rfl ?_;(refine c_rt rfl rfl rfl cx_pt rfl ?_);refine jK (bts 9 63) ?_;refine jA 6 rfl ?_;(refine jC rfl rfl rfl ?_);refine jK (bts 9 127) ?_;refine jA 7 rfl ?_;(refine jC rfl rfl rfl ?_);refine jK (bts 9 255) ?_;refine jW 0 [8] (bts 9 511) ?_;refine jQ ?_)
   all_goals repeat' (refine jR ?_)
   all_goals refine jZ (vs:=[_,_,_]) rfl ⟨rc_A rfl rfl rfl rfl,rc_A rfl rfl rfl rfl,rfl,trivial⟩ rfl ⟨Gh.le.refl _,rfl,?_⟩
   all_goals exact .inr ⟨k,w,d,rfl,rfl,hri⟩
  ·rw [if_neg (show ¬ n < (([w].length : Nat) : Int) by show ¬ n < ((1 : Nat) : Int);omega)]
   refine jB [(0,_),(1,_),(2,_),(3,_)] Tryz.func53 Tryz.ntmps53 fun B hok hB hW=>?_
   repeat' (first | (refine jR ?_) | (refine jo ?_;first | refine jO fun _=>?_ | refine jL fun _=>?_ | refine jAm rfl ?_ | refine jV (g_bld rfl rfl) ?_ | refine jC rfl rfl rfl ?_ | (refine jAt rfl ?_) | (refine c_rt rfl rfl rfl cx_sign rfl ?_)) | (refine k_gt rfl rfl (dTt ‹_›) ?_) | (refine k_tt rfl rfl ?_) | (refine k_ff rfl rfl ?_))
   all_goals refine jZ (vs:=[_,_,_]) rfl ⟨rc_A rfl rfl rfl rfl,rc_A rfl rfl rfl rfl,rfl,trivial⟩ rfl ⟨Gh.le.refl _,rfl,?_⟩
   all_goals exact .inl ⟨rfl,rfl⟩
theorem c_stepP {b : Nat} {x : List UInt8} {ts : List Ty} {v : V} {c : VC} {n : Int} (hx : x = [110] ∨ x = [116] ∨ x = [102]) :
  FnS Tryz.prog 53 [Pt b 0,Ag (kdF x),Ag (vcF c),I n] G (StepPI ts (stepV ts x v n)):=by
 have hno : stepV ts x v n = none:=by
  rcases hx with rfl | rfl | rfl
  all_goals exact stepV_plain dC dC dC
 rw [hno]
 obtain ⟨w,tx,tg,a,m,kc⟩:=c
 have e0 : vcF ⟨w,tx,tg,a,m,kc⟩ = [U8 (w : Nat),S tx,I tg,.slice a m kc]:=rfl
 rw [e0]
 have e1 : kdF x = [S [],S x,S []]:=by rcases hx with rfl | rfl | rfl <;> rfl
 rw [e1]
 have cx_sign:=@c_sign0 G x []
 have hx64 : ¬ x = [64]:=by rcases hx with rfl | rfl | rfl <;> decide
 refine jB [(0,_),(1,_),(2,_),(3,_)] Tryz.func53 Tryz.ntmps53 fun B hok hB hW=>?_
 repeat' (first | (refine jR ?_) | (refine jo ?_;first | refine jO fun _=>?_ | refine jL fun _=>?_ | refine jAl rfl ?_ | refine jAm rfl ?_ | refine jV (g_bld rfl rfl) ?_ | refine jC rfl rfl rfl ?_ | (refine c_rt rfl rfl rfl cx_sign rfl ?_)) | (refine k_tt rfl (dTt ‹_›) ?_) | (refine k_ff rfl rfl ?_))
 all_goals refine jZ (vs:=[_,_,_]) rfl ⟨rc_A rfl rfl rfl rfl,rc_A rfl rfl rfl rfl,rfl,trivial⟩ rfl ⟨Gh.le.refl _,rfl,?_⟩
 all_goals exact .inl ⟨rfl,rfl⟩
theorem kind_typ {qs : List TyP} {k : List UInt8} {t : Ty} (hki : kindIn (tyq qs) k = true) (hrf : refT (tyq qs) k = some t) : kdF k = [S [],S [64],S (nm k)] ∧ ∃ p,findQ qs (nm k) = some (p,t) ∧ (p,t) ∈ qs:=by
 obtain ⟨r,rfl⟩:=refT_64 hrf
 have h91 : ¬ ((64 : UInt8).toNat = 91 ∨ (64 : UInt8).toNat = 63):=by decide
 have hsg:=sg_none (r:=r) h91
 have hcs:=core_self (r:=r) h91
 have hrn : (refN (core (64 :: r))).isSome = true:=by rw [hcs];rfl
 have hbs : bs (64 :: r) = [64]:=(bs_at (kindIn_ok hki)).2 hrn
 have hnm : refN (64 :: r) = some (nm (64 :: r)):=by unfold nm;rw [hcs];rfl
 have hft : findT (tyq qs) (nm (64 :: r)) = some t:=by unfold refT at hrf;rw [hnm] at hrf;exact hrf
 rw [← findQ_ty] at hft
 rcases hfq : findQ qs (nm (64 :: r)) with _ | ⟨p,t'⟩
 ·rw [hfq] at hft;cases hft
 rw [hfq] at hft
 obtain rfl : t' = t:=Option.some.inj hft
 exact ⟨by unfold kdF;rw [hsg,hbs],p,rfl,findQ_mem hfq⟩
theorem c_stepT {b : Nat} {qs : List TyP} {k : List UInt8} {t : Ty} {v : V} {c : VC} {n : Int} (hS : ScI G b qs) (hw : SchW (tyq qs)) (hki : kindIn (tyq qs) k = true) (hrf : refT (tyq qs) k = some t) (ho : OfK (tyq qs) k v) (hr : V.rep G v c) (hn : 0 ≤ n ∧ n ≤ 999999) (htt : v.tot ≤ 1000000) :
  FnS Tryz.prog 53 [Pt b 0,Ag (kdF k),Ag (vcF c),I n] G (StepPI (tyq qs) (stepV (tyq qs) k v n)):=by
 obtain ⟨hkd,p,hfq,hqm⟩:=kind_typ hki hrf
 have hst:=stepV_typ (v:=v) (n:=n) hrf
 have htm:=refT_mem hrf
 have hW:=hw.ty t htm
 obtain ⟨fv,ln,hsg,hfv⟩:=hS.ty _ hqm
 dsimp only at hsg hfv
 have hkv:=kvF_find qs (nm k)
 rw [hfq] at hkv
 dsimp only [Option.map_some] at hkv
 obtain ⟨u,m,g1,g2,g3⟩:=hS.at'
 have hfl:=hW.len
 have cx_sign:=@c_sign0 G [64] (nm k)
 rw [hkd]
 cases hg : fldT t.fields n with
 | none =>
  rw [hg] at hst
  dsimp only at hst
  rw [hst]
  have cx_fld:=c_fieldI0 (tag:=n) hsg hfv oM hg
  obtain ⟨w,tx,tg,a,mm,kc⟩:=c
  have e0 : vcF ⟨w,tx,tg,a,mm,kc⟩ = [U8 (w : Nat),S tx,I tg,.slice a mm kc]:=rfl
  rw [e0]
  refine jB [(0,_),(1,_),(2,_),(3,_)] Tryz.func53 Tryz.ntmps53 fun B hok hB hW=>?_
  repeat' (first | (refine jR ?_) | (refine jo ?_;first | refine jO fun _=>?_ | refine jL fun _=>?_ | refine jAl rfl ?_ | refine jAm rfl ?_ | (refine c_rt rfl rfl rfl cx_sign rfl ?_)) | (refine k_ff rfl rfl ?_))
  rename_i y5 y6 y8 y9
  (refine k_any (s_any (id:=12) [.blk y9 (.cells (List.toArray [U8 0,S [],I 0,nilS]) tVal (0,0)),.blk y8 (.cells (List.toArray [S [],S [],S []]) tKnd (0,0)),.blk y6 (.cells (List.toArray [U8 (w : Nat),S tx,I tg,.slice a mm kc]) tVal (0,0)),.blk y5 (.cells (List.toArray [S [],S [64],S (nm k)]) tKnd (0,0))] (by intro y hy;simp only [List.mem_cons,List.not_mem_nil,or_false] at hy ⊢;rcases hy with hy | hy | hy | hy <;> simp [hy]) mixed ?_);refine jT 4 [0,1,2,4] (bts 8 23) ?_;(refine jG (bts 8 31) 3 rfl (g_ldS rfl rfl aS rfl rfl) ?_);(refine jG (bts 8 63) 5 rfl (g_ld rfl rfl rfl) ?_);((refine jG (bts 8 127) 6 rfl (g_lookupX rfl rfl (map_G aS) aS rfl) ?_));refine jT 0 [7] (bts 8 255) ?_;refine jQ ?_)
  all_goals repeat' (first | (refine jR ?_) | (refine jo ?_;first | refine jV (g_bld rfl rfl) ?_ | refine jC rfl rfl rfl ?_ | (refine jAt rfl ?_) | refine jV (g_peq0 rfl rfl) ?_ | (refine c_rt rfl rfl rfl cx_fld rfl ?_)) | (refine k_gt rfl rfl rfl ?_) | (refine k_tt rfl rfl ?_))
  all_goals refine jZ (vs:=[_,_,_]) rfl ⟨rc_A rfl rfl rfl rfl,rc_A rfl rfl rfl rfl,rfl,trivial⟩ rfl ⟨Gh.le.refl _,rfl,?_⟩
  all_goals exact .inl ⟨rfl,rfl⟩
 | some f =>
  rw [hg] at hst
  dsimp only at hst
  obtain ⟨j,hj,hjf,hjn,hjx⟩:=fldT_some hg
  obtain ⟨bf,of,cf,rfl,hsf⟩:=hfv.expl oM
  have cx_fld:=c_fieldI1 hsg hsf oM hj hjf hjn
  subst hjx
  rcases hW.sort with hso | hso | hso
  ·rw [if_neg oM,if_pos hso] at hst
   rw [hst]
   rcases ofK_inv_t ho hrf with ⟨_,fs,rfl,g4,g5,_,_⟩ | ⟨h1,_⟩ | ⟨h1,_⟩
   ·have h9 : fs.length ≤ 1000000:=by
     have h7:=tots_len (fs.map fldV)
     rw [nd_tot] at htt
     have e1 : (fs.map fldV).length = fs.length:=by simp
     omega
    have cx_ge:=c_getI hS hw htm hso hsf hj hr h9
    obtain ⟨a,kc,cs,rfl,_,_,_,hcl,hsl,hrs⟩:=rep_inv hr
    have hml : (fs.map fldV).length = fs.length:=by simp
    have e0 : vcF ⟨82,[],0,a,(fs.map fldV).length,kc⟩ = [U8 (82 : Nat),S [],I 0,.slice a fs.length kc]:=by rw [← hml];rfl
    rw [e0] at cx_ge ⊢
    refine jB [(0,_),(1,_),(2,_),(3,_)] Tryz.func53 Tryz.ntmps53 fun B hok hB hW=>?_
    repeat' (first | (refine jR ?_) | (refine jo ?_;first | refine jO fun _=>?_ | refine jL fun _=>?_ | refine jAl rfl ?_ | refine jAm rfl ?_ | (refine c_rt rfl rfl rfl cx_sign rfl ?_)) | (refine k_ff rfl rfl ?_))
    rename_i y5 y6 y8 y9
    (refine k_any (s_any (id:=12) [.blk y9 (.cells (List.toArray [U8 0,S [],I 0,nilS]) tVal (0,0)),.blk y8 (.cells (List.toArray [S [],S [],S []]) tKnd (0,0)),.blk y6 (.cells (List.toArray [U8 (82 : Nat),S [],I 0,.slice a fs.length kc]) tVal (0,0)),.blk y5 (.cells (List.toArray [S [],S [64],S (nm k)]) tKnd (0,0))] (by intro y hy;simp only [List.mem_cons,List.not_mem_nil,or_false] at hy ⊢;rcases hy with hy | hy | hy | hy <;> simp [hy]) mixed ?_);refine jT 4 [0,1,2,4] (bts 8 23) ?_;(refine jG (bts 8 31) 3 rfl (g_ldS rfl rfl aS rfl rfl) ?_);(refine jG (bts 8 63) 5 rfl (g_ld rfl rfl rfl) ?_);((refine jG (bts 8 127) 6 rfl (g_lookupX rfl rfl (map_G aS) aS rfl) ?_));refine jT 0 [7] (bts 8 255) ?_;refine jQ ?_)
    all_goals repeat' (first | (refine jR ?_) | (refine jo ?_;first | refine jV (g_ldS rfl rfl aS rfl rfl) ?_ | (refine jAf rfl ?_) | refine jV (g_peq0 rfl rfl) ?_ | (refine c_rt rfl rfl rfl cx_fld rfl ?_)) | (refine k_gf rfl rfl (by first | rfl | (refine decide_eq_false ?_;(omega))) ?_) | (refine k_ff rfl (by first | rfl | (refine decide_eq_false ?_;(omega))) ?_))
    all_goals (refine k_any (s_any (id:=18) [.blk y6 (.cells (List.toArray [U8 (82 : Nat),S [],I 0,.slice a fs.length kc]) tVal (0,0)),.blk y5 (.cells (List.toArray [S [],S [64],S (nm k)]) tKnd (0,0))] (by intro y hy;simp only [List.mem_cons,List.not_mem_nil,or_false] at hy ⊢;rcases hy with hy | hy <;> simp [hy]) mixed ?_);refine jW 6 [0,1,2,4,6] (bts 11 87) ?_;((refine jG (bts 11 95) 3 rfl (g_ldRA rfl rfl aS ?_ rfl rfl) ?_;(focus ((omega);done))));(refine jG (bts 11 127) 5 rfl (g_ldA rfl rfl rfl rfl) ?_);refine jA 7 rfl ?_;(refine c_fns rfl rfl rfl cx_ge rfl ?_;rintro _ G hle ⟨cv,rfl,hrv⟩;skip);refine jK (bts 11 255) ?_;refine jA 8 rfl ?_;(refine jC rfl rfl rfl ?_);refine jK (bts 11 511) ?_;refine jA 9 rfl ?_;(refine jC rfl rfl rfl ?_);refine jK (bts 11 1023) ?_;refine jW 0 [10] (bts 11 2047) ?_;refine jQ ?_)
    all_goals repeat' (refine jR ?_)
    all_goals refine jZ (vs:=[_,_,_]) rfl ⟨rc_A rfl rfl rfl rfl,rc_A rfl rfl rfl rfl,rfl,trivial⟩ rfl ⟨hle,rfl,?_⟩
    all_goals exact .inr ⟨_,_,cv,rfl,rfl,hrv⟩
   ·omega
   ·omega
  ·rw [if_neg oM,if_neg oM] at hst
   rcases ofK_inv_t ho hrf with ⟨h1,_⟩ | ⟨h1,_⟩ | ⟨_,_,d,w,rfl,g4,g5⟩
   ·omega
   ·omega
   ·obtain ⟨a,kc,cs,rfl,_,_,_,hcl,hsl,hrs⟩:=rep_inv hr
    rw [V.reps] at hrs
    obtain ⟨c1,cs2,rfl,hri,hr2⟩:=hrs
    rw [V.reps] at hr2
    subst hr2
    have hsl : SlV G (.slice a 1 kc) 4 ([c1] : List VC).length (rows vcF [c1]):=hsl
    obtain ⟨xb,xo,xc,e,hsx⟩:=hsl.expl (by simp)
    simp only [Value.slice.injEq] at e
    obtain ⟨rfl,-,rfl⟩:=e
    have hxi : nth [c1] (Int.toNat 0) = c1:=rfl
    show FnS _ _ [Pt b 0,Ag [S [],S [64],S (nm k)],Ag [U8 (85 : Nat),S [],I d.tag,.slice (some ⟨xb,xo,none⟩) 1 kc],I n] G _
    by_cases hdn : d.tag = n
    ·rw [if_pos (show V.tag (.nd 85 [] d.tag [w]) = n from hdn)] at hst
     rw [hst]
     refine jB [(0,_),(1,_),(2,_),(3,_)] Tryz.func53 Tryz.ntmps53 fun B hok hB hW=>?_
     repeat' (first | (refine jR ?_) | (refine jo ?_;first | refine jO fun _=>?_ | refine jL fun _=>?_ | refine jAl rfl ?_ | refine jAm rfl ?_ | (refine c_rt rfl rfl rfl cx_sign rfl ?_)) | (refine k_ff rfl rfl ?_))
     rename_i y5 y6 y8 y9
     (refine k_any (s_any (id:=12) [.blk y9 (.cells (List.toArray [U8 0,S [],I 0,nilS]) tVal (0,0)),.blk y8 (.cells (List.toArray [S [],S [],S []]) tKnd (0,0)),.blk y6 (.cells (List.toArray [U8 (85 : Nat),S [],I d.tag,.slice (some ⟨xb,xo,none⟩) 1 kc]) tVal (0,0)),.blk y5 (.cells (List.toArray [S [],S [64],S (nm k)]) tKnd (0,0))] (by intro y hy;simp only [List.mem_cons,List.not_mem_nil,or_false] at hy ⊢;rcases hy with hy | hy | hy | hy <;> simp [hy]) mixed ?_);refine jT 4 [0,1,2,4] (bts 8 23) ?_;(refine jG (bts 8 31) 3 rfl (g_ldS rfl rfl aS rfl rfl) ?_);(refine jG (bts 8 63) 5 rfl (g_ld rfl rfl rfl) ?_);((refine jG (bts 8 127) 6 rfl (g_lookupX rfl rfl (map_G aS) aS rfl) ?_));refine jT 0 [7] (bts 8 255) ?_;refine jQ ?_)
     all_goals repeat' (first | (refine jR ?_) | (refine jo ?_;first | refine jAl rfl ?_ | refine jV (g_ldS rfl rfl aS rfl rfl) ?_ | (refine jAt rfl ?_) | (refine jAf rfl ?_) | refine jV (g_peq0 rfl rfl) ?_ | (refine c_rt rfl rfl rfl cx_fld rfl ?_)) | (refine k_gt rfl rfl (dTt oM) ?_) | (refine k_gf rfl rfl (by first | rfl | (refine decide_eq_false ?_;(omega))) ?_) | (refine k_tt rfl (dTt oM) ?_) | (refine k_ff rfl (dFf oM) ?_))
     all_goals (refine k_any (s_any (id:=17) [.blk y6 (.cells (List.toArray [U8 (85 : Nat),S [],I d.tag,.slice (some ⟨xb,xo,none⟩) 1 kc]) tVal (0,0)),.blk y5 (.cells (List.toArray [S [],S [64],S (nm k)]) tKnd (0,0))] (by intro y hy;simp only [List.mem_cons,List.not_mem_nil,or_false] at hy ⊢;rcases hy with hy | hy <;> simp [hy]) mixed ?_);refine jW 7 [0,1,2,4] (bts 11 23) ?_;((refine jG (bts 11 31) 3 rfl (g_ldRA rfl rfl aS ?_ rfl rfl) ?_;(focus ((omega);done))));(refine jG (bts 11 63) 5 rfl (g_ld rfl rfl rfl) ?_);((refine jG (bts 11 127) 6 rfl (g_iaddr rfl rfl ?_) ?_;(focus ((omega);done))));((refine jG (bts 11 255) 7 rfl (g_ldRx rfl rfl aS ?_ aS) ?_;(focus ((simp only [List.length_append,List.length_cons,List.length_nil,List.length_take];omega);done))));refine jA 8 rfl ?_;(refine jC rfl rfl rfl ?_);refine jK (bts 11 511) ?_;refine jA 9 rfl ?_;(refine jC rfl rfl rfl ?_);refine jK (bts 11 1023) ?_;refine jW 0 [10] (bts 11 2047) ?_;refine jQ ?_)
     all_goals repeat' (refine jR ?_)
     all_goals refine jZ (vs:=[_,_,_]) rfl ⟨rc_A rfl rfl rfl rfl,rc_A rfl rfl rfl rfl,rfl,trivial⟩ rfl ⟨Gh.le.refl _,rfl,?_⟩
     all_goals exact .inr ⟨_,w,c1,rfl,rfl,hri⟩
    ·rw [if_neg (show ¬ V.tag (.nd 85 [] d.tag [w]) = n from hdn)] at hst
     rw [hst]
     refine jB [(0,_),(1,_),(2,_),(3,_)] Tryz.func53 Tryz.ntmps53 fun B hok hB hW=>?_
     repeat' (first | (refine jR ?_) | (refine jo ?_;first | refine jO fun _=>?_ | refine jL fun _=>?_ | refine jAl rfl ?_ | refine jAm rfl ?_ | (refine c_rt rfl rfl rfl cx_sign rfl ?_)) | (refine k_ff rfl rfl ?_))
     rename_i y5 y6 y8 y9
     (refine k_any (s_any (id:=12) [.blk y9 (.cells (List.toArray [U8 0,S [],I 0,nilS]) tVal (0,0)),.blk y8 (.cells (List.toArray [S [],S [],S []]) tKnd (0,0)),.blk y6 (.cells (List.toArray [U8 (85 : Nat),S [],I d.tag,.slice (some ⟨xb,xo,none⟩) 1 kc]) tVal (0,0)),.blk y5 (.cells (List.toArray [S [],S [64],S (nm k)]) tKnd (0,0))] (by intro y hy;simp only [List.mem_cons,List.not_mem_nil,or_false] at hy ⊢;rcases hy with hy | hy | hy | hy <;> simp [hy]) mixed ?_);refine jT 4 [0,1,2,4] (bts 8 23) ?_;(refine jG (bts 8 31) 3 rfl (g_ldS rfl rfl aS rfl rfl) ?_);(refine jG (bts 8 63) 5 rfl (g_ld rfl rfl rfl) ?_);((refine jG (bts 8 127) 6 rfl (g_lookupX rfl rfl (map_G aS) aS rfl) ?_));refine jT 0 [7] (bts 8 255) ?_;refine jQ ?_)
     all_goals repeat' (first | (refine jR ?_) | (refine jo ?_;first | refine jAl rfl ?_ | refine jV (g_ldS rfl rfl aS rfl rfl) ?_ | refine jV (g_bld rfl rfl) ?_ | refine jC rfl rfl rfl ?_ | (refine jAt rfl ?_) | (refine jAf rfl ?_) | refine jV (g_peq0 rfl rfl) ?_ | (refine c_rt rfl rfl rfl cx_fld rfl ?_)) | (refine k_gt rfl rfl (dTt oM) ?_) | (refine k_gf rfl rfl (by first | rfl | (refine decide_eq_false ?_;(omega))) ?_) | (refine k_tt rfl (dTt ‹_›) ?_))
     all_goals refine jZ (vs:=[_,_,_]) rfl ⟨rc_A rfl rfl rfl rfl,rc_A rfl rfl rfl rfl,rfl,trivial⟩ rfl ⟨Gh.le.refl _,rfl,?_⟩
     all_goals exact .inl ⟨rfl,rfl⟩
  ·rw [if_pos hso] at hst
   rw [hst]
   obtain ⟨w,tx,tg,a,mm,kc⟩:=c
   have e0 : vcF ⟨w,tx,tg,a,mm,kc⟩ = [U8 (w : Nat),S tx,I tg,.slice a mm kc]:=rfl
   rw [e0]
   refine jB [(0,_),(1,_),(2,_),(3,_)] Tryz.func53 Tryz.ntmps53 fun B hok hB hW=>?_
   repeat' (first | (refine jR ?_) | (refine jo ?_;first | refine jO fun _=>?_ | refine jL fun _=>?_ | refine jAl rfl ?_ | refine jAm rfl ?_ | (refine c_rt rfl rfl rfl cx_sign rfl ?_)) | (refine k_ff rfl rfl ?_))
   rename_i y5 y6 y8 y9
   (refine k_any (s_any (id:=12) [.blk y9 (.cells (List.toArray [U8 0,S [],I 0,nilS]) tVal (0,0)),.blk y8 (.cells (List.toArray [S [],S [],S []]) tKnd (0,0)),.blk y6 (.cells (List.toArray [U8 (w : Nat),S tx,I tg,.slice a mm kc]) tVal (0,0)),.blk y5 (.cells (List.toArray [S [],S [64],S (nm k)]) tKnd (0,0))] (by intro y hy;simp only [List.mem_cons,List.not_mem_nil,or_false] at hy ⊢;rcases hy with hy | hy | hy | hy <;> simp [hy]) mixed ?_);refine jT 4 [0,1,2,4] (bts 8 23) ?_;(refine jG (bts 8 31) 3 rfl (g_ldS rfl rfl aS rfl rfl) ?_);(refine jG (bts 8 63) 5 rfl (g_ld rfl rfl rfl) ?_);((refine jG (bts 8 127) 6 rfl (g_lookupX rfl rfl (map_G aS) aS rfl) ?_));refine jT 0 [7] (bts 8 255) ?_;refine jQ ?_)
   all_goals repeat' (first | (refine jR ?_) | (refine jo ?_;first | refine jV (g_ldS rfl rfl aS rfl rfl) ?_ | refine jV (g_bld rfl rfl) ?_ | refine jC rfl rfl rfl ?_ | (refine jAt rfl ?_) | (refine jAf rfl ?_) | refine jV (g_peq0 rfl rfl) ?_ | (refine c_rt rfl rfl rfl cx_fld rfl ?_)) | (refine k_gt rfl rfl (dTt oM) ?_) | (refine k_gf rfl rfl rfl ?_) | (refine k_tt rfl rfl ?_))
   all_goals refine jZ (vs:=[_,_,_]) rfl ⟨rc_A rfl rfl rfl rfl,rc_A rfl rfl rfl rfl,rfl,trivial⟩ rfl ⟨Gh.le.refl _,rfl,?_⟩
   all_goals exact .inl ⟨rfl,rfl⟩
theorem c_stepI {b : Nat} {qs : List TyP} {k : List UInt8} {v : V} {c : VC} {n : Int} (hS : ScI G b qs) (hw : SchW (tyq qs)) (hki : kindIn (tyq qs) k = true) (ho : OfK (tyq qs) k v) (hr : V.rep G v c) (hn : 0 ≤ n ∧ n ≤ 999999) (htt : v.tot ≤ 1000000) :
  FnS Tryz.prog 53 [Pt b 0,Ag (kdF k),Ag (vcF c),I n] G (StepPI (tyq qs) (stepV (tyq qs) k v n)):=by
 cases hrf : refT (tyq qs) k with
 | some t=>exact c_stepT hS hw hki hrf ho hr hn htt
 | none =>
  obtain ⟨ch,r,rfl⟩:=kind_ne hki
  by_cases h91 : ch.toNat = 91 ∨ ch.toNat = 63
  ·rcases ofK_inv_c ho oM with ⟨h1,_⟩ | ⟨h1,_⟩ | ⟨h1,_⟩ | ⟨h1,ks,_,_,rfl⟩ | ⟨h1,h2⟩
   ·omega
   ·omega
   ·omega
   ·obtain rfl:=u8_eq h1 dC
    have:=tots_len ks
    rw [nd_tot] at htt
    exact c_stepL hr hn oM
   ·obtain rfl:=u8_eq h1 dC
    rcases h2 with rfl | ⟨w,_,rfl⟩
    ·exact c_stepO (.inl rfl) hr hn
    ·exact c_stepO (.inr ⟨w,rfl⟩) hr hn
  ·exact c_stepP (plain_kinds hki h91 hrf)
end Go.E
namespace Go.E
set_option maxRecDepth 20000
set_option maxHeartbeats 2000000
open Go.Proofs
variable {G : Gh}
theorem c_followI {b : Nat} {qs : List TyP} (hS : ScI G b qs) (hw : SchW (tyq qs)) {p : List Int} {pv : Value} (hp : SlV G pv 1 p.length (rows inR p)) (hpn : ∀ n ∈ p,0 ≤ n ∧ n ≤ 999999) (hpl : p.length ≤ 1000) {k : List UInt8} {v : V} {c : VC} (hr : V.rep G v c) (ho : OfK (tyq qs) k v) (hki : kindIn (tyq qs) k = true) (htt : v.tot ≤ 1000000) :
  FnS Tryz.prog 26 [Pt b 0,Ag (kdF k),Ag (vcF c),pv] G (StepPI (tyq qs) (followV (tyq qs) k v p)):=by
 obtain ⟨pa,pc,rfl⟩:=hp.sl
 unfold kdF
 have e0 : vcF c = [U8 (c.what : Nat),S c.text,I c.tag,.slice c.a c.n c.c]:=rfl
 rw [e0]
 refine jB [(0,_),(1,_),(2,_),(3,_)] Tryz.func26 Tryz.ntmps26 fun B hok hB hW=>?_
 repeat' (first | (refine jR ?_) | (refine jo ?_;first | refine jO fun _=>?_ | refine jL fun _=>?_ | refine jV (g_lenL rfl) ?_))
 rename_i y5 y6 y8 y9
 refine k_loop (ι:=List UInt8 × V × VC × Nat × Gh) (fun j=>((V.rep j.2.2.2.2 j.2.1 j.2.2.1 ∧ OfK (tyq qs) j.1 j.2.1) ∧ (kindIn (tyq qs) j.1 = true ∧ j.2.1.tot ≤ 1000000)) ∧ (Gh.le G j.2.2.2.2 ∧ j.2.2.2.1 ≤ p.length) ∧ followV (tyq qs) k v p = followV (tyq qs) j.1 j.2.1 (p.drop j.2.2.2.1)) (fun j=>[(0,Pt b 0),(5,Pt y5 0),(6,Pt y6 0),(8,Pt y8 0),(9,Pt y9 0),(14,.slice pa p.length pc),(15,I p.length),(16,I j.2.2.2.1)]) (fun j=>j.2.2.2.2) (fun j=>[.blk y9 (.cells (List.toArray [U8 0,S [],I 0,nilS]) tVal (0,0)),.blk y8 (.cells (List.toArray [S [],S [],S []]) tKnd (0,0)),.blk y6 (.cells (List.toArray [U8 (j.2.2.1.what : Nat),S j.2.2.1.text,I j.2.2.1.tag,.slice j.2.2.1.a j.2.2.1.n j.2.2.1.c]) tVal (0,0)),.blk y5 (.cells (List.toArray [S (sg j.1),S (bs j.1),S (nm j.1)]) tKnd (0,0))]) (fun j=>p.length - j.2.2.2.1) (k,v,c,0,G) ?_ tU rfl sRr (fun j Hj=>?_)
 ·exact ⟨⟨⟨hr,ho⟩,hki,htt⟩,⟨Gh.le.refl _,Nat.zero_le _⟩,rfl⟩
 obtain ⟨k0,v0,c0,i,Gq⟩:=j
 dsimp only at Hj ⊢
 obtain ⟨⟨⟨hr0,ho0⟩,hk0,ht0⟩,⟨hgq,hi0⟩,he⟩:=Hj
 by_cases hi : i < p.length
 ·obtain ⟨xb,xo,xc,e,hs1⟩:=(hp.mono hgq).expl oM
  simp only [Value.slice.injEq] at e
  obtain ⟨rfl,-,rfl⟩:=e
  have hni:=hpn _ (nth_mem hi)
  have hti : nth p i = nth p i:=rfl
  have hstp:=c_stepI (hS.mono hgq) hw hk0 ho0 hr0 hni ht0
  unfold kdF at hstp
  rw [show vcF c0 = [U8 (c0.what : Nat),S c0.text,I c0.tag,.slice c0.a c0.n c0.c] from rfl] at hstp
  rw [followV_drop hi] at he
  cases hsv : stepV (tyq qs) k0 v0 (nth p i) with
  | none =>
   have cx_stn:=StepPI.no hstp hsv
   rw [hsv] at he
   repeat' (first | (refine jR ?_) | (refine jo ?_;first | (refine jV (g_iaddrN rfl rfl oM) ?_) | refine jAm rfl ?_ | (refine jV (g_ldR1x rfl rfl aS ?_ aS rfl) ?_;(focus ((omega);done))) | refine jC rfl rfl rfl ?_ | refine jV (g_bld rfl rfl) ?_ | (refine c_fns rfl rfl rfl cx_stn rfl ?_;rintro _ G hle rfl;skip)) | (refine k_tt rfl (by first | rfl | (refine decide_eq_true ?_;(omega))) ?_))
   all_goals refine jZ (vs:=[_,_,_]) rfl ⟨rc_A rfl rfl rfl rfl,rc_A rfl rfl rfl rfl,rfl,trivial⟩ rfl ⟨hgq.trans hle,rfl,?_⟩
   all_goals exact .inl ⟨he,rfl⟩
  | some y =>
   obtain ⟨k1,v1⟩:=y
   have cx_sty:=StepPI.yes hstp hsv
   rw [hsv] at he
   obtain ⟨g1,g2⟩:=stepV_ok hw ho0 hk0 hni.1 hsv
   have g3:=stepV_tot hw ho0 hk0 hni.1 hsv ht0 oM
   repeat' (first | refine jM ?_ | (refine jo ?_;first | (refine jV (g_iaddrN rfl rfl oM) ?_) | refine jAm rfl ?_ | (refine jV (g_ldR1x rfl rfl aS ?_ aS rfl) ?_;(focus ((omega);done))) | refine jC rfl rfl rfl ?_ | (refine c_fns rfl rfl rfl cx_sty rfl ?_;rintro _ G hle ⟨cv,rfl,hrv⟩;skip)) | (refine k_tt rfl (dTt oM) ?_) | (refine k_ff rfl rfl ?_))
   exact k_rd (k1,v1,cv,i + 1,G) ⟨⟨⟨hrv,g1⟩,g2,g3⟩,⟨hgq.trans hle,by dsimp only;omega⟩,he⟩ (by dsimp only;omega) tU rfl sRr
 ·have hd : p.drop i = []:=List.drop_eq_nil_of_le oM
  rw [hd] at he
  repeat' (first | (refine jR ?_) | (refine k_ff rfl (dFf oM) ?_))
  (refine k_any (s_any (id:=9) [.blk y6 (.cells (List.toArray [U8 (c0.what : Nat),S c0.text,I c0.tag,.slice c0.a c0.n c0.c]) tVal (0,0)),.blk y5 (.cells (List.toArray [S (sg k0),S (bs k0),S (nm k0)]) tKnd (0,0))] (by intro y hy;simp only [List.mem_cons,List.not_mem_nil,or_false] at hy ⊢;rcases hy with hy | hy <;> simp [hy]) mixed ?_);(refine jG (bts 5 1) 0 rfl (g_ldA rfl rfl rfl rfl) ?_);(refine jG (bts 5 3) 1 rfl (g_ldA rfl rfl rfl rfl) ?_);refine jA 2 rfl ?_;(refine jC rfl rfl rfl ?_);refine jK (bts 5 7) ?_;refine jA 3 rfl ?_;(refine jC rfl rfl rfl ?_);refine jK (bts 5 15) ?_;refine jW 0 [4] (bts 5 31) ?_;refine jQ ?_)
  all_goals repeat' (refine jR ?_)
  all_goals refine jZ (vs:=[_,_,_]) rfl ⟨rc_A rfl rfl rfl rfl,rc_A rfl rfl rfl rfl,rfl,trivial⟩ rfl ⟨hgq,rfl,?_⟩
  all_goals exact .inr ⟨_,_,c0,he,rfl,hr0⟩
theorem readPath_no {s : List UInt8} (h : s.length ≤ 1048576) (hp : pathOf s = none) : ∀ G,FnS Tryz.prog 25 [S s] G (fun v _=>∃ a c n,v = Tu [.slice a n c,Bo false] ∧ True):=fun G=>by
 refine (c_readPath (G:=G) h).mono ?_
 rintro v G' L' ⟨h1,h2,a,c,n,rfl,_⟩
 exact ⟨h1,h2,a,c,n,by rw [hp];rfl,trivial⟩
theorem readPath_yes {s : List UInt8} {p : List Int} (h : s.length ≤ 1048576) (hp : pathOf s = some p) : ∀ G,FnS Tryz.prog 25 [S s] G (fun v G'=>∃ a c n,v = Tu [.slice a n c,Bo true] ∧ n = p.length ∧ SlV G' (.slice a n c) 1 p.length (rows inR p)):=fun G=>by
 refine (c_readPath (G:=G) h).mono ?_
 rintro v G' L' ⟨h1,h2,a,c,n,rfl,h3⟩
 exact ⟨h1,h2,a,c,n,by rw [hp];rfl,h3 p hp⟩
theorem c_PathGetI {s k w p : List UInt8} (h1 : s.length ≤ 1048576 ∧ k.length ≤ 1048576 ∧ w.length ≤ 1048576 ∧ p.length ≤ 1048576) : PuG Tryz.prog 10 [S s,S k,S w,S p] G (· = pgR (pathGetV s k w p)):=by
 unfold pathGetV
 cases hg : givenV s k w with
 | none =>
  rw [pgv_none]
  have cx_gi0:=c_given0 (G:=G) (s:=s) (k:=k) (w:=w) oM hg
  cases hpo : pathOf p with
  | none =>
   have cx_sp:=readPath_no h1.2.2.2 hpo
   refine jB (Post:=fun v G' L'=>G' = G ∧ L' = [] ∧ _) [(0,_),(1,_),(2,_),(3,_)] Tryz.func10 Tryz.ntmps10 fun B hok hB hW=>?_
   repeat' (first | (refine jR ?_) | (refine jo ?_;first | refine jL fun _=>?_ | refine jC rfl rfl rfl ?_ | (refine jAt rfl ?_) | (refine c_fns rfl rfl rfl cx_gi0 rfl ?_;rintro _ G hle ⟨p1,a1,b1,c1,rfl⟩;skip) | (refine c_fns rfl rfl rfl (cx_sp _) rfl ?_;rintro _ G hle ⟨sa,sc,sn,rfl,hsp⟩;skip)) | (refine k_gt rfl rfl rfl ?_) | (refine k_tt rfl rfl ?_))
   all_goals refine Nx.base hok hB ?_
   all_goals refine jY (vs:=[_,_,_]) ?_
   all_goals rfl
  | some q =>
   have cx_sp:=readPath_yes h1.2.2.2 hpo
   refine jB (Post:=fun v G' L'=>G' = G ∧ L' = [] ∧ _) [(0,_),(1,_),(2,_),(3,_)] Tryz.func10 Tryz.ntmps10 fun B hok hB hW=>?_
   repeat' (first | (refine jR ?_) | (refine jo ?_;first | refine jL fun _=>?_ | refine jC rfl rfl rfl ?_ | (refine jAt rfl ?_) | (refine c_fns rfl rfl rfl cx_gi0 rfl ?_;rintro _ G hle ⟨p1,a1,b1,c1,rfl⟩;skip) | (refine c_fns rfl rfl rfl (cx_sp _) rfl ?_;rintro _ G hle ⟨sa,sc,sn,rfl,hsp⟩;skip)) | (refine k_gt rfl rfl rfl ?_) | (refine k_tt rfl rfl ?_))
   all_goals refine Nx.base hok hB ?_
   all_goals refine jY (vs:=[_,_,_]) ?_
   all_goals rfl
 | some u =>
  obtain ⟨ts,hs,hki,hvo,hto,hwf⟩:=given_some hg
  have cx_gi1:=c_given1 (G:=G) (s:=s) (k:=k) (w:=w) oM hs hki hvo
  rw [hs]
  cases hpo : pathOf p with
  | none =>
   have cx_sp:=readPath_no h1.2.2.2 hpo
   refine jB (Post:=fun v G' L'=>G' = G ∧ L' = [] ∧ _) [(0,_),(1,_),(2,_),(3,_)] Tryz.func10 Tryz.ntmps10 fun B hok hB hW=>?_
   repeat' (first | (refine jR ?_) | (refine jo ?_;first | refine jL fun _=>?_ | refine jC rfl rfl rfl ?_ | (refine jAf rfl ?_) | (refine c_fns rfl rfl rfl cx_gi1 rfl ?_;rintro _ G hle ⟨bg,qg,cv,rfl,hTg,hRg,hrv⟩;skip) | (refine c_fns rfl rfl rfl (cx_sp _) rfl ?_;rintro _ G hle ⟨sa,sc,sn,rfl,hsp⟩;skip)) | (refine k_gf rfl rfl rfl ?_) | (refine k_tt rfl rfl ?_))
   all_goals refine Nx.base hok hB ?_
   all_goals refine jY (vs:=[_,_,_]) ?_
   all_goals rfl
  | some q =>
   have cx_sp:=readPath_yes h1.2.2.2 hpo
   obtain ⟨hq8,hqn⟩:=pathOf_le hpo
   have hof:=valOf_of_k hvo
   have hw:=schemaOf_w hs
   dsimp only
   refine jB (Post:=fun v G' L'=>G' = G ∧ L' = [] ∧ _) [(0,_),(1,_),(2,_),(3,_)] Tryz.func10 Tryz.ntmps10 fun B hok hB hW=>?_
   repeat' (first | (refine jR ?_) | (refine jo ?_;first | refine jL fun _=>?_ | refine jC rfl rfl rfl ?_ | (refine jAf rfl ?_) | refine jAm rfl ?_ | (refine c_fns rfl rfl rfl cx_gi1 rfl ?_;rintro _ G hle ⟨bg,qg,cv,rfl,hTg,hRg,hrv⟩;(try have hrv:=rep_mono hle hrv);(try have hRg:=ScI.mono hRg hle)) | (refine c_fns rfl rfl rfl (cx_sp _) rfl ?_;rintro _ G hle ⟨sa,sc,sn,rfl,hsp⟩;(try have hrv:=rep_mono hle hrv);(try have hRg:=ScI.mono hRg hle))) | (refine k_gf rfl rfl rfl ?_) | (refine k_ff rfl rfl ?_))
   obtain ⟨rfl,hsp⟩:=hsp
   subst hTg
   have hfl:=c_followI hRg hw hsp hqn oM hrv hof hki oM
   unfold kdF at hfl
   rw [show vcF cv = [U8 (cv.what : Nat),S cv.text,I cv.tag,.slice cv.a cv.n cv.c] from rfl] at hfl
   cases hfo : followV (tyq qg) k u q with
   | none =>
    have cx_fon:=StepPI.no hfl hfo
    repeat' (first | (refine jR ?_) | (refine jo ?_;first | refine jC rfl rfl rfl ?_ | (refine c_fns rfl rfl rfl cx_fon rfl ?_;rintro _ G hle rfl;skip)) | (refine k_tt rfl rfl ?_))
    all_goals refine Nx.base hok hB ?_
    all_goals refine jY (vs:=[_,_,_]) ?_
    all_goals rfl
   | some y =>
    obtain ⟨k1,v1⟩:=y
    have cx_foy:=StepPI.yes hfl hfo
    have g3:=followV_tot hw hof hki (fun n hn=>(hqn n hn).1) hfo (N:=1000000) oM oM
    obtain ⟨_,hk1⟩:=followV_ok hw hof hki (fun n hn=>(hqn n hn).1) hfo
    repeat' (first | (refine jR ?_) | (refine jo ?_;first | refine jC rfl rfl rfl ?_ | (refine c_fns rfl rfl rfl cx_foy rfl ?_;rintro _ G hle ⟨cv,rfl,hrv⟩;skip)) | (refine k_ff rfl rfl ?_))
    have cx_txt:=c_textI (G:=G) (kindIn_ok hk1)
    have cx_pr:=c_print (G:=G) (c:=cv) v1.tot (Nat.le_refl _) g3 hrv
    unfold kdF at cx_txt
    rw [show vcF cv = [U8 (cv.what : Nat),S cv.text,I cv.tag,.slice cv.a cv.n cv.c] from rfl] at cx_pr
    rename_i y12 y13 _ _ _ _
    (refine k_any (s_any (id:=8) _ (fun _ h=>h) mixed ?_);(refine jG (bts 7 1) 0 rfl (g_ldA rfl rfl rfl rfl) ?_);(refine jG (bts 7 5) 2 rfl (g_ldA rfl rfl rfl rfl) ?_);refine jA 1 rfl ?_;(refine c_rt rfl rfl rfl cx_txt rfl ?_);refine jS (bts 7 7) ?_;refine jA 3 rfl ?_;(refine c_rt rfl rfl rfl cx_pr rfl ?_);refine jS (bts 7 15) ?_;refine jT 0 [4,5,6] (bts 7 127) ?_;refine jQ ?_)
    all_goals repeat' (refine jR ?_)
    all_goals refine Nx.base hok hB ?_
    all_goals refine jY (vs:=[_,_,_]) ?_
    all_goals rfl
abbrev tBoP : TypeId:=4
abbrev tPfP : TypeId:=101
theorem c_fits {v : V} {c : VC} (h : V.rep G v c) (ht : v.tot ≤ 1000000) : PuG Tryz.prog 29 [Ag (vcF c)] G (· = Bo (decide (v.out.length ≤ 400 ∧ v.deep ≤ 12))):=by
 have cx_pr:=c_print (G:=G) v.tot (Nat.le_refl _) ht h
 have cx_dp:=c_deep (G:=G) v.tot (Nat.le_refl _) ht h
 have hdl:=deep_tot v
 obtain ⟨w,tx,tg,a,m,kc⟩:=c
 have e0 : vcF ⟨w,tx,tg,a,m,kc⟩ = [U8 (w : Nat),S tx,I tg,.slice a m kc]:=rfl
 rw [e0] at cx_pr cx_dp ⊢
 by_cases h1 : v.out.length ≤ 400
 ·by_cases h2 : v.deep ≤ 12
  ·rw [decide_eq_true (p:=v.out.length ≤ 400 ∧ v.deep ≤ 12) ⟨h1,h2⟩]
   refine jE [(0,_)] Tryz.func29 Tryz.ntmps29 fun B hB=>?_
   repeat' (first | (refine jR ?_) | (refine jo ?_;first | refine jO fun _=>?_ | refine jAm rfl ?_ | (refine jAt rfl ?_) | (refine c_rt rfl rfl rfl cx_pr rfl ?_) | (refine c_rt rfl rfl rfl cx_dp rfl ?_)) | (refine k_gt rfl rfl (dTt oM) ?_))
   all_goals refine jY (vs:=[_]) ?_
   all_goals (rw [oneOf_one,decide_eq_true oM])
  ·rw [decide_eq_false (p:=v.out.length ≤ 400 ∧ v.deep ≤ 12) (fun h=>h2 h.2)]
   refine jE [(0,_)] Tryz.func29 Tryz.ntmps29 fun B hB=>?_
   repeat' (first | (refine jR ?_) | (refine jo ?_;first | refine jO fun _=>?_ | refine jAm rfl ?_ | (refine jAt rfl ?_) | (refine c_rt rfl rfl rfl cx_pr rfl ?_) | (refine c_rt rfl rfl rfl cx_dp rfl ?_)) | (refine k_gt rfl rfl (dTt oM) ?_))
   all_goals refine jY (vs:=[_]) ?_
   all_goals (rw [oneOf_one,decide_eq_false oM])
 ·rw [decide_eq_false (p:=v.out.length ≤ 400 ∧ v.deep ≤ 12) (fun h=>h1 h.1)]
  refine jE [(0,_)] Tryz.func29 Tryz.ntmps29 fun B hB=>?_
  repeat' (first | (refine jR ?_) | (refine jo ?_;first | refine jO fun _=>?_ | refine jAm rfl ?_ | (refine jAf rfl ?_) | (refine c_rt rfl rfl rfl cx_pr rfl ?_)) | (refine k_gf rfl rfl (dFf oM) ?_))
  all_goals refine jY (vs:=[_]) ?_
  all_goals rfl
def putO (bo bd bt bq bx : Nat) (told d : Bool) (pf : Value) (xc : List Value) (a : Option Addr) (k : Nat) (cs : List VC) : List Own :=
 [.acc (.slice a cs.length k) tVal 4 cs.length (rows vcF cs),.blk bd (.cells (List.toArray [Bo d]) tBoP (0,0)),.blk bt (.cells (List.toArray [Bo told]) tBoP (0,0)),.blk bo (.cells (List.toArray [U8 82,S [],I 0,.slice a cs.length k]) tVal (0,0)),.blk bx (.cells xc.toArray tVal (0,0)),.blk bq (.cells (List.toArray [pf]) tPfP (0,0))]
theorem perm_in {a : Own} {l r : List Own} : (a :: (l ++ r)).Perm (l ++ a :: r):=List.perm_middle.symm
theorem add_node {G2 : Gh} {y : Nat} {t : Int} {x : V} {dx : VC} {gs : List V} {cs : List VC} (hG2 : Gh.le G G2) (htg : 0 ≤ t ∧ t ≤ 999999) (hx : V.rep G x dx) (hreps : V.reps G gs cs) (hsg : Seg G2 y 0 [U8 (dx.what : Nat),S dx.text,I dx.tag,.slice dx.a dx.n dx.c]) : V.reps G2 (gs ++ [.nd 61 [] t [x]]) (cs ++ [⟨61,[],t,some ⟨y,0,none⟩,1,1⟩]) :=
 reps_snoc (rep_mk dC htg (fun _=>rfl) rfl (cs:=[dx]) ⟨rfl,.inr ⟨y,0,1,rfl,Nat.le_refl _,hsg⟩⟩ (by rw [V.reps];exact ⟨dx,[],rfl,rep_mono hG2 hx,by rw [V.reps]⟩)) (reps_mono hG2 hreps)
theorem c_add {bo bd bt bq bx bf of j : Nat} {told d : Bool} {t : Ty} {x : V} {dx : VC} {gs : List V} {cs : List VC} {a : Option Addr} {k : Nat} (hreps : V.reps G gs cs) (hx : V.rep G x dx) (hsf : Seg G bf of (rows fiF t.fields)) (hj : j < t.fields.length) (hgl : gs.length ≤ 1000000) (htg : 0 ≤ (nth t.fields j).tag ∧ (nth t.fields j).tag ≤ 999999) :
  Fn Tryz.prog 96 [Pt bt 0,Pt bd 0,Pt bo 0,Pt bq 0,Pt bx 0] G (putO bo bd bt bq bx told d (Pt bf (of + j * 6)) [U8 (dx.what : Nat),S dx.text,I dx.tag,.slice dx.a dx.n dx.c] a k cs)
   (fun _ G' L'=>∃ cs2 a2 k2,Gh.le G G' ∧ V.reps G' (gs ++ (if told && !d then [.nd 61 [] (nth t.fields j).tag [x]] else [])) cs2 ∧ L' = putO bo bd bt bq bx told true (Pt bf (of + j * 6)) [U8 (dx.what : Nat),S dx.text,I dx.tag,.slice dx.a dx.n dx.c] a2 k2 cs2):=by
 have hcl:=reps_len hreps
 unfold putO
 cases told with
 | false =>
  rw [if_neg (by simp),List.append_nil]
  refine jB [(0,_),(1,_),(2,_),(3,_),(4,_)] Tryz.func96 Tryz.ntmps96 fun B hok hB hW=>?_
  repeat' (first | (refine jR ?_) | (refine jo ?_;first | refine jAl rfl ?_ | (refine jAf rfl ?_) | refine jD rfl rfl rfl ?_) | (refine k_gf rfl rfl rfl ?_) | (refine k_ff rfl rfl ?_))
  exact k_re (vs:=[]) rfl trivial rfl (List.Sublist.refl _) ⟨cs,a,k,Gh.le.refl _,hreps,rfl⟩
 | true =>
  cases d with
  | true =>
   rw [if_neg (by simp),List.append_nil]
   refine jB [(0,_),(1,_),(2,_),(3,_),(4,_)] Tryz.func96 Tryz.ntmps96 fun B hok hB hW=>?_
   repeat' (first | (refine jR ?_) | (refine jo ?_;first | refine jAl rfl ?_ | (refine jAt rfl ?_) | refine jD rfl rfl rfl ?_) | (refine k_gt rfl rfl rfl ?_) | (refine k_ff rfl rfl ?_))
   exact k_re (vs:=[]) rfl trivial rfl (List.Sublist.refl _) ⟨cs,a,k,Gh.le.refl _,hreps,rfl⟩
  | false =>
   rw [if_pos (by simp)]
   refine jB [(0,_),(1,_),(2,_),(3,_),(4,_)] Tryz.func96 Tryz.ntmps96 fun B hok hB hW=>?_
   repeat' (first | (refine jR ?_) | (refine jo ?_;first | refine jAl rfl ?_ | (refine jAt rfl ?_)) | (refine k_gt rfl rfl rfl ?_) | (refine k_tt rfl rfl ?_))
   (refine k_any (s_any (id:=1) [.blk bx (.cells (List.toArray [U8 (dx.what : Nat),S dx.text,I dx.tag,.slice dx.a dx.n dx.c]) tVal (0,0)),.blk bq (.cells (List.toArray [Pt bf (of + j * 6)]) tPfP (0,0))] (by intro y hy;simp only [List.mem_cons,List.not_mem_nil,or_false] at hy ⊢;rcases hy with hy | hy <;> simp [hy]) mixed ?_);refine jW 15 [0] (bts 16 1) ?_;(refine jG (bts 16 5) 2 rfl (g_ld rfl rfl rfl) ?_);refine jW 12 [3,4] (bts 16 29) ?_;((refine jG (bts 16 61) 5 rfl (g_ldRF rfl rfl aS ?_ rfl rfl) ?_;(focus ((omega);done))));(refine jG (bts 16 125) 6 rfl (g_ldA rfl rfl rfl rfl) ?_);refine x_all [1,7,10] kR dC ⟨?_,?_,?_,trivial⟩;(focus (refine x_opg rfl rfl ?_;(refine jAl rfl ?_);refine jK (bts 16 127) ?_;(refine jG (bts 16 639) 9 rfl (g_lenL rfl) ?_);refine x_all [7,10] kR dC ⟨?_,?_,trivial⟩;(focus (refine x_opg rfl rfl ?_;(refine jF fun _=>?_);refine jK (bts 16 767) ?_;(refine jG (bts 16 1023) 8 rfl (g_bld rfl rfl) ?_);refine jA 10 rfl ?_;(refine jF fun _=>?_);refine jK (bts 16 2047) ?_;refine jA 11 rfl ?_;((refine c_apX rfl rfl rfl rfl rfl rfl rfl rfl rfl ?_ fun _ _=>?_;(focus ((omega);done))));refine jK (bts 16 4095) ?_;refine jW 3 [14] (bts 16 20479) ?_;((refine jG (bts 16 24575) 12 rfl (g_iaddrN rfl rfl ?_) ?_;(focus ((omega);done))));refine x_all [13,15] kR dC ⟨?_,?_,trivial⟩;(focus (refine x_opg rfl rfl ?_;((refine c_stAL rfl rfl rfl rfl rfl rfl rfl rfl inferInstance ?_ ?_;(focus ((rw [rows_len];omega);done))));refine jK (bts 16 32767) ?_;refine jA 15 rfl ?_;(refine jD rfl rfl rfl ?_);refine jK (bts 16 65535) ?_;refine jQ ?_));rotate_left 1;(focus (refine x_opg rfl rfl ?_;(refine jD rfl rfl rfl ?_);refine jK (bts 16 57343) ?_;refine jA 13 rfl ?_;((refine c_stAL rfl rfl rfl rfl rfl rfl rfl rfl inferInstance ?_ ?_;(focus ((rw [rows_len];omega);done))));refine jK (bts 16 65535) ?_;refine jQ ?_));rotate_left 1));rotate_left 2;(focus (refine x_opg rfl rfl ?_;(refine jF fun _=>?_);refine jK (bts 16 1663) ?_;refine jA 7 rfl ?_;(refine jF fun _=>?_);refine jK (bts 16 1791) ?_;(refine jG (bts 16 2047) 8 rfl (g_bld rfl rfl) ?_);refine jA 11 rfl ?_;((refine c_apX rfl rfl rfl rfl rfl rfl rfl rfl rfl ?_ fun _ _=>?_;(focus ((omega);done))));refine jK (bts 16 4095) ?_;refine jW 3 [14] (bts 16 20479) ?_;((refine jG (bts 16 24575) 12 rfl (g_iaddrN rfl rfl ?_) ?_;(focus ((omega);done))));refine x_all [13,15] kR dC ⟨?_,?_,trivial⟩;(focus (refine x_opg rfl rfl ?_;((refine c_stAL rfl rfl rfl rfl rfl rfl rfl rfl inferInstance ?_ ?_;(focus ((rw [rows_len];omega);done))));refine jK (bts 16 32767) ?_;refine jA 15 rfl ?_;(refine jD rfl rfl rfl ?_);refine jK (bts 16 65535) ?_;refine jQ ?_));rotate_left 1;(focus (refine x_opg rfl rfl ?_;(refine jD rfl rfl rfl ?_);refine jK (bts 16 57343) ?_;refine jA 13 rfl ?_;((refine c_stAL rfl rfl rfl rfl rfl rfl rfl rfl inferInstance ?_ ?_;(focus ((rw [rows_len];omega);done))));refine jK (bts 16 65535) ?_;refine jQ ?_));rotate_left 1));rotate_left 2));rotate_left 4;(focus (refine x_opg rfl rfl ?_;(refine jF fun _=>?_);refine jK (bts 16 253) ?_;(refine jG (bts 16 509) 8 rfl (g_bld rfl rfl) ?_);refine x_all [1,10] kR dC ⟨?_,?_,trivial⟩;(focus (refine x_opg rfl rfl ?_;(refine jAl rfl ?_);refine jK (bts 16 511) ?_;(refine jG (bts 16 1023) 9 rfl (g_lenL rfl) ?_);refine jA 10 rfl ?_;(refine jF fun _=>?_);refine jK (bts 16 2047) ?_;refine jA 11 rfl ?_;((refine c_apX rfl rfl rfl rfl rfl rfl rfl rfl rfl ?_ fun _ _=>?_;(focus ((omega);done))));refine jK (bts 16 4095) ?_;refine jW 3 [14] (bts 16 20479) ?_;((refine jG (bts 16 24575) 12 rfl (g_iaddrN rfl rfl ?_) ?_;(focus ((omega);done))));refine x_all [13,15] kR dC ⟨?_,?_,trivial⟩;(focus (refine x_opg rfl rfl ?_;((refine c_stAL rfl rfl rfl rfl rfl rfl rfl rfl inferInstance ?_ ?_;(focus ((rw [rows_len];omega);done))));refine jK (bts 16 32767) ?_;refine jA 15 rfl ?_;(refine jD rfl rfl rfl ?_);refine jK (bts 16 65535) ?_;refine jQ ?_));rotate_left 1;(focus (refine x_opg rfl rfl ?_;(refine jD rfl rfl rfl ?_);refine jK (bts 16 57343) ?_;refine jA 13 rfl ?_;((refine c_stAL rfl rfl rfl rfl rfl rfl rfl rfl inferInstance ?_ ?_;(focus ((rw [rows_len];omega);done))));refine jK (bts 16 65535) ?_;refine jQ ?_));rotate_left 1));rotate_left 2;(focus (refine x_opg rfl rfl ?_;(refine jF fun _=>?_);refine jK (bts 16 1533) ?_;refine jA 1 rfl ?_;(refine jAl rfl ?_);refine jK (bts 16 1535) ?_;(refine jG (bts 16 2047) 9 rfl (g_lenL rfl) ?_);refine jA 11 rfl ?_;((refine c_apX rfl rfl rfl rfl rfl rfl rfl rfl rfl ?_ fun _ _=>?_;(focus ((omega);done))));refine jK (bts 16 4095) ?_;refine jW 3 [14] (bts 16 20479) ?_;((refine jG (bts 16 24575) 12 rfl (g_iaddrN rfl rfl ?_) ?_;(focus ((omega);done))));refine x_all [13,15] kR dC ⟨?_,?_,trivial⟩;(focus (refine x_opg rfl rfl ?_;((refine c_stAL rfl rfl rfl rfl rfl rfl rfl rfl inferInstance ?_ ?_;(focus ((rw [rows_len];omega);done))));refine jK (bts 16 32767) ?_;refine jA 15 rfl ?_;(refine jD rfl rfl rfl ?_);refine jK (bts 16 65535) ?_;refine jQ ?_));rotate_left 1;(focus (refine x_opg rfl rfl ?_;(refine jD rfl rfl rfl ?_);refine jK (bts 16 57343) ?_;refine jA 13 rfl ?_;((refine c_stAL rfl rfl rfl rfl rfl rfl rfl rfl inferInstance ?_ ?_;(focus ((rw [rows_len];omega);done))));refine jK (bts 16 65535) ?_;refine jQ ?_));rotate_left 1));rotate_left 2));rotate_left 4;(focus (refine x_opg rfl rfl ?_;(refine jF fun _=>?_);refine jK (bts 16 1149) ?_;refine x_all [1,7] kR dC ⟨?_,?_,trivial⟩;(focus (refine x_opg rfl rfl ?_;(refine jAl rfl ?_);refine jK (bts 16 1151) ?_;(refine jG (bts 16 1663) 9 rfl (g_lenL rfl) ?_);refine jA 7 rfl ?_;(refine jF fun _=>?_);refine jK (bts 16 1791) ?_;(refine jG (bts 16 2047) 8 rfl (g_bld rfl rfl) ?_);refine jA 11 rfl ?_;((refine c_apX rfl rfl rfl rfl rfl rfl rfl rfl rfl ?_ fun _ _=>?_;(focus ((omega);done))));refine jK (bts 16 4095) ?_;refine jW 3 [14] (bts 16 20479) ?_;((refine jG (bts 16 24575) 12 rfl (g_iaddrN rfl rfl ?_) ?_;(focus ((omega);done))));refine x_all [13,15] kR dC ⟨?_,?_,trivial⟩;(focus (refine x_opg rfl rfl ?_;((refine c_stAL rfl rfl rfl rfl rfl rfl rfl rfl inferInstance ?_ ?_;(focus ((rw [rows_len];omega);done))));refine jK (bts 16 32767) ?_;refine jA 15 rfl ?_;(refine jD rfl rfl rfl ?_);refine jK (bts 16 65535) ?_;refine jQ ?_));rotate_left 1;(focus (refine x_opg rfl rfl ?_;(refine jD rfl rfl rfl ?_);refine jK (bts 16 57343) ?_;refine jA 13 rfl ?_;((refine c_stAL rfl rfl rfl rfl rfl rfl rfl rfl inferInstance ?_ ?_;(focus ((rw [rows_len];omega);done))));refine jK (bts 16 65535) ?_;refine jQ ?_));rotate_left 1));rotate_left 2;(focus (refine x_opg rfl rfl ?_;(refine jF fun _=>?_);refine jK (bts 16 1277) ?_;(refine jG (bts 16 1533) 8 rfl (g_bld rfl rfl) ?_);refine jA 1 rfl ?_;(refine jAl rfl ?_);refine jK (bts 16 1535) ?_;(refine jG (bts 16 2047) 9 rfl (g_lenL rfl) ?_);refine jA 11 rfl ?_;((refine c_apX rfl rfl rfl rfl rfl rfl rfl rfl rfl ?_ fun _ _=>?_;(focus ((omega);done))));refine jK (bts 16 4095) ?_;refine jW 3 [14] (bts 16 20479) ?_;((refine jG (bts 16 24575) 12 rfl (g_iaddrN rfl rfl ?_) ?_;(focus ((omega);done))));refine x_all [13,15] kR dC ⟨?_,?_,trivial⟩;(focus (refine x_opg rfl rfl ?_;((refine c_stAL rfl rfl rfl rfl rfl rfl rfl rfl inferInstance ?_ ?_;(focus ((rw [rows_len];omega);done))));refine jK (bts 16 32767) ?_;refine jA 15 rfl ?_;(refine jD rfl rfl rfl ?_);refine jK (bts 16 65535) ?_;refine jQ ?_));rotate_left 1;(focus (refine x_opg rfl rfl ?_;(refine jD rfl rfl rfl ?_);refine jK (bts 16 57343) ?_;refine jA 13 rfl ?_;((refine c_stAL rfl rfl rfl rfl rfl rfl rfl rfl inferInstance ?_ ?_;(focus ((rw [rows_len];omega);done))));refine jK (bts 16 65535) ?_;refine jQ ?_));rotate_left 1));rotate_left 2));rotate_left 4)
   all_goals repeat' (first | (refine jR ?_) | (refine jo ?_;(refine jD rfl rfl rfl ?_)))
   all_goals
    rename_i x3 x2 x1 k1
    have hlen : ∀ y : Nat,(cs ++ [(⟨61,[],(nth t.fields j).tag,some ⟨y,0,none⟩,1,1⟩ : VC)]).length = cs.length + 1:=fun y=>by simp
    first | (refine Nx.sealC (b:=x3) fun G2 hG2 hsg=>?_;refine k_re (vs:=[]) rfl trivial rfl ?_ ⟨_,some ⟨x1,0,none⟩,k1,hG2,add_node (y:=x3) hG2 htg hx hreps hsg,rfl⟩;rw [hlen,← (show rows vcF cs ++ [U8 ((61 : Nat) : Int),S [],I (nth t.fields j).tag,.slice (some ⟨x3,0,none⟩) 1 1] = _ from (rows_snoc vcF cs (⟨61,[],(nth t.fields j).tag,some ⟨x3,0,none⟩,1,1⟩ : VC)).symm)];repeat (first | exact List.Sublist.refl _ | apply List.Sublist.cons_cons | apply List.Sublist.cons)) | (refine Nx.sealC (b:=x2) fun G2 hG2 hsg=>?_;refine k_re (vs:=[]) rfl trivial rfl ?_ ⟨_,some ⟨x1,0,none⟩,k1,hG2,add_node (y:=x2) hG2 htg hx hreps hsg,rfl⟩;rw [hlen,← (show rows vcF cs ++ [U8 ((61 : Nat) : Int),S [],I (nth t.fields j).tag,.slice (some ⟨x2,0,none⟩) 1 1] = _ from (rows_snoc vcF cs (⟨61,[],(nth t.fields j).tag,some ⟨x2,0,none⟩,1,1⟩ : VC)).symm)];repeat (first | exact List.Sublist.refl _ | apply List.Sublist.cons_cons | apply List.Sublist.cons))
theorem putA_at {α : Type} [Inhabited α] {tg : α → Int} {told : Bool} {node : α} {tag : Int} {l : List α} {i : Nat} (hi : i < l.length) {d : Bool} : putA tg told node tag (l.drop i) d = (if tag ≤ tg (nth l i) ∧ (told && !d) = true then [node] else []) ++ ((if tg (nth l i) = tag then [] else [nth l i]) ++ putA tg told node tag (l.drop (i + 1)) (d || decide (tag ≤ tg (nth l i)))):=by
 rw [List.drop_eq_getElem_cons hi,nth_eq hi,putA]
theorem c_put {b bf of j : Nat} {qs : List TyP} {t : Ty} {fs : List (Fld × V)} {c dx : VC} {x : V} (hS : ScI G b qs) (hw : SchW (tyq qs)) (ht : t ∈ tyq qs) (hso : t.sort = 82) (hsf : Seg G bf of (rows fiF t.fields)) (hj : j < t.fields.length) (hrep : V.rep G (.nd 82 [] 0 (fs.map fldV)) c) (hx : V.rep G x dx) (h9 : fs.length ≤ 90000) (hxt : x.tot ≤ 1000000) (hsr : Srt (fs.map fldV)) :
  FnS Tryz.prog 56 [Pt b 0,Ag (vcF c),Pt bf (of + j * 6),Ag (vcF dx)] G (fun r G'=>∃ c',r = Ag (vcF c') ∧ V.rep G' (.nd 82 [] 0 (putF (tyq qs) (nth t.fields j) x (fs.map fldV))) c'):=by
 have hTW:=hw.ty t ht
 have hfm : nth t.fields j ∈ t.fields:=nth_mem hj
 have htg:=(hTW.fld _ hfm).tag
 have hdk : kindIn (tyq qs) (nth t.fields j).kind = true:=kind_in hw ht oM hfm
 have cx_of:=c_ofI hS hw hsf hj hdk
 have cx_pr:=c_print (G:=G) (c:=dx) x.tot (Nat.le_refl _) hxt hx
 obtain ⟨a,k,cs,rfl,_,_,_,hcl,hsl,hrs⟩:=rep_inv hrep
 have e0 : vcF ⟨82,[],0,a,(fs.map fldV).length,k⟩ = [U8 (82 : Nat),S [],I 0,.slice a (fs.map fldV).length k]:=rfl
 have e1 : vcF dx = [U8 (dx.what : Nat),S dx.text,I dx.tag,.slice dx.a dx.n dx.c]:=rfl
 rw [e0]
 rw [e1] at cx_pr ⊢
 have hml : (fs.map fldV).length = fs.length:=by simp
 have hnt : ∀ i,i < fs.length → nth (fs.map fldV) i = fldV (nth fs i):=fun i hi=>by rw [nth_eq (by simpa using hi),nth_eq hi];simp
 have hrn : ∀ i,i < fs.length → V.rep G (fldV (nth fs i)) (nth cs i):=fun i hi=>by
  have:=reps_nth hrs i oM
  rwa [hnt i hi] at this
 obtain ⟨told,htold⟩ : ∃ told,decide (x.out ≠ standF (tyq qs) (nth t.fields j)) = told:=⟨_,rfl⟩
 have hput : putA V.tag told (.nd 61 [] (nth t.fields j).tag [x]) (nth t.fields j).tag (fs.map fldV) false = putF (tyq qs) (nth t.fields j) x (fs.map fldV):=by rw [← htold];exact putA_eq hsr
 refine jB [(0,_),(1,_),(2,_),(3,_)] Tryz.func56 Tryz.ntmps56 fun B hok hB hW=>?_
 repeat' (first | (refine jR ?_) | (refine jo ?_;first | refine jO fun _=>?_ | refine jL fun _=>?_ | refine jV (g_bld rfl rfl) ?_ | refine jD rfl rfl rfl ?_ | refine jC rfl rfl rfl ?_ | refine jAl rfl ?_ | refine jV (g_mkf rfl rfl) ?_ | refine jV (g_lenL rfl) ?_) | (refine k_any (s_any (id:=2) _ (fun _ h=>h) mixed ?_);refine jT 7 [2] (bts 8 4) ?_;(refine jG (bts 8 5) 0 rfl (g_ldA rfl rfl rfl rfl) ?_);(refine jG (bts 8 13) 3 rfl (g_ld rfl rfl rfl) ?_);refine x_all [1,6] kR dC ⟨?_,?_,trivial⟩;(focus (refine x_opg rfl rfl ?_;(refine c_rt rfl rfl rfl cx_pr rfl ?_);refine jK (bts 8 15) ?_;refine x_all [4,6] kR dC ⟨?_,?_,trivial⟩;(focus (refine x_opg rfl rfl ?_;(refine c_rt rfl rfl rfl cx_of rfl ?_);refine jK (bts 8 31) ?_;refine jW 2 [5] (bts 8 63) ?_;refine jA 6 rfl ?_;(refine jL fun _=>?_);refine jK (bts 8 127) ?_;refine jA 7 rfl ?_;(refine jD rfl rfl rfl ?_);refine jK (bts 8 255) ?_;refine jQ ?_));rotate_left 1;(focus (refine x_opg rfl rfl ?_;(refine jL fun _=>?_);refine jK (bts 8 79) ?_;refine jA 4 rfl ?_;(refine c_rt rfl rfl rfl cx_of rfl ?_);refine jK (bts 8 95) ?_;refine jW 1 [5] (bts 8 127) ?_;refine jA 7 rfl ?_;(refine jD rfl rfl rfl ?_);refine jK (bts 8 255) ?_;refine jQ ?_));rotate_left 1));rotate_left 2;(focus (refine x_opg rfl rfl ?_;(refine jL fun _=>?_);refine jK (bts 8 77) ?_;refine jA 1 rfl ?_;(refine c_rt rfl rfl rfl cx_pr rfl ?_);refine jK (bts 8 79) ?_;refine jA 4 rfl ?_;(refine c_rt rfl rfl rfl cx_of rfl ?_);refine jK (bts 8 95) ?_;refine jW 1 [5] (bts 8 127) ?_;refine jA 7 rfl ?_;(refine jD rfl rfl rfl ?_);refine jK (bts 8 255) ?_;refine jQ ?_));rotate_left 1))
 all_goals
  rw [← hput]
  rename_i y6 y5 y4 y3 y2 y1 y0
  rw [htold]
  refine Nx.addNil tVal 4 (Nx.perm (.cons _ (.cons _ (.cons _ (.cons _ ((List.Perm.swap _ _ _).trans (.cons _ (List.Perm.swap _ _ _))))))) ?_)
  refine k_loop (ι:=List V × List VC × Option Addr × Nat × Bool × Nat × Gh) (fun q=>(V.reps q.2.2.2.2.2.2 q.1 q.2.1 ∧ Gh.le G q.2.2.2.2.2.2) ∧ (q.2.2.2.2.2.1 ≤ fs.length ∧ q.1.length ≤ 2 * q.2.2.2.2.2.1 + 1) ∧ putA V.tag told (.nd 61 [] (nth t.fields j).tag [x]) (nth t.fields j).tag (fs.map fldV) false = q.1 ++ putA V.tag told (.nd 61 [] (nth t.fields j).tag [x]) (nth t.fields j).tag ((fs.map fldV).drop q.2.2.2.2.2.1) q.2.2.2.2.1) (fun q=>[(9,Pt y2 0),(12,.func (.func 96) #[] #[Pt y1 0,Pt y0 0,Pt y2 0,Pt y5 0,Pt y4 0]),(6,Pt y5 0),(24,.slice a (fs.map fldV).length k),(25,I (fs.map fldV).length),(26,I q.2.2.2.2.2.1),(8,Pt y3 0)]) (fun q=>q.2.2.2.2.2.2) (fun q=>[.acc (.slice q.2.2.1 q.2.1.length q.2.2.2.1) tVal 4 q.2.1.length (rows vcF q.2.1),.blk y0 (.cells (List.toArray [Bo q.2.2.2.2.1]) tBoP (0,0)),.blk y1 (.cells (List.toArray [Bo told]) tBoP (0,0)),.blk y2 (.cells (List.toArray [U8 82,S [],I 0,.slice q.2.2.1 q.2.1.length q.2.2.2.1]) tVal (0,0)),.blk y4 (.cells (List.toArray [U8 (dx.what : Nat),S dx.text,I dx.tag,.slice dx.a dx.n dx.c]) tVal (0,0)),.blk y5 (.cells (List.toArray [Pt bf (of + j * 6)]) tPfP (0,0)),.blk y3 (.cells (List.toArray [U8 0,S [],I 0,nilS]) tVal (0,0))]) (fun q=>fs.length - q.2.2.2.2.2.1) ([],[],none,0,false,0,G) ?_ tU rfl sB (fun q Hq=>?_)
  ·exact ⟨⟨by rw [V.reps],Gh.le.refl _⟩,⟨Nat.zero_le _,Nat.zero_le _⟩,rfl⟩
  obtain ⟨gs,cs1,a1,k1,d,i,Gq⟩:=q
  dsimp only at Hq ⊢
  obtain ⟨⟨hreps,hgq⟩,⟨hi0,hgl⟩,hinv⟩:=Hq
  have hcl1:=reps_len hreps
  have hsf2:=hsf.mono hgq
  by_cases hi : i < fs.length
  ·have hpa:=putA_at (tg:=V.tag) (told:=told) (node:=.nd 61 [] (nth t.fields j).tag [x]) (tag:=(nth t.fields j).tag) (l:=fs.map fldV) (i:=i) oM (d:=d)
   rw [hnt i hi,show (fldV (nth fs i)).tag = (nth fs i).1.tag from rfl] at hpa
   rw [hpa] at hinv
   clear hpa
   obtain ⟨xb,xo,xc,e,hsx⟩:=(hsl.mono hgq).expl oM
   simp only [Value.slice.injEq] at e
   obtain ⟨rfl,-,rfl⟩:=e
   have hri:=rep_mono hgq (hrn i hi)
   obtain ⟨ai,ki,csi,hci,_,_,_,hcli,hsli,hrsi⟩:=rep_inv hri
   have hci : nth cs i = ⟨61,[],(nth fs i).1.tag,ai,1,ki⟩:=hci
   by_cases hge : (nth t.fields j).tag ≤ (nth fs i).1.tag
   ·rw [decide_eq_true hge] at hinv
    simp only [hge,true_and,Bool.or_true] at hinv
    repeat' (first | (refine jR ?_) | (refine jo ?_;first | refine jL fun _=>?_ | refine jC rfl rfl rfl ?_ | (refine jV (g_ldRx rfl rfl aS ?_ aS) ?_;(focus ((omega);done))) | (refine jV (g_iaddrN rfl rfl oM) ?_)) | (refine k_tt rfl (dTt oM) ?_))
    dsimp only [VC.sl]
    rename_i yz
    (refine k_any (s_any (id:=8) _ (fun _ h=>h) mixed ?_);refine jT 6 [0] (bts 7 1) ?_;(refine jG (bts 7 3) 1 rfl (g_ld rfl rfl rfl) ?_);(refine jG (bts 7 7) 2 rfl (g_ld rfl rfl rfl) ?_);refine jT 2 [3,4] (bts 7 31) ?_;((refine jG (bts 7 63) 5 rfl (g_ldRF rfl rfl aS ?_ rfl rfl) ?_;(focus ((omega);done))));refine jT 0 [6] (bts 7 127) ?_;refine jQ ?_)
    repeat' (first | (refine jR ?_) | (refine k_tt rfl (dTt ‹_›) ?_))
    refine jo ?_
    refine c_call (vs:=[Pt y1 0,Pt y0 0,Pt y2 0,Pt y5 0,Pt y4 0]) (Lp:=putO y2 y0 y1 y5 y4 told d (Pt bf (of + j * 6)) [U8 (dx.what : Nat),S dx.text,I dx.tag,.slice dx.a dx.n dx.c] a1 k1 cs1) (R:=[_,_]) rfl rfl rfl (c_add hreps (rep_mono hgq hx) hsf2 hj oM ⟨oM,oM⟩) (perm_in (l:=putO y2 y0 y1 y5 y4 told d (Pt bf (of + j * 6)) [U8 (dx.what : Nat),S dx.text,I dx.tag,.slice dx.a dx.n dx.c] a1 k1 cs1) (r:=[_])) rfl ?_
    rintro r3 G3 L3 ⟨cs2,a2,k2,hle,hr2,rfl⟩
    simp only [putO,List.cons_append,List.nil_append]
    have hcl2:=reps_len hr2
    have hl2 : cs2.length ≤ cs1.length + 1:=by rw [hcl2,hcl1,List.length_append];split <;> simp
    have hsf3:=hsf2.mono hle
    by_cases heq : (nth fs i).1.tag = (nth t.fields j).tag
    ·rw [if_pos heq,List.nil_append,← List.append_assoc] at hinv
     repeat' (refine jR ?_)
     (refine k_any (s_any (id:=10) _ (fun _ h=>h) mixed ?_);refine jT 6 [0] (bts 7 1) ?_;(refine jG (bts 7 3) 1 rfl (g_ld rfl rfl rfl) ?_);(refine jG (bts 7 7) 2 rfl (g_ld rfl rfl rfl) ?_);refine jT 2 [3,4] (bts 7 31) ?_;((refine jG (bts 7 63) 5 rfl (g_ldRF rfl rfl aS ?_ rfl rfl) ?_;(focus ((omega);done))));refine jT 0 [6] (bts 7 127) ?_;refine jQ ?_)
     repeat' (first | refine jM ?_ | (refine k_ff rfl (dFf oM) ?_))
     exact k_rd (_,cs2,a2,k2,true,i + 1,G3) ⟨⟨hr2,hgq.trans hle⟩,⟨by dsimp only;omega,by dsimp only;split <;> simp <;> omega⟩,hinv⟩ (by dsimp only;omega) tU rfl sB
    ·rw [if_neg heq,← List.append_assoc,← List.append_assoc] at hinv
     repeat' (refine jR ?_)
     (refine k_any (s_any (id:=10) _ (fun _ h=>h) mixed ?_);refine jT 6 [0] (bts 7 1) ?_;(refine jG (bts 7 3) 1 rfl (g_ld rfl rfl rfl) ?_);(refine jG (bts 7 7) 2 rfl (g_ld rfl rfl rfl) ?_);refine jT 2 [3,4] (bts 7 31) ?_;((refine jG (bts 7 63) 5 rfl (g_ldRF rfl rfl aS ?_ rfl rfl) ?_;(focus ((omega);done))));refine jT 0 [6] (bts 7 127) ?_;refine jQ ?_)
     repeat' (first | (refine jR ?_) | (refine k_tt rfl (dTt ‹_›) ?_))
     (refine k_any (s_any (id:=11) [.blk yz (.cells (List.toArray [U8 (61 : Nat),S [],I (nth fs i).1.tag,.slice ai 1 ki]) tVal (0,0))] (by intro y hy;simp only [List.mem_cons,List.not_mem_nil,or_false] at hy ⊢;simp [hy]) mixed ?_);refine jW 9 [0] (bts 10 1) ?_;(refine jG (bts 10 5) 2 rfl (g_ldA rfl rfl rfl rfl) ?_);refine x_all [1,4] kR dC ⟨?_,?_,trivial⟩;(focus (refine x_opg rfl rfl ?_;(refine jAl rfl ?_);refine jK (bts 10 7) ?_;(refine jG (bts 10 15) 3 rfl (g_lenL rfl) ?_);refine jA 4 rfl ?_;(refine jF fun _=>?_);refine jK (bts 10 31) ?_;refine jA 5 rfl ?_;((refine c_apX rfl rfl rfl rfl rfl rfl rfl rfl rfl ?_ fun _ _=>?_;(focus ((omega);done))));refine jK (bts 10 63) ?_;refine jW 3 [8] (bts 10 319) ?_;((refine jG (bts 10 383) 6 rfl (g_iaddrN rfl rfl ?_) ?_;(focus ((omega);done))));refine x_all [7,9] kR dC ⟨?_,?_,trivial⟩;(focus (refine x_opg rfl rfl ?_;((refine c_stAL rfl rfl rfl rfl rfl rfl rfl rfl inferInstance ?_ ?_;(focus ((rw [rows_len];omega);done))));refine jK (bts 10 511) ?_;refine jA 9 rfl ?_;(refine jD rfl rfl rfl ?_);refine jK (bts 10 1023) ?_;refine jQ ?_));rotate_left 1;(focus (refine x_opg rfl rfl ?_;(refine jD rfl rfl rfl ?_);refine jK (bts 10 895) ?_;refine jA 7 rfl ?_;((refine c_stAL rfl rfl rfl rfl rfl rfl rfl rfl inferInstance ?_ ?_;(focus ((rw [rows_len];omega);done))));refine jK (bts 10 1023) ?_;refine jQ ?_));rotate_left 1));rotate_left 2;(focus (refine x_opg rfl rfl ?_;(refine jF fun _=>?_);refine jK (bts 10 21) ?_;refine jA 1 rfl ?_;(refine jAl rfl ?_);refine jK (bts 10 23) ?_;(refine jG (bts 10 31) 3 rfl (g_lenL rfl) ?_);refine jA 5 rfl ?_;((refine c_apX rfl rfl rfl rfl rfl rfl rfl rfl rfl ?_ fun _ _=>?_;(focus ((omega);done))));refine jK (bts 10 63) ?_;refine jW 3 [8] (bts 10 319) ?_;((refine jG (bts 10 383) 6 rfl (g_iaddrN rfl rfl ?_) ?_;(focus ((omega);done))));refine x_all [7,9] kR dC ⟨?_,?_,trivial⟩;(focus (refine x_opg rfl rfl ?_;((refine c_stAL rfl rfl rfl rfl rfl rfl rfl rfl inferInstance ?_ ?_;(focus ((rw [rows_len];omega);done))));refine jK (bts 10 511) ?_;refine jA 9 rfl ?_;(refine jD rfl rfl rfl ?_);refine jK (bts 10 1023) ?_;refine jQ ?_));rotate_left 1;(focus (refine x_opg rfl rfl ?_;(refine jD rfl rfl rfl ?_);refine jK (bts 10 895) ?_;refine jA 7 rfl ?_;((refine c_stAL rfl rfl rfl rfl rfl rfl rfl rfl inferInstance ?_ ?_;(focus ((rw [rows_len];omega);done))));refine jK (bts 10 1023) ?_;refine jQ ?_));rotate_left 1));rotate_left 2)
     all_goals repeat' (refine jM ?_)
     all_goals
      rename_i _ z1 zc
      rw [show rows vcF cs2 ++ [U8 (61 : Nat),S [],I (nth fs i).1.tag,.slice ai 1 ki] = rows vcF (cs2 ++ [⟨61,[],(nth fs i).1.tag,ai,1,ki⟩]) from (rows_snoc vcF cs2 (⟨61,[],(nth fs i).1.tag,ai,1,ki⟩ : VC)).symm,← show (cs2 ++ [(⟨61,[],(nth fs i).1.tag,ai,1,ki⟩ : VC)]).length = cs2.length + 1 by simp]
      exact k_rd (_,cs2 ++ [⟨61,[],(nth fs i).1.tag,ai,1,ki⟩],some ⟨z1,0,none⟩,zc,true,i + 1,G3) ⟨⟨reps_snoc (hci ▸ rep_mono hle hri) hr2,hgq.trans hle⟩,⟨by dsimp only;omega,by dsimp only;simp only [List.length_append,List.length_cons,List.length_nil];split <;> simp <;> omega⟩,hinv⟩ (by dsimp only;omega) tU rfl sB
   ·have heq : ¬ (nth fs i).1.tag = (nth t.fields j).tag:=oM
    rw [decide_eq_false hge,if_neg (fun h=>hge h.1),if_neg heq,Bool.or_false,List.nil_append,← List.append_assoc] at hinv
    repeat' (first | (refine jR ?_) | (refine jo ?_;first | refine jL fun _=>?_ | refine jC rfl rfl rfl ?_ | (refine jV (g_ldRx rfl rfl aS ?_ aS) ?_;(focus ((omega);done))) | (refine jV (g_iaddrN rfl rfl oM) ?_)) | (refine k_tt rfl (dTt oM) ?_))
    dsimp only [VC.sl]
    rename_i yz
    (refine k_any (s_any (id:=8) _ (fun _ h=>h) mixed ?_);refine jT 6 [0] (bts 7 1) ?_;(refine jG (bts 7 3) 1 rfl (g_ld rfl rfl rfl) ?_);(refine jG (bts 7 7) 2 rfl (g_ld rfl rfl rfl) ?_);refine jT 2 [3,4] (bts 7 31) ?_;((refine jG (bts 7 63) 5 rfl (g_ldRF rfl rfl aS ?_ rfl rfl) ?_;(focus ((omega);done))));refine jT 0 [6] (bts 7 127) ?_;refine jQ ?_)
    repeat' (first | (refine jR ?_) | (refine k_ff rfl (dFf ‹_›) ?_))
    (refine k_any (s_any (id:=10) _ (fun _ h=>h) mixed ?_);refine jT 6 [0] (bts 7 1) ?_;(refine jG (bts 7 3) 1 rfl (g_ld rfl rfl rfl) ?_);(refine jG (bts 7 7) 2 rfl (g_ld rfl rfl rfl) ?_);refine jT 2 [3,4] (bts 7 31) ?_;((refine jG (bts 7 63) 5 rfl (g_ldRF rfl rfl aS ?_ rfl rfl) ?_;(focus ((omega);done))));refine jT 0 [6] (bts 7 127) ?_;refine jQ ?_)
    repeat' (first | (refine jR ?_) | (refine k_tt rfl (dTt ‹_›) ?_))
    (refine k_any (s_any (id:=11) [.blk yz (.cells (List.toArray [U8 (61 : Nat),S [],I (nth fs i).1.tag,.slice ai 1 ki]) tVal (0,0))] (by intro y hy;simp only [List.mem_cons,List.not_mem_nil,or_false] at hy ⊢;simp [hy]) mixed ?_);refine jW 9 [0] (bts 10 1) ?_;(refine jG (bts 10 5) 2 rfl (g_ldA rfl rfl rfl rfl) ?_);refine x_all [1,4] kR dC ⟨?_,?_,trivial⟩;(focus (refine x_opg rfl rfl ?_;(refine jAl rfl ?_);refine jK (bts 10 7) ?_;(refine jG (bts 10 15) 3 rfl (g_lenL rfl) ?_);refine jA 4 rfl ?_;(refine jF fun _=>?_);refine jK (bts 10 31) ?_;refine jA 5 rfl ?_;((refine c_apX rfl rfl rfl rfl rfl rfl rfl rfl rfl ?_ fun _ _=>?_;(focus ((omega);done))));refine jK (bts 10 63) ?_;refine jW 3 [8] (bts 10 319) ?_;((refine jG (bts 10 383) 6 rfl (g_iaddrN rfl rfl ?_) ?_;(focus ((omega);done))));refine x_all [7,9] kR dC ⟨?_,?_,trivial⟩;(focus (refine x_opg rfl rfl ?_;((refine c_stAL rfl rfl rfl rfl rfl rfl rfl rfl inferInstance ?_ ?_;(focus ((rw [rows_len];omega);done))));refine jK (bts 10 511) ?_;refine jA 9 rfl ?_;(refine jD rfl rfl rfl ?_);refine jK (bts 10 1023) ?_;refine jQ ?_));rotate_left 1;(focus (refine x_opg rfl rfl ?_;(refine jD rfl rfl rfl ?_);refine jK (bts 10 895) ?_;refine jA 7 rfl ?_;((refine c_stAL rfl rfl rfl rfl rfl rfl rfl rfl inferInstance ?_ ?_;(focus ((rw [rows_len];omega);done))));refine jK (bts 10 1023) ?_;refine jQ ?_));rotate_left 1));rotate_left 2;(focus (refine x_opg rfl rfl ?_;(refine jF fun _=>?_);refine jK (bts 10 21) ?_;refine jA 1 rfl ?_;(refine jAl rfl ?_);refine jK (bts 10 23) ?_;(refine jG (bts 10 31) 3 rfl (g_lenL rfl) ?_);refine jA 5 rfl ?_;((refine c_apX rfl rfl rfl rfl rfl rfl rfl rfl rfl ?_ fun _ _=>?_;(focus ((omega);done))));refine jK (bts 10 63) ?_;refine jW 3 [8] (bts 10 319) ?_;((refine jG (bts 10 383) 6 rfl (g_iaddrN rfl rfl ?_) ?_;(focus ((omega);done))));refine x_all [7,9] kR dC ⟨?_,?_,trivial⟩;(focus (refine x_opg rfl rfl ?_;((refine c_stAL rfl rfl rfl rfl rfl rfl rfl rfl inferInstance ?_ ?_;(focus ((rw [rows_len];omega);done))));refine jK (bts 10 511) ?_;refine jA 9 rfl ?_;(refine jD rfl rfl rfl ?_);refine jK (bts 10 1023) ?_;refine jQ ?_));rotate_left 1;(focus (refine x_opg rfl rfl ?_;(refine jD rfl rfl rfl ?_);refine jK (bts 10 895) ?_;refine jA 7 rfl ?_;((refine c_stAL rfl rfl rfl rfl rfl rfl rfl rfl inferInstance ?_ ?_;(focus ((rw [rows_len];omega);done))));refine jK (bts 10 1023) ?_;refine jQ ?_));rotate_left 1));rotate_left 2)
    all_goals repeat' (refine jM ?_)
    all_goals
     rename_i _ z1 zc
     rw [show rows vcF cs1 ++ [U8 (61 : Nat),S [],I (nth fs i).1.tag,.slice ai 1 ki] = rows vcF (cs1 ++ [⟨61,[],(nth fs i).1.tag,ai,1,ki⟩]) from (rows_snoc vcF cs1 (⟨61,[],(nth fs i).1.tag,ai,1,ki⟩ : VC)).symm,← show (cs1 ++ [(⟨61,[],(nth fs i).1.tag,ai,1,ki⟩ : VC)]).length = cs1.length + 1 by simp]
     exact k_rd (_,cs1 ++ [⟨61,[],(nth fs i).1.tag,ai,1,ki⟩],some ⟨z1,0,none⟩,zc,d,i + 1,Gq) ⟨⟨reps_snoc (hci ▸ hri) hreps,hgq⟩,⟨by dsimp only;omega,by dsimp only;simp only [List.length_append,List.length_cons,List.length_nil];omega⟩,hinv⟩ (by dsimp only;omega) tU rfl sB
  ·rw [List.drop_eq_nil_of_le oM,putA] at hinv
   repeat' (first | (refine jR ?_) | (refine k_ff rfl (dFf oM) ?_))
   refine jo ?_
   refine c_call (vs:=[Pt y1 0,Pt y0 0,Pt y2 0,Pt y5 0,Pt y4 0]) (Lp:=putO y2 y0 y1 y5 y4 told d (Pt bf (of + j * 6)) [U8 (dx.what : Nat),S dx.text,I dx.tag,.slice dx.a dx.n dx.c] a1 k1 cs1) (R:=[_]) rfl rfl rfl (c_add hreps (rep_mono hgq hx) hsf2 hj oM ⟨oM,oM⟩) (List.Perm.refl _) rfl ?_
   rintro r3 G3 L3 ⟨cs2,a2,k2,hle,hr2,rfl⟩
   simp only [putO,List.cons_append,List.nil_append]
   have hcl2:=reps_len hr2
   repeat' (first | (refine jR ?_) | (refine jo ?_;first | refine jC rfl rfl rfl ?_ | refine jAm rfl ?_))
   refine Nx.sealS (v:=.slice a2 cs2.length k2) fun G5 hG5 hsl5=>?_
   refine jZ (vs:=[_]) rfl ⟨rc_A rfl rfl rfl rfl,trivial⟩ rfl ⟨((hgq.trans hle).trans hG5),rfl,?_⟩
   exact ⟨⟨82,[],0,a2,cs2.length,k2⟩,rfl,by rw [hinv];exact rep_mk dC dC (fun h=>absurd h dC) hcl2 hsl5 (reps_mono hG5 hr2)⟩
end Go.E
namespace Go.E
set_option maxRecDepth 20000
set_option maxHeartbeats 2000000
open Go.Proofs
variable {G : Gh}
theorem cut_intsI {b o c : Nat} {n : Int} {p : List Int} (h : SlV G (.slice (some ⟨b,o,none⟩) (n :: p).length c) 1 (n :: p).length (rows inR (n :: p))) : SlV G (.slice (some ⟨b,slO o c (Int.toNat 1) 1,none⟩) ((n :: p).length - Int.toNat 1) (c - Int.toNat 1)) 1 p.length (rows inR p):=by
 have h1:=h.cutAt (m:=Int.toNat 1) (by show 1 ≤ p.length + 1;omega)
 exact h1
section
variable {qs : List TyP} {k k1 : List UInt8} {v1 z : V} {n : Int} {p : List Int} {b pb po pc : Nat} {c dy : VC}
theorem c_chRec {fs : List (Fld × V)} {t : Ty} {f : Fld} (hS : ScI G b qs) (hw : SchW (tyq qs)) (hki : kindIn (tyq qs) k = true) (hrf : refT (tyq qs) k = some t) (hso : t.sort = 82) (hg : fldT t.fields n = some f) (hk1 : k1 = f.kind) (hsr : Srt (fs.map fldV)) (hfs : fs.length ≤ 90000) (hn : 0 ≤ n ∧ n ≤ 999999) (hp : SlV G (.slice (some ⟨pb,po,none⟩) (n :: p).length pc) 1 (n :: p).length (rows inR (n :: p)))
  (hr : V.rep G (.nd 82 [] 0 (fs.map fldV)) c) (hpl : p.length ≤ 100) (hzt : z.tot ≤ 1000000)
  (cx_sty : FnS Tryz.prog 53 [Pt b 0,Ag (kdF k),Ag (vcF c),I n] G (fun r G'=>∃ c',r = Tu [Ag [S (sg k1),S (bs k1),S (nm k1)],Ag (vcF c'),Bo true] ∧ V.rep G' v1 c'))
  (ihz : ∀ {G2 : Gh} {c1 : VC},Gh.le G G2 → V.rep G2 v1 c1 → FnS Tryz.prog 28 [Pt b 0,Ag (kdF k1),Ag (vcF c1),.slice (some ⟨pb,slO po pc (Int.toNat 1) 1,none⟩) ((n :: p).length - Int.toNat 1) (pc - Int.toNat 1),Ag (vcF dy)] G2 (fun r G'=>∃ c',r = Ag (vcF c') ∧ V.rep G' z c')) :
  FnS Tryz.prog 28 [Pt b 0,Ag (kdF k),Ag (vcF c),.slice (some ⟨pb,po,none⟩) (n :: p).length pc,Ag (vcF dy)] G (fun r G'=>∃ c',r = Ag (vcF c') ∧ V.rep G' (.nd 82 [] 0 (putF (tyq qs) f z (fs.map fldV))) c'):=by
 obtain ⟨G0,rfl⟩ : ∃ G0,G0 = G:=⟨G,rfl⟩
 have hg0 : Gh.le G0 G0:=Gh.le.refl _
 obtain ⟨a,kc,cs,rfl,_,_,_,hcl,hsl,hrs⟩:=rep_inv hr
 have e0 : vcF ⟨82,[],0,a,(fs.map fldV).length,kc⟩ = [U8 (82 : Nat),S [],I 0,.slice a (fs.map fldV).length kc]:=rfl
 have e1 : vcF dy = [U8 (dy.what : Nat),S dy.text,I dy.tag,.slice dy.a dy.n dy.c]:=rfl
 have hpl0 : (n :: p).length = p.length + 1:=rfl
 have hti : nth (n :: p) (Int.toNat 0) = n:=rfl
 have hsx : Seg G0 pb po (rows inR (n :: p)):=by
  obtain ⟨b',o',c',e',hs'⟩:=hp.expl (by simp)
  simp only [Value.slice.injEq,Option.some.injEq,Addr.mk.injEq] at e'
  obtain ⟨⟨rfl,rfl,_⟩,_,rfl⟩:=e'
  exact hs'
 obtain ⟨hkd,p0,hfq,hqm⟩:=kind_typ hki hrf
 have htm:=refT_mem hrf
 have hTW:=hw.ty t htm
 have hfl:=hTW.len
 obtain ⟨j,hj,hjf,hjn,hjx⟩:=fldT_some hg
 subst hjx
 rw [hkd,e0] at cx_sty ⊢
 rw [e1]
 refine jB [(0,_),(1,_),(2,_),(3,_),(4,_)] Tryz.func28 Tryz.ntmps28 fun B hok hB hW=>?_
 repeat' (first | (refine jR ?_) | (refine jo ?_;first | refine jO fun _=>?_ | refine jL fun _=>?_ | refine jV (g_lenL rfl) ?_ | (refine jV (g_ldRFx rfl rfl aS ?_ aS rfl rfl) ?_;(focus ((omega);done))) | refine jAm rfl ?_ | refine jC rfl rfl rfl ?_ | (refine jV (g_iaddr rfl rfl oM) ?_) | (refine c_fns rfl rfl rfl cx_sty rfl ?_;rintro _ G hle ⟨cv,rfl,hrv⟩;(have hg0:=hg0.trans hle);(have hS:=hS.mono hle);(have hr:=rep_mono hle hr);(try have hrv:=rep_mono hle hrv);(try have hrz:=rep_mono hle hrz))) | (refine k_ff rfl rfl ?_))
 rename_i y6 y7 y9 y10 y12 y13
 dsimp only [VC.sl]
 have cx_ch:=ihz hg0 hrv
 unfold kdF at cx_ch
 rw [show vcF cv = [U8 (cv.what : Nat),S cv.text,I cv.tag,.slice cv.a cv.n cv.c] from rfl,e1] at cx_ch
 (refine k_any (s_any (id:=5) _ (fun _ h=>h) mixed ?_);refine jT 7 [0,3] (bts 9 9) ?_;(refine jG (bts 9 11) 1 rfl (g_ldA rfl rfl rfl rfl) ?_);(refine jG (bts 9 15) 2 rfl (g_ldA rfl rfl rfl rfl) ?_);(refine jG (bts 9 31) 4 rfl (g_slV rfl rfl oM) ?_);(refine jG (bts 9 63) 5 rfl (g_ldA rfl rfl rfl rfl) ?_);refine x_all [6,7] kR dC ⟨?_,?_,trivial⟩;(focus (refine x_opg rfl rfl ?_;(refine c_fns rfl rfl rfl cx_ch rfl ?_;rintro _ G hle ⟨cz,rfl,hrz⟩;(have hg0:=hg0.trans hle);(have hS:=hS.mono hle);(have hr:=rep_mono hle hr);(try have hrv:=rep_mono hle hrv);(try have hrz:=rep_mono hle hrz));refine jK (bts 9 127) ?_;refine jA 7 rfl ?_;(refine jL fun _=>?_);refine jK (bts 9 255) ?_;refine jA 8 rfl ?_;(refine jC rfl rfl rfl ?_);refine jK (bts 9 511) ?_;refine jQ ?_));rotate_left 1;(focus (refine x_opg rfl rfl ?_;(refine jL fun _=>?_);refine jK (bts 9 191) ?_;refine jA 6 rfl ?_;(refine c_fns rfl rfl rfl cx_ch rfl ?_;rintro _ G hle ⟨cz,rfl,hrz⟩;(have hg0:=hg0.trans hle);(have hS:=hS.mono hle);(have hr:=rep_mono hle hr);(try have hrv:=rep_mono hle hrv);(try have hrz:=rep_mono hle hrz));refine jK (bts 9 255) ?_;refine jA 8 rfl ?_;(refine jC rfl rfl rfl ?_);refine jK (bts 9 511) ?_;refine jQ ?_));rotate_left 1)
 all_goals
  dsimp only [VC.sl]
  obtain ⟨fv,ln,hsg,hfv⟩:=hS.ty _ hqm
  dsimp only at hsg hfv
  have hkv:=kvF_find qs (nm k)
  rw [hfq] at hkv
  dsimp only [Option.map_some] at hkv
  obtain ⟨u,m,g1,g2,g3⟩:=hS.at'
  obtain ⟨bf,of,cf,rfl,hsf⟩:=hfv.expl oM
  have cx_fld:=c_fieldI1 hsg hsf oM hj hjf hjn
  have cx_put:=c_put hS hw htm hso hsf hj hr hrz hfs oM hsr
  rw [e0,show vcF cz = [U8 (cz.what : Nat),S cz.text,I cz.tag,.slice cz.a cz.n cz.c] from rfl] at cx_put
  repeat' (first | (refine jR ?_) | (refine jo ?_;(refine jAl rfl ?_)) | (refine k_tt rfl rfl ?_))
  (refine k_any (s_anyD (id:=7) (tt:=10) rfl mixed ?_);refine jW 8 [0,2,3,4,6,9] (bts 14 605) ?_;(refine jG (bts 14 607) 1 rfl (g_ldA rfl rfl rfl rfl) ?_);(refine jG (bts 14 639) 5 rfl (g_ldS rfl rfl aS rfl rfl) ?_);(refine jG (bts 14 767) 7 rfl (g_ld rfl rfl rfl) ?_);((refine jG (bts 14 1023) 8 rfl (g_lookupX rfl rfl (map_G aS) aS rfl) ?_));(refine jG (bts 14 3071) 11 rfl (g_ldA rfl rfl rfl rfl) ?_);refine jA 10 rfl ?_;(refine c_rt rfl rfl rfl cx_fld rfl ?_);refine jK (bts 14 4095) ?_;refine jA 12 rfl ?_;(refine c_fns rfl rfl rfl cx_put rfl ?_;rintro _ G hle ⟨cz,rfl,hrz⟩;(have hg0:=hg0.trans hle);(have hS:=hS.mono hle);(have hr:=rep_mono hle hr);(try have hrv:=rep_mono hle hrv);(try have hrz:=rep_mono hle hrz));refine jK (bts 14 8191) ?_;refine jA 13 rfl ?_;(refine jC rfl rfl rfl ?_);refine jK (bts 14 16383) ?_;refine jQ ?_)
  all_goals repeat' (refine jR ?_)
  all_goals refine jZ (vs:=[_]) rfl ⟨rc_A rfl rfl rfl rfl,trivial⟩ rfl ⟨hg0,rfl,?_⟩
  all_goals exact ⟨cz,rfl,hrz⟩
theorem reps_set {i : Nat} : ∀ {ks : List V} {cs : List VC} {j : Nat},V.reps G ks cs → ∀ {z : V} {cz : VC},V.rep G z cz → V.reps G (ks.set j z) (cs.set j cz)
 | [],cs,j,h,z,cz,hz=>by rw [V.reps] at h;subst h;exact (by rw [List.set_nil,List.set_nil,V.reps])
 | v :: r,cs,0,h,z,cz,hz=>by
  rw [V.reps] at h
  obtain ⟨c,cs',rfl,h1,h2⟩:=h
  rw [List.set_cons_zero,List.set_cons_zero,V.reps]
  exact ⟨cz,cs',rfl,hz,h2⟩
 | v :: r,cs,j + 1,h,z,cz,hz=>by
  rw [V.reps] at h
  obtain ⟨c,cs',rfl,h1,h2⟩:=h
  rw [List.set_cons_succ,List.set_cons_succ,V.reps]
  exact ⟨c,_,rfl,h1,reps_set (i:=i) h2 hz⟩
theorem all1_vcF : ∀ cs : List VC,all1 (rows vcF cs) = true
 | []=>rfl
 | c :: cs=>by rw [rows_cons,all1_append,all1_vcF cs];rfl
theorem c_chKid {w0 i : Nat} {tg : Int} {ks : List V} (hw0 : (w0 = 91 ∧ i = n.toNat) ∨ ((w0 = 63 ∨ w0 = 85) ∧ i = 0)) (hi : i < ks.length) (hkl : ks.length ≤ 1000000) (hn : 0 ≤ n ∧ n ≤ 999999) (hp : SlV G (.slice (some ⟨pb,po,none⟩) (n :: p).length pc) 1 (n :: p).length (rows inR (n :: p)))
  (hr : V.rep G (.nd w0 [] tg ks) c) (hpl : p.length ≤ 100)
  (cx_sty : FnS Tryz.prog 53 [Pt b 0,Ag (kdF k),Ag (vcF c),I n] G (fun r G'=>∃ c',r = Tu [Ag [S (sg k1),S (bs k1),S (nm k1)],Ag (vcF c'),Bo true] ∧ V.rep G' v1 c'))
  (ihz : ∀ {G2 : Gh} {c1 : VC},Gh.le G G2 → V.rep G2 v1 c1 → FnS Tryz.prog 28 [Pt b 0,Ag (kdF k1),Ag (vcF c1),.slice (some ⟨pb,slO po pc (Int.toNat 1) 1,none⟩) ((n :: p).length - Int.toNat 1) (pc - Int.toNat 1),Ag (vcF dy)] G2 (fun r G'=>∃ c',r = Ag (vcF c') ∧ V.rep G' z c')) :
  FnS Tryz.prog 28 [Pt b 0,Ag (kdF k),Ag (vcF c),.slice (some ⟨pb,po,none⟩) (n :: p).length pc,Ag (vcF dy)] G (fun r G'=>∃ c',r = Ag (vcF c') ∧ V.rep G' (.nd w0 [] tg (ks.set i z)) c'):=by
 obtain ⟨G0,rfl⟩ : ∃ G0,G0 = G:=⟨G,rfl⟩
 have hg0 : Gh.le G0 G0:=Gh.le.refl _
 obtain ⟨a,kc,cs,rfl,hw255,htg,h61,hcl,hsl,hrs⟩:=rep_inv hr
 have e0 : vcF ⟨w0,[],tg,a,ks.length,kc⟩ = [U8 (w0 : Nat),S [],I tg,.slice a ks.length kc]:=rfl
 have e1 : vcF dy = [U8 (dy.what : Nat),S dy.text,I dy.tag,.slice dy.a dy.n dy.c]:=rfl
 have hpl0 : (n :: p).length = p.length + 1:=rfl
 have hti : nth (n :: p) (Int.toNat 0) = n:=rfl
 have hsx : Seg G0 pb po (rows inR (n :: p)):=by
  obtain ⟨b',o',c',e',hs'⟩:=hp.expl (by simp)
  simp only [Value.slice.injEq,Option.some.injEq,Addr.mk.injEq] at e'
  obtain ⟨⟨rfl,rfl,_⟩,_,rfl⟩:=e'
  exact hs'
 rw [hcl] at hsl
 have hal:=all1_vcF cs
 have e2 : kdF k = [S (sg k),S (bs k),S (nm k)]:=rfl
 rw [e0,e2] at cx_sty ⊢
 rw [e1]
 rcases hw0 with ⟨rfl,hie⟩ | ⟨rfl | rfl,hie⟩
 all_goals
  refine jB [(0,_),(1,_),(2,_),(3,_),(4,_)] Tryz.func28 Tryz.ntmps28 fun B hok hB hW=>?_
  repeat' (first | (refine jR ?_) | (refine jo ?_;first | refine jO fun _=>?_ | refine jL fun _=>?_ | refine jV (g_lenL rfl) ?_ | (refine jV (g_ldRFx rfl rfl aS ?_ aS rfl rfl) ?_;(focus ((omega);done))) | refine jAm rfl ?_ | refine jC rfl rfl rfl ?_ | (refine jV (g_iaddr rfl rfl oM) ?_) | (refine c_fns rfl rfl rfl cx_sty rfl ?_;rintro _ G hle ⟨cv,rfl,hrv⟩;(have hg0:=hg0.trans hle);(have hsl:=hsl.mono hle);(try have hrv:=rep_mono hle hrv);(try have hrz:=rep_mono hle hrz))) | (refine k_ff rfl rfl ?_))
  rename_i y6 y7 y9 y10 y12 y13
  dsimp only [VC.sl]
  have cx_ch:=ihz hg0 hrv
  unfold kdF at cx_ch
  rw [show vcF cv = [U8 (cv.what : Nat),S cv.text,I cv.tag,.slice cv.a cv.n cv.c] from rfl,e1] at cx_ch
  (refine k_any (s_any (id:=5) _ (fun _ h=>h) mixed ?_);refine jT 7 [0,3] (bts 9 9) ?_;(refine jG (bts 9 11) 1 rfl (g_ldA rfl rfl rfl rfl) ?_);(refine jG (bts 9 15) 2 rfl (g_ldA rfl rfl rfl rfl) ?_);(refine jG (bts 9 31) 4 rfl (g_slV rfl rfl oM) ?_);(refine jG (bts 9 63) 5 rfl (g_ldA rfl rfl rfl rfl) ?_);refine x_all [6,7] kR dC ⟨?_,?_,trivial⟩;(focus (refine x_opg rfl rfl ?_;(refine c_fns rfl rfl rfl cx_ch rfl ?_;rintro _ G hle ⟨cz,rfl,hrz⟩;(have hg0:=hg0.trans hle);(have hsl:=hsl.mono hle);(try have hrv:=rep_mono hle hrv);(try have hrz:=rep_mono hle hrz));refine jK (bts 9 127) ?_;refine jA 7 rfl ?_;(refine jL fun _=>?_);refine jK (bts 9 255) ?_;refine jA 8 rfl ?_;(refine jC rfl rfl rfl ?_);refine jK (bts 9 511) ?_;refine jQ ?_));rotate_left 1;(focus (refine x_opg rfl rfl ?_;(refine jL fun _=>?_);refine jK (bts 9 191) ?_;refine jA 6 rfl ?_;(refine c_fns rfl rfl rfl cx_ch rfl ?_;rintro _ G hle ⟨cz,rfl,hrz⟩;(have hg0:=hg0.trans hle);(have hsl:=hsl.mono hle);(try have hrv:=rep_mono hle hrv);(try have hrz:=rep_mono hle hrz));refine jK (bts 9 255) ?_;refine jA 8 rfl ?_;(refine jC rfl rfl rfl ?_);refine jK (bts 9 511) ?_;refine jQ ?_));rotate_left 1)
  all_goals
   dsimp only [VC.sl]
   repeat' (first | (refine jR ?_) | (refine jo ?_;(refine jAl rfl ?_)) | (refine k_ff rfl rfl ?_))
   (refine k_any (s_any (id:=8) _ (fun _ h=>h) mixed ?_);refine jT 7 [0,2,4] (bts 10 21) ?_;(refine jG (bts 10 23) 1 rfl (g_ld rfl rfl rfl) ?_);(refine jG (bts 10 31) 3 rfl (g_ld rfl rfl rfl) ?_);(refine jG (bts 10 63) 5 rfl (g_ld rfl rfl rfl) ?_);refine x_all [6,8] kR dC ⟨?_,?_,trivial⟩;(focus (refine x_opg rfl rfl ?_;((refine c_ap0V rfl rfl aS rfl aS rfl rfl rfl rfl ?_ ?_ fun _ _=>?_;(focus ((omega);done));(focus ((omega);done))));refine jK (bts 10 127) ?_;(refine jG (bts 10 255) 7 rfl (g_bld rfl rfl) ?_);refine jA 8 rfl ?_;(refine jL fun _=>?_);refine jK (bts 10 511) ?_;refine jA 9 rfl ?_;(refine jC rfl rfl rfl ?_);refine jK (bts 10 1023) ?_;refine jQ ?_));rotate_left 1;(focus (refine x_opg rfl rfl ?_;(refine jL fun _=>?_);refine jK (bts 10 319) ?_;refine jA 6 rfl ?_;((refine c_ap0V rfl rfl aS rfl aS rfl rfl rfl rfl ?_ ?_ fun _ _=>?_;(focus ((omega);done));(focus ((omega);done))));refine jK (bts 10 383) ?_;(refine jG (bts 10 511) 7 rfl (g_bld rfl rfl) ?_);refine jA 9 rfl ?_;(refine jC rfl rfl rfl ?_);refine jK (bts 10 1023) ?_;refine jQ ?_));rotate_left 1)
   all_goals repeat' (first | (refine jR ?_) | (refine jo ?_;first | refine jAl rfl ?_ | refine jAm rfl ?_ | (refine jV (g_iaddr rfl rfl oM) ?_)) | (refine k_tt rfl rfl ?_) | (refine k_ff rfl rfl ?_))
   all_goals refine jo ?_
   all_goals refine c_stAR (f:=vcF) (c:=cz) (cs:=cs) (i:=i) rfl rfl rfl rfl rfl oM oM ?_
   all_goals repeat' (first | (refine jR ?_) | (refine jo ?_;first | refine jAm rfl ?_ | refine jC rfl rfl rfl ?_))
   all_goals
    rename_i u1 u2 u3 u4
    first | (refine Nx.sealS (v:=.slice (some ⟨u2,0,none⟩) ks.length u3) fun G5 hG5 hsl5=>?_;refine jZ (vs:=[_]) rfl ⟨rc_A rfl rfl rfl rfl,trivial⟩ rfl ⟨(hg0.trans hG5),rfl,?_⟩;exact ⟨⟨_,[],tg,some ⟨u2,0,none⟩,ks.length,u3⟩,rfl,rep_mk hw255 htg (fun h=>by rw [List.length_set];exact h61 h) (by rw [List.length_set]) (by rw [List.length_set,hcl];exact hsl5) (reps_mono hG5 (reps_set (i:=0) (reps_mono hg0 hrs) hrz))⟩) | (refine Nx.sealS (v:=.slice (some ⟨u3,0,none⟩) ks.length u4) fun G5 hG5 hsl5=>?_;refine jZ (vs:=[_]) rfl ⟨rc_A rfl rfl rfl rfl,trivial⟩ rfl ⟨(hg0.trans hG5),rfl,?_⟩;exact ⟨⟨_,[],tg,some ⟨u3,0,none⟩,ks.length,u4⟩,rfl,rep_mk hw255 htg (fun h=>by rw [List.length_set];exact h61 h) (by rw [List.length_set]) (by rw [List.length_set,hcl];exact hsl5) (reps_mono hG5 (reps_set (i:=0) (reps_mono hg0 hrs) hrz))⟩)
theorem c_changeI (hw : SchW (tyq qs)) : ∀ (p : List Int) {G : Gh} {pv : Value} {k : List UInt8} {v y : V} {c dy : VC} {k' : List UInt8} {v' : V},ScI G b qs → SlV G pv 1 p.length (rows inR p) → (∀ n ∈ p,0 ≤ n ∧ n ≤ 999999) → p.length ≤ 8 → V.rep G v c → OfK (tyq qs) k v → kindIn (tyq qs) k = true → v.tot ≤ 400000 → followV (tyq qs) k v p = some (k',v') → V.rep G y dy → OfK (tyq qs) k' y → y.tot ≤ 40000 →
  FnS Tryz.prog 28 [Pt b 0,Ag (kdF k),Ag (vcF c),pv,Ag (vcF dy)] G (fun r G'=>∃ c',r = Ag (vcF c') ∧ V.rep G' (changeV (tyq qs) k v p y) c')
 | [],G,pv,k,v,y,c,dy,k',v',hS,hp,hpn,hpl,hr,ho,hki,htt,hf,hy,hoy,hyt=>by
  simp only [followV,Option.some.injEq,Prod.mk.injEq] at hf
  obtain ⟨rfl,rfl⟩:=hf
  obtain ⟨pa,pc,rfl⟩:=hp.sl
  have hl0 : ([] : List Int).length = 0:=rfl
  have e1 : vcF dy = [U8 (dy.what : Nat),S dy.text,I dy.tag,.slice dy.a dy.n dy.c]:=rfl
  have e3 : vcF c = [U8 (c.what : Nat),S c.text,I c.tag,.slice c.a c.n c.c]:=rfl
  have e2 : kdF k = [S (sg k),S (bs k),S (nm k)]:=rfl
  rw [changeV,e1,e2,e3]
  refine jB [(0,_),(1,_),(2,_),(3,_),(4,_)] Tryz.func28 Tryz.ntmps28 fun B hok hB hW=>?_
  repeat' (first | (refine jR ?_) | (refine jo ?_;first | refine jO fun _=>?_ | refine jL fun _=>?_ | refine jV (g_lenL rfl) ?_ | refine jAm rfl ?_ | refine jC rfl rfl rfl ?_) | (refine k_tt rfl rfl ?_))
  all_goals refine jZ (vs:=[_]) rfl ⟨rc_A rfl rfl rfl rfl,trivial⟩ rfl ⟨Gh.le.refl _,rfl,?_⟩
  all_goals exact ⟨dy,rfl,hy⟩
 | n :: p,G,pv,k,v,y,c,dy,k',v',hS,hp,hpn,hpl,hr,ho,hki,htt,hf,hy,hoy,hyt=>by
  obtain ⟨pb,po,pc,rfl,_⟩:=hp.expl (by simp)
  have hn:=hpn n (by simp)
  have hpn2 : ∀ m ∈ p,0 ≤ m ∧ m ≤ 999999:=fun m hm=>hpn m (by simp [hm])
  have hpl2 : p.length ≤ 8:=by simp at hpl;omega
  unfold followV at hf
  cases hs : stepV (tyq qs) k v n with
  | none=>rw [hs] at hf;cases hf
  | some x =>
   rw [hs] at hf
   obtain ⟨k1,v1⟩:=x
   dsimp only at hf
   obtain ⟨g1,g2⟩:=stepV_ok hw ho hki hn.1 hs
   have g3:=stepV_tot hw ho hki hn.1 hs (N:=400000) htt oM
   have g4:=changeV_tot hw (y:=y) g1 g2 (fun m hm=>(hpn2 m hm).1) hf
   have cx_sty:=StepPI.yes (c_stepI hS hw hki ho hr hn oM) hs
   have hcut:=cut_intsI hp
   have ihz : ∀ {G2 : Gh} {c1 : VC},Gh.le G G2 → V.rep G2 v1 c1 → FnS Tryz.prog 28 [Pt b 0,Ag (kdF k1),Ag (vcF c1),.slice (some ⟨pb,slO po pc (Int.toNat 1) 1,none⟩) ((n :: p).length - Int.toNat 1) (pc - Int.toNat 1),Ag (vcF dy)] G2 (fun r G'=>∃ c',r = Ag (vcF c') ∧ V.rep G' (changeV (tyq qs) k1 v1 p y) c'):=fun hle hr1 =>
    c_changeI hw p (hS.mono hle) (hcut.mono hle) hpn2 hpl2 hr1 g1 g2 g3 hf (rep_mono hle hy) hoy hyt
   rw [changeV_cons hs]
   cases hrf : refT (tyq qs) k with
   | none =>
    obtain ⟨ch,kr,rfl⟩:=kind_ne hki
    by_cases hc : ch.toNat = 91 ∨ ch.toNat = 63
    ·have hst:=stepV_kid (ts:=tyq qs) (c:=ch) (r:=kr) (v:=v) (n:=n) hc
     rw [hs] at hst
     by_cases hlt : n < ((v.kids.length : Nat) : Int)
     ·have htl:=tots_len v.kids
      rcases ofK_inv_c ho oM with ⟨a1,_⟩ | ⟨a1,_⟩ | ⟨a1,_⟩ | ⟨a1,ks,a2,a3,rfl⟩ | ⟨a1,rfl | ⟨w,a3,rfl⟩⟩
      ·omega
      ·omega
      ·omega
      ·rw [V.kids] at hlt
       have e1 : ∀ z,setV (tyq qs) (ch :: kr) (.nd 91 [] 0 ks) n z = .nd 91 [] 0 (ks.set n.toNat z):=fun z=>by
        unfold setV;rw [V.what,if_neg dC,if_pos rfl];rfl
       rw [e1]
       exact c_chKid (.inl ⟨rfl,rfl⟩) oM oM hn hp hr oM cx_sty ihz
      ·simp [V.kids] at hlt;omega
      ·simp [V.kids] at hlt
       obtain rfl : n = 0:=oM
       have e1 : ∀ z,setV (tyq qs) (ch :: kr) (.nd 63 [] 0 [w]) 0 z = .nd 63 [] 0 ([w].set 0 z):=fun z=>by
        unfold setV;rw [V.what,if_neg dC,if_neg dC];rfl
       rw [e1]
       exact c_chKid (.inr ⟨.inl rfl,rfl⟩) (by simp) (by simp) hn hp hr oM cx_sty ihz
     ·rw [if_neg hlt] at hst;cases hst
    ·have hno : stepV (tyq qs) (ch :: kr) v n = none:=by
      rcases plain_kinds hki hc hrf with e | e | e
      all_goals (rw [e];exact stepV_plain dC dC dC)
     rw [hno] at hs;cases hs
   | some t =>
    have hst:=stepV_typ (v:=v) (n:=n) hrf
    rw [hs] at hst
    cases hg : fldT t.fields n with
    | none=>rw [hg] at hst;cases hst
    | some f =>
     rw [hg] at hst
     dsimp only at hst
     by_cases h69 : t.sort = 69
     ·rw [if_pos h69] at hst;cases hst
     ·rw [if_neg h69] at hst
      by_cases h82 : t.sort = 82
      ·rw [if_pos h82] at hst
       simp only [Option.some.injEq,Prod.mk.injEq] at hst
       obtain ⟨rfl,rfl⟩:=hst
       rcases ofK_inv_t ho hrf with ⟨_,fs,rfl,a3,a4,a5,a6⟩ | ⟨a1,_⟩ | ⟨a1,_⟩
       ·have hfs9 : fs.length ≤ 90000:=by
         have h7:=tots_len (fs.map fldV)
         rw [nd_tot] at htt
         have e1 : (fs.map fldV).length = fs.length:=by simp
         omega
        have e1 : ∀ z,setV (tyq qs) k (.nd 82 [] 0 (fs.map fldV)) n z = .nd 82 [] 0 (putF (tyq qs) f z (fs.map fldV)):=fun z=>by
         unfold setV;rw [V.what,if_pos rfl,hrf]
         dsimp only
         rw [hg];rfl
        rw [e1]
        exact c_chRec hS hw hki hrf h82 hg rfl (srt_fs a6) hfs9 hn hp hr oM oM cx_sty ihz
       ·omega
       ·omega
      ·rw [if_neg h82] at hst
       by_cases htg : v.tag = n
       ·rw [if_pos htg] at hst
        rcases ofK_inv_t ho hrf with ⟨a1,_⟩ | ⟨a1,_⟩ | ⟨_,_,d,w,rfl,g4,g5⟩
        ·omega
        ·omega
        ·have e1 : ∀ z,setV (tyq qs) k (.nd 85 [] d.tag [w]) n z = .nd 85 [] d.tag ([w].set 0 z):=fun z=>by
          unfold setV;rw [V.what,if_neg dC,if_neg dC];rfl
         rw [e1]
         exact c_chKid (.inr ⟨.inr rfl,rfl⟩) (by simp) (by simp) hn hp hr oM cx_sty ihz
       ·rw [if_neg htg] at hst;cases hst
end
theorem putF_mem {ts : List Ty} {f : Fld} {y : V} (h : y.out ≠ standF ts f) : ∀ {vs : List V},.nd 61 [] f.tag [y] ∈ putF ts f y vs
 | []=>by rw [putF_nil];unfold nf;rw [if_neg h];simp
 | v :: vs=>by
  rw [putF_cons]
  split
  ·exact List.mem_cons_of_mem _ (putF_mem h)
  ·unfold nf;rw [if_neg h];simp
theorem setV_big {ts : List Ty} (hw : SchW ts) {k : List UInt8} {v : V} (h : OfK ts k v) (hk : kindIn ts k = true) {n : Int} (hn : 0 ≤ n) {k1 : List UInt8} {v1 : V} (e : stepV ts k v n = some (k1,v1)) {y : V} (hy : 400 < y.out.length) : 400 < (setV ts k v n y).out.length:=by
 obtain ⟨c,r,rfl⟩:=kind_ne hk
 unfold stepV at e
 dsimp only at e
 split at e
 ·rename_i hc
  split at e
  ·rename_i hlt
   rcases ofK_inv_c h oM with ⟨g1,_⟩ | ⟨g1,_⟩ | ⟨g1,_⟩ | ⟨g1,ks,g2,g3,rfl⟩ | ⟨g1,rfl | ⟨u,g3,rfl⟩⟩
   ·omega
   ·omega
   ·omega
   ·rw [V.kids] at hlt
    unfold setV
    rw [V.what,if_neg dC,if_pos rfl,V.kids]
    show 400 < (V.nd 91 [] 0 (ks.set n.toNat y)).out.length
    rw [out_list']
    have hm : y ∈ ks.set n.toNat y:=List.mem_iff_getElem.2 ⟨n.toNat,by rw [List.length_set];omega,by simp⟩
    have:=joinB_mem (xs:=(ks.set n.toNat y).map V.out) (List.mem_map_of_mem (f:=V.out) hm)
    simp only [List.length_cons,List.length_append]
    omega
   ·simp [V.kids] at hlt;omega
   ·unfold setV
    rw [V.what,if_neg dC,if_neg dC]
    have e1 : V.out (.nd 63 [] 0 [y]) = 43 :: y.out:=by rw [V.out];simp [V.outs,joinB,outW]
    show 400 < (V.nd 63 [] 0 [y]).out.length
    rw [e1,List.length_cons];omega
  ·cases e
 ·split at e
  ·cases e
  ·rename_i t hr
   have ht:=refT_mem hr
   split at e
   ·cases e
   ·rename_i f hf
    have hfm:=List.mem_of_find?_eq_some hf
    split at e
    ·cases e
    ·rename_i h69
     split at e
     ·rename_i h82
      rcases ofK_inv_t h hr with ⟨_,fs,rfl,g3,g4,_,_⟩ | ⟨g1,_⟩ | ⟨g1,_⟩
      ·have e1 : setV ts (c :: r) (.nd 82 [] 0 (fs.map fldV)) n y = .nd 82 [] 0 (putF ts f y (fs.map fldV)):=by
        unfold setV;rw [V.what,if_pos rfl,hr]
        dsimp only
        rw [hf];rfl
       have hst:=(valOf_rd (standV_ok hw ht h69 hfm).2.1).2
       have hne : y.out ≠ standF ts f:=fun e=>by rw [e] at hy;omega
       have:=joinB_mem (xs:=(putF ts f y (fs.map fldV)).map V.out) (List.mem_map_of_mem (f:=V.out) (putF_mem hne))
       rw [out_fld] at this
       rw [e1,out_rec']
       simp only [List.length_cons,List.length_append] at this ⊢
       omega
      ·omega
      ·omega
     ·rename_i h82
      split at e
      ·rcases ofK_inv_t h hr with ⟨h1,_⟩ | ⟨h1,_⟩ | ⟨_,_,d,u,rfl,g4,g5⟩
       ·omega
       ·omega
       ·unfold setV
        rw [V.what,if_neg dC,if_neg dC]
        have e1 : V.out (.nd 85 [] d.tag [y]) = 60 :: (decI d.tag ++ 61 :: (y.out ++ [62])):=by rw [V.out];simp [V.outs,joinB,outW]
        show 400 < (V.nd 85 [] d.tag [y]).out.length
        rw [e1]
        simp only [List.length_cons,List.length_append]
        omega
      ·cases e
theorem changeV_big {ts : List Ty} (hw : SchW ts) : ∀ {p : List Int} {k : List UInt8} {v y : V} {k' : List UInt8} {v' : V},OfK ts k v → kindIn ts k = true → (∀ n ∈ p,0 ≤ n) → followV ts k v p = some (k',v') → 400 < y.out.length → 400 < (changeV ts k v p y).out.length
 | [],k,v,y,k',v',h,hk,_,e,hy=>by rw [changeV];exact hy
 | n :: p,k,v,y,k',v',h,hk,hp,e,hy=>by
  unfold followV at e
  cases hs : stepV ts k v n with
  | none=>rw [hs] at e;cases e
  | some x =>
   rw [hs] at e
   obtain ⟨k1,v1⟩:=x
   have hn:=hp n (by simp)
   obtain ⟨h1,h2⟩:=stepV_ok hw h hk hn hs
   rw [changeV_cons hs]
   exact setV_big hw h hk hn hs (changeV_big hw h1 h2 (fun m hm=>hp m (by simp [hm])) e hy)
theorem c_PathSetI {s k w p x : List UInt8} (h1 : s.length ≤ 1048576 ∧ k.length ≤ 1048576 ∧ w.length ≤ 1048576 ∧ p.length ≤ 1048576) (hx : x.length ≤ 1048576) : PuG Tryz.prog 8 [S s,S k,S w,S p,S x] G (· = psR (pathSetV s k w p x)):=by
 unfold pathSetV
 cases hg : givenV s k w with
 | none =>
  rw [psv_none]
  have cx_gi0:=c_given0 (G:=G) (s:=s) (k:=k) (w:=w) oM hg
  cases hpo : pathOf p with
  | none =>
   have cx_sp:=readPath_no h1.2.2.2 hpo
   refine jB (Post:=fun v G' L'=>G' = G ∧ L' = [] ∧ _) [(0,_),(1,_),(2,_),(3,_),(4,_)] Tryz.func8 Tryz.ntmps8 fun B hok hB hW=>?_
   repeat' (first | (refine jR ?_) | (refine jo ?_;first | refine jL fun _=>?_ | refine jC rfl rfl rfl ?_ | (refine jAt rfl ?_) | (refine c_fns rfl rfl rfl cx_gi0 rfl ?_;rintro _ G hle ⟨p1,a1,b1,c1,rfl⟩;skip) | (refine c_fns rfl rfl rfl (cx_sp _) rfl ?_;rintro _ G hle ⟨sa,sc,sn,rfl,hsp⟩;skip)) | (refine k_gt rfl rfl rfl ?_) | (refine k_tt rfl rfl ?_))
   all_goals refine Nx.base hok hB ?_
   all_goals refine jY (vs:=[_,_]) ?_
   all_goals rfl
  | some q =>
   have cx_sp:=readPath_yes h1.2.2.2 hpo
   refine jB (Post:=fun v G' L'=>G' = G ∧ L' = [] ∧ _) [(0,_),(1,_),(2,_),(3,_),(4,_)] Tryz.func8 Tryz.ntmps8 fun B hok hB hW=>?_
   repeat' (first | (refine jR ?_) | (refine jo ?_;first | refine jL fun _=>?_ | refine jC rfl rfl rfl ?_ | (refine jAt rfl ?_) | (refine c_fns rfl rfl rfl cx_gi0 rfl ?_;rintro _ G hle ⟨p1,a1,b1,c1,rfl⟩;skip) | (refine c_fns rfl rfl rfl (cx_sp _) rfl ?_;rintro _ G hle ⟨sa,sc,sn,rfl,hsp⟩;skip)) | (refine k_gt rfl rfl rfl ?_) | (refine k_tt rfl rfl ?_))
   all_goals refine Nx.base hok hB ?_
   all_goals refine jY (vs:=[_,_]) ?_
   all_goals rfl
 | some u =>
  obtain ⟨ts,hs,hki,hvo,hto,hwf⟩:=given_some hg
  have cx_gi1:=c_given1 (G:=G) (s:=s) (k:=k) (w:=w) oM hs hki hvo
  rw [hs]
  cases hpo : pathOf p with
  | none =>
   have cx_sp:=readPath_no h1.2.2.2 hpo
   refine jB (Post:=fun v G' L'=>G' = G ∧ L' = [] ∧ _) [(0,_),(1,_),(2,_),(3,_),(4,_)] Tryz.func8 Tryz.ntmps8 fun B hok hB hW=>?_
   repeat' (first | (refine jR ?_) | (refine jo ?_;first | refine jL fun _=>?_ | refine jC rfl rfl rfl ?_ | (refine jAf rfl ?_) | (refine c_fns rfl rfl rfl cx_gi1 rfl ?_;rintro _ G hle ⟨bg,qg,cv,rfl,hTg,hRg,hrv⟩;skip) | (refine c_fns rfl rfl rfl (cx_sp _) rfl ?_;rintro _ G hle ⟨sa,sc,sn,rfl,hsp⟩;skip)) | (refine k_gf rfl rfl rfl ?_) | (refine k_tt rfl rfl ?_))
   all_goals refine Nx.base hok hB ?_
   all_goals refine jY (vs:=[_,_]) ?_
   all_goals rfl
  | some q =>
   have cx_sp:=readPath_yes h1.2.2.2 hpo
   obtain ⟨hq8,hqn⟩:=pathOf_le hpo
   have hof:=valOf_of_k hvo
   have hw:=schemaOf_w hs
   have hqn0 : ∀ n ∈ q,0 ≤ n:=fun n hn=>(hqn n hn).1
   dsimp only
   cases hfo : followV ts k u q with
   | none =>
    dsimp only
    refine jB (Post:=fun v G' L'=>G' = G ∧ L' = [] ∧ _) [(0,_),(1,_),(2,_),(3,_),(4,_)] Tryz.func8 Tryz.ntmps8 fun B hok hB hW=>?_
    repeat' (first | (refine jR ?_) | (refine jo ?_;first | refine jL fun _=>?_ | refine jC rfl rfl rfl ?_ | (refine jAf rfl ?_) | refine jAm rfl ?_ | (refine c_fns rfl rfl rfl cx_gi1 rfl ?_;rintro _ G hle ⟨bg,qg,cv,rfl,hTg,hRg,hrv⟩;(try have hru:=rep_mono hle hru);(try have hRg:=ScI.mono hRg hle);(try have hsp:=SlV.mono hsp hle)) | (refine c_fns rfl rfl rfl (cx_sp _) rfl ?_;rintro _ G hle ⟨sa,sc,sn,rfl,hsp⟩;(try have hru:=rep_mono hle hru);(try have hRg:=ScI.mono hRg hle);(try have hsp:=SlV.mono hsp hle))) | (refine k_gf rfl rfl rfl ?_) | (refine k_ff rfl rfl ?_))
    obtain ⟨rfl,hsp⟩:=hsp
    subst hTg
    have hru:=rep_mono hle hrv
    have hfl:=c_followI hRg hw hsp hqn oM hru hof hki oM
    unfold kdF at hfl
    rw [show vcF cv = [U8 (cv.what : Nat),S cv.text,I cv.tag,.slice cv.a cv.n cv.c] from rfl] at hfl
    have cx_fon:=StepPI.no hfl hfo
    repeat' (first | (refine jR ?_) | (refine jo ?_;first | refine jL fun _=>?_ | refine jC rfl rfl rfl ?_ | (refine c_fns rfl rfl rfl cx_fon rfl ?_;rintro _ G hle rfl;(try have hru:=rep_mono hle hru);(try have hRg:=ScI.mono hRg hle);(try have hsp:=SlV.mono hsp hle))) | (refine k_tt rfl rfl ?_))
    all_goals refine Nx.base hok hB ?_
    all_goals refine jY (vs:=[_,_]) ?_
    all_goals rfl
   | some y =>
    obtain ⟨k1,v1⟩:=y
    obtain ⟨_,hk1⟩:=followV_ok hw hof hki hqn0 hfo
    dsimp only
    cases hvx : valOf ts k1 x with
    | none =>
     suffices key : PuG Tryz.prog 8 [S s,S k,S w,S p,S x] G (· = psR none) by
      rcases hrd : rd ts 12 k1 x with _ | ⟨y,_ | _⟩
      ·exact key
      ·have hxl : ¬ x.length ≤ 400:=fun hl=>by
        unfold valOf at hvx
        rw [if_pos hl,hrd] at hvx
        cases hvx
       have hyo:=rd_out _ _ _ _ hrd
       dsimp only at hyo
       rw [List.append_nil] at hyo
       have:=changeV_big hw (y:=y) hof hki hqn0 hfo (by rw [← hyo];omega)
       dsimp only
       rw [if_neg (fun h=>by omega)]
       exact key
      ·exact key
     refine jB (Post:=fun v G' L'=>G' = G ∧ L' = [] ∧ _) [(0,_),(1,_),(2,_),(3,_),(4,_)] Tryz.func8 Tryz.ntmps8 fun B hok hB hW=>?_
     repeat' (first | (refine jR ?_) | (refine jo ?_;first | refine jL fun _=>?_ | refine jC rfl rfl rfl ?_ | (refine jAf rfl ?_) | refine jAm rfl ?_ | (refine c_fns rfl rfl rfl cx_gi1 rfl ?_;rintro _ G hle ⟨bg,qg,cv,rfl,hTg,hRg,hrv⟩;(try have hru:=rep_mono hle hru);(try have hRg:=ScI.mono hRg hle);(try have hsp:=SlV.mono hsp hle)) | (refine c_fns rfl rfl rfl (cx_sp _) rfl ?_;rintro _ G hle ⟨sa,sc,sn,rfl,hsp⟩;(try have hru:=rep_mono hle hru);(try have hRg:=ScI.mono hRg hle);(try have hsp:=SlV.mono hsp hle))) | (refine k_gf rfl rfl rfl ?_) | (refine k_ff rfl rfl ?_))
     obtain ⟨rfl,hsp⟩:=hsp
     subst hTg
     have hru:=rep_mono hle hrv
     have hfl:=c_followI hRg hw hsp hqn oM hru hof hki oM
     unfold kdF at hfl
     rw [show vcF cv = [U8 (cv.what : Nat),S cv.text,I cv.tag,.slice cv.a cv.n cv.c] from rfl] at hfl
     have cx_foy:=StepPI.yes hfl hfo
     repeat' (first | (refine jR ?_) | (refine jo ?_;first | refine jL fun _=>?_ | refine jC rfl rfl rfl ?_ | refine jAm rfl ?_ | (refine c_fns rfl rfl rfl cx_foy rfl ?_;rintro _ G hle ⟨cv,rfl,hrv⟩;(try have hru:=rep_mono hle hru);(try have hRg:=ScI.mono hRg hle);(try have hsp:=SlV.mono hsp hle))) | (refine k_ff rfl rfl ?_))
     have cx_rin : FnS Tryz.prog 27 [Pt bg 0,Ag [S (sg k1),S (bs k1),S (nm k1)],S x] G (fun v _=>v = Tu [zP,Bo false]):=by
      refine (c_readI (G:=G) (b:=bg) (s:=x) hRg hw hk1 oM).mono ?_
      rintro v G' L' ⟨a1,a2,⟨_,a3⟩ | ⟨u',c',a4,_⟩⟩
      ·exact ⟨a1,a2,a3⟩
      ·rw [hvx] at a4;cases a4
     repeat' (first | (refine jR ?_) | (refine jo ?_;first | refine jL fun _=>?_ | refine jC rfl rfl rfl ?_ | (refine c_fns rfl rfl rfl cx_rin rfl ?_;rintro _ G hle rfl;(try have hru:=rep_mono hle hru);(try have hRg:=ScI.mono hRg hle);(try have hsp:=SlV.mono hsp hle))) | (refine k_tt rfl rfl ?_))
     all_goals refine Nx.base hok hB ?_
     all_goals refine jY (vs:=[_,_]) ?_
     all_goals rfl
    | some y =>
     obtain ⟨hrd,hxl⟩:=valOf_rd hvx
     rw [hrd]
     dsimp only
     have hoy:=valOf_of_k hvx
     have hyt:=rd_tot _ _ _ _ hrd
     dsimp only at hyt
     have hcg:=changeV_ok hw hof hki hqn0 hfo hoy
     have hct:=changeV_tot hw (y:=y) hof hki hqn0 hfo
     obtain ⟨o,ho⟩ : ∃ o,(if (changeV ts k u q y).out.length ≤ 400 ∧ (changeV ts k u q y).deep ≤ 12 then some (changeV ts k u q y).out else none) = o:=⟨_,rfl⟩
     rw [ho]
     refine jB (Post:=fun v G' L'=>G' = G ∧ L' = [] ∧ _) [(0,_),(1,_),(2,_),(3,_),(4,_)] Tryz.func8 Tryz.ntmps8 fun B hok hB hW=>?_
     repeat' (first | (refine jR ?_) | (refine jo ?_;first | refine jL fun _=>?_ | refine jC rfl rfl rfl ?_ | (refine jAf rfl ?_) | refine jAm rfl ?_ | (refine c_fns rfl rfl rfl cx_gi1 rfl ?_;rintro _ G hle ⟨bg,qg,cv,rfl,hTg,hRg,hrv⟩;(try have hru:=rep_mono hle hru);(try have hRg:=ScI.mono hRg hle);(try have hsp:=SlV.mono hsp hle)) | (refine c_fns rfl rfl rfl (cx_sp _) rfl ?_;rintro _ G hle ⟨sa,sc,sn,rfl,hsp⟩;(try have hru:=rep_mono hle hru);(try have hRg:=ScI.mono hRg hle);(try have hsp:=SlV.mono hsp hle))) | (refine k_gf rfl rfl rfl ?_) | (refine k_ff rfl rfl ?_))
     obtain ⟨rfl,hsp⟩:=hsp
     subst hTg
     have hru:=rep_mono hle hrv
     have hfl:=c_followI hRg hw hsp hqn oM hru hof hki oM
     unfold kdF at hfl
     rw [show vcF cv = [U8 (cv.what : Nat),S cv.text,I cv.tag,.slice cv.a cv.n cv.c] from rfl] at hfl
     have cx_foy:=StepPI.yes hfl hfo
     repeat' (first | (refine jR ?_) | (refine jo ?_;first | refine jL fun _=>?_ | refine jC rfl rfl rfl ?_ | refine jAm rfl ?_ | (refine c_fns rfl rfl rfl cx_foy rfl ?_;rintro _ G hle ⟨cv,rfl,hrv⟩;(try have hru:=rep_mono hle hru);(try have hRg:=ScI.mono hRg hle);(try have hsp:=SlV.mono hsp hle))) | (refine k_ff rfl rfl ?_))
     have cx_ris : FnS Tryz.prog 27 [Pt bg 0,Ag [S (sg k1),S (bs k1),S (nm k1)],S x] G (fun v G'=>∃ cv,v = Tu [Ag (vcF cv),Bo true] ∧ V.rep G' y cv):=by
      refine (c_readI (G:=G) (b:=bg) (s:=x) hRg hw hk1 oM).mono ?_
      rintro v G' L' ⟨a1,a2,⟨a4,_⟩ | ⟨u',c',a4,rfl,a5⟩⟩
      ·rw [hvx] at a4;cases a4
      ·rw [hvx] at a4;obtain rfl:=Option.some.inj a4;exact ⟨a1,a2,c',rfl,a5⟩
     repeat' (first | (refine jR ?_) | (refine jo ?_;first | refine jL fun _=>?_ | refine jC rfl rfl rfl ?_ | refine jAm rfl ?_ | (refine c_fns rfl rfl rfl cx_ris rfl ?_;rintro _ G hle ⟨cv,rfl,hrv⟩;(try have hru:=rep_mono hle hru);(try have hRg:=ScI.mono hRg hle);(try have hsp:=SlV.mono hsp hle))) | (refine k_ff rfl rfl ?_))
     have cx_ch:=c_changeI hw q hRg hsp hqn hq8 hru hof hki oM hfo hrv hoy oM
     simp only [kdF,vcF,VC.sl] at cx_ch
     dsimp only [vcF,VC.sl]
     repeat' (first | (refine jR ?_) | (refine jo ?_;first | refine jL fun _=>?_ | refine jC rfl rfl rfl ?_ | refine jAm rfl ?_ | (refine c_fns rfl rfl rfl cx_ch rfl ?_;rintro _ G hle ⟨cz,rfl,hrz⟩;(try have hru:=rep_mono hle hru);(try have hRg:=ScI.mono hRg hle);(try have hsp:=SlV.mono hsp hle))))
     have cx_fit:=c_fits hrz oM
     have cx_pr:=c_print (G:=G) (c:=cz) _ (Nat.le_refl _) oM hrz
     simp only [vcF,VC.sl] at cx_fit cx_pr
     by_cases hfit : (changeV (tyq qg) k u q y).out.length ≤ 400 ∧ (changeV (tyq qg) k u q y).deep ≤ 12
     ·rw [if_pos hfit] at ho
      subst ho
      rw [decide_eq_true hfit] at cx_fit
      repeat' (first | (refine jR ?_) | (refine jo ?_;first | refine jAm rfl ?_ | (refine c_rt rfl rfl rfl cx_fit rfl ?_) | (refine c_rt rfl rfl rfl cx_pr rfl ?_)) | (refine k_ff rfl rfl ?_))
      all_goals refine Nx.base hok hB ?_
      all_goals refine jY (vs:=[_,_]) ?_
      all_goals rfl
     ·rw [if_neg hfit] at ho
      subst ho
      rw [decide_eq_false hfit] at cx_fit
      repeat' (first | (refine jR ?_) | (refine jo ?_;(refine c_rt rfl rfl rfl cx_fit rfl ?_)) | (refine k_tt rfl rfl ?_))
      all_goals refine Nx.base hok hB ?_
      all_goals refine jY (vs:=[_,_]) ?_
      all_goals rfl
theorem pgv_len {s k w p : List UInt8} : (((pathGetV s k w p).map (·.1)).getD []).length ≤ 400 ∧ (((pathGetV s k w p).map (·.2)).getD []).length ≤ 400:=by
 cases h : pathGetV s k w p with
 | none=>simp
 | some y =>
  obtain ⟨k1,x1⟩:=y
  obtain ⟨ts,u,q,v1,h1,h2,h3,h4,rfl⟩:=pgv_some h
  obtain ⟨ts',g1,g2,g3,g4,g5⟩:=given_some h2
  obtain rfl : ts = ts':=Option.some.inj (h1.symm.trans g1)
  have hw:=schemaOf_w h1
  obtain ⟨b1,b2,b3,b4⟩:=pathOf_text h3
  have hq0 : ∀ n ∈ q,0 ≤ n:=fun n hn=>(b3 n hn).1
  have ho:=valOf_of_k g3
  obtain ⟨c1,c2⟩:=followV_ok hw ho g2 hq0 h4
  obtain ⟨d1,d2,d3⟩:=valOf_out g3
  obtain ⟨e1,e2⟩:=followV_fits hw ho g2 hq0 h4 d3 (by rw [d1];exact d2)
  have:=(kindOk_kOk (kindIn_ok c2)).2
  exact ⟨by simpa using (by omega : k1.length ≤ 400),by simpa using e2⟩
theorem c_DrawPathSet {v : Value} {l : List UInt8} (hs : SlV G v 1 l.length (u8s l)) : PuG Tryz.prog 7 [v] G (fun r=>∃ s k x p y,r = Tu [S s,S k,S x,S p,S y] ∧ (s.length ≤ 1048576 ∧ k.length ≤ 1048576 ∧ x.length ≤ 1048576 ∧ p.length ≤ 1048576) ∧ y.length ≤ 1048576):=by
 refine jE [(0,_)] Tryz.func7 Tryz.ntmps7 fun B hB=>?_
 repeat' (first | (refine jR ?_) | (refine jo ?_;first | refine jF fun _=>?_ | (refine jV (g_iaddr rfl rfl oM) ?_) | (refine c_ldMS 64 rfl rfl rfl ?_ rfl (fun xs hxs=>?_);(focus ((simp only [List.length_append,List.length_cons,List.length_nil,List.length_take];omega);done))) | (refine c_fng rfl rfl rfl (c_l6Open (by (repeat (assumption));done)) rfl ?_;rintro _ _ ⟨b,code,l,rfl,rfl,hcd,hcl⟩;dsimp only [zA,fA]) | (refine c_m1g rfl rfl rfl (c_l91Three ?_ (by (repeat (assumption));done)) rfl ?_;(focus ((omega);done));rintro _ _ ⟨sc,kd,tx,q1,rfl,⟨hsc,hkd,htx⟩,rfl,hq1,hq2⟩;dsimp only [zA,fA]) | (refine c_m1g rfl rfl rfl (c_l91Path ?_ (by (repeat (assumption));done) ?_) rfl ?_;(focus ((omega);done));(focus ((omega);done));rintro _ _ ⟨pth,q1,rfl,hpth,rfl,hq1,hq2⟩;dsimp only [zA,fA]) | (refine c_m1g rfl rfl rfl (c_pick ?_ (by (repeat (assumption));done)) rfl ?_;(focus ((omega);done));rintro _ _ ⟨k,rfl,rfl,hk0,hk1⟩;dsimp only [zA,fA])))
 have cx_ss2:=c_PathGetS (G:=G) (s:=sc) (k:=kd) (w:=tx) (p:=pth) ⟨oM,oM,oM,oM⟩
 have hkl:=(pgv_len (s:=sc) (k:=kd) (w:=tx) (p:=pth)).1
 unfold pgR at cx_ss2
 generalize ((pathGetV sc kd tx pth).map (·.1)).getD [] = kk at *
 generalize ((pathGetV sc kd tx pth).map (·.2)).getD [] = xx at *
 generalize (pathGetV sc kd tx pth).isSome = oo at *
 repeat' (first | (refine jR ?_) | (refine jo ?_;first | (refine jAt rfl ?_) | (refine jAf rfl ?_) | (refine c_m1g rfl rfl rfl (c_pick ?_ (by (repeat (assumption));done)) rfl ?_;(focus ((omega);done));rintro _ _ ⟨k,rfl,rfl,hk0,hk1⟩;dsimp only [zA,fA]) | (refine c_rt rfl rfl rfl cx_ss2 rfl ?_) | (refine c_m1g rfl rfl rfl (c_l91Of ?_ (by (repeat (assumption));done) ?_ ?_) rfl ?_;(focus ((omega);done));(focus ((omega);done));(focus ((omega);done));rintro _ _ ⟨tx,q1,rfl,htx,rfl,hq1,hq2⟩;dsimp only [zA,fA])) | refine k_gb rfl rfl (fun _=>?_) (fun _=>?_) | (refine k_ff rfl rfl ?_) | refine k_if rfl (fun _=>?_) (fun _=>?_))
 all_goals exact jZ (vs:=[_,_,_,_,_]) rfl ⟨rfl,rfl,rfl,rfl,rfl,trivial⟩ rfl ⟨rfl,rfl,_,_,_,_,_,rfl,⟨oM,oM,oM,oM⟩,by (omega)⟩
theorem c_FnPathSet {v : Value} {l : List UInt8} (hs : SlV G v 1 l.length (u8s l)) : PuG Tryz.prog 3 [v] G (· = Bo true):=by
 obtain ⟨a,cap,rfl⟩:=hs.sl
 refine jE [(0,_)] Tryz.func3 Tryz.ntmps3 fun B hB=>?_
 repeat' (first | (refine jR ?_) | (refine jo ?_;first | refine jV (g_lenL rfl) ?_ | (refine c_pu rfl rfl rfl (c_DrawPathSet (by (repeat (assumption));done)) rfl ?_;rintro _ ⟨s1,k1,x1,p1,y1,rfl,hsz⟩)) | refine k_if rfl (fun _=>?_) (fun _=>?_))
 ·refine jY (vs:=[_]) ?_
  rfl
 have cx_ss1:=c_PathSetI (G:=G) hsz.1 hsz.2
 have cx_ss2:=c_PathSetS (G:=G) hsz.1 hsz.2
 cases h : pathSetV s1 k1 x1 p1 y1 with
 | none =>
  rw [h] at cx_ss1 cx_ss2
  unfold psR at cx_ss1 cx_ss2
  simp only [Option.getD_none,Option.isSome_none] at cx_ss1 cx_ss2
  repeat' (first | (refine jR ?_) | (refine jo ?_;first | (refine jAt rfl ?_) | (refine jAf rfl ?_) | (refine c_rt rfl rfl rfl cx_ss1 rfl ?_) | (refine c_rt rfl rfl rfl cx_ss2 rfl ?_)) | (refine k_gt rfl rfl rfl ?_) | (refine k_gf rfl rfl rfl ?_) | (refine k_tt rfl rfl ?_))
  all_goals refine jY (vs:=[_]) ?_
  all_goals rfl
 | some z =>
  obtain ⟨kk,old,h1,h2,h3⟩:=path_set h
  have hzl:=(psv_ok h).2
  have hpl:=(pgv_len (s:=s1) (k:=k1) (w:=x1) (p:=p1)).2
  rw [h] at cx_ss1 cx_ss2
  rw [h1] at hpl
  unfold psR at cx_ss1 cx_ss2
  simp only [Option.getD_some,Option.isSome_some,Option.map_some] at cx_ss1 cx_ss2 hpl
  have cx_pg1:=c_PathGetI (G:=G) hsz.1
  have cx_pg2:=c_PathGetI (G:=G) (s:=s1) (k:=k1) (w:=z) (p:=p1) ⟨hsz.1.1,hsz.1.2.1,oM,hsz.1.2.2.2⟩
  have cx_ps3:=c_PathSetI (G:=G) (s:=s1) (k:=k1) (w:=z) (p:=p1) (x:=old) ⟨hsz.1.1,hsz.1.2.1,oM,hsz.1.2.2.2⟩ oM
  rw [h1] at cx_pg1
  rw [h2] at cx_pg2
  rw [h3] at cx_ps3
  unfold psR at cx_ps3
  unfold pgR at cx_pg1 cx_pg2
  simp only [Option.getD_some,Option.isSome_some,Option.map_some] at cx_pg1 cx_pg2 cx_ps3
  repeat' (first | (refine jR ?_) | (refine jo ?_;first | (refine jAt rfl ?_) | (refine jAf rfl ?_) | (refine c_rt rfl rfl rfl cx_ss1 rfl ?_) | (refine c_rt rfl rfl rfl cx_ps3 rfl ?_) | (refine c_rt rfl rfl rfl cx_ss2 rfl ?_) | (refine c_rt rfl rfl rfl cx_pg1 rfl ?_) | (refine c_rt rfl rfl rfl cx_pg2 rfl ?_)) | (refine k_gt rfl rfl (by first | rfl | (refine decide_eq_true ?_;(rfl))) ?_) | (refine k_gf rfl rfl rfl ?_) | (refine k_ff rfl rfl ?_))
  all_goals refine jY (vs:=[_]) ?_
  all_goals (exact congrArg Value.bool (decide_eq_true rfl))
def okL (q : List Int) (v : V) : Bool:=v.leaves.all fun r=>decide ((q ++ r).length ≤ 8)
def okLs (q : List Int) (ks : List V) (w : Nat) (t : Int) : Bool:=(V.leavesS ks w t 0).all fun r=>decide ((q ++ r).length ≤ 8)
theorem okLs_snoc {q : List Int} {ks : List V} {v : V} {w : Nat} {t : Int} : okLs q (ks ++ [v]) w t = (okLs q ks w t && okL (q ++ [stepNo w t ks.length v]) v):=by
 unfold okLs okL
 rw [leavesS_snoc,List.all_append,List.all_map,Nat.zero_add]
 congr 1
 congr 1
 funext r
 simp
theorem okLs_nil {q : List Int} {w : Nat} {t : Int} : okLs q [] w t = true:=by unfold okLs;rw [V.leavesS];rfl
theorem okL_leaf {q : List Int} {w : Nat} {x : List UInt8} {t : Int} (h : leafW w true = true) : okL q (.nd w x t []) = decide (q.length ≤ 8):=by
 unfold okL
 rw [V.leaves,if_pos (c:=leafW w ([] : List V).isEmpty = true) h]
 simp
theorem okL_nd {q : List Int} {w : Nat} {x : List UInt8} {t : Int} {ks : List V} (h : leafW w ks.isEmpty = false) (h61 : w ≠ 61) : okL q (.nd w x t ks) = okLs q ks w t:=by
 unfold okL okLs
 rw [V.leaves,if_neg (by rw [h];simp),if_neg h61]
theorem okL_fld {q : List Int} {t : Int} {v : V} : okL q (.nd 61 [] t [v]) = okL q v:=by
 unfold okL
 rw [V.leaves,if_neg (by simp [leafW]),if_pos rfl,V.leavesF,V.leavesF,List.append_nil]
theorem lensT_dec : ∀ {q : List Int},(∀ n ∈ q,0 ≤ n ∧ n ≤ 999999) → lensT (q.map decI) ≤ 6 * q.length
 | [],_=>by simp [lensT]
 | n :: q,h=>by
  have h1:=decI_6 (h n (by simp)).2
  have h2:=lensT_dec (q:=q) fun x hx=>h x (by simp [hx])
  simp only [List.map_cons,lensT,List.length_cons,List.sum_cons] at h2 ⊢
  omega
abbrev tTxI : TypeId:=9
abbrev tOkI : TypeId:=4
abbrev tOuI : TypeId:=33
abbrev okO (b : Nat) (o : Bool) : Own:=.blk b (.cells (List.toArray [Bo o]) tOkI (0,0))
abbrev ouO (b : Nat) (v : Value) : Own:=.blk b (.cells (List.toArray [v]) tOuI (0,0))
theorem c_see {n : Nat} {pa : Option Addr} {pc bo bu m cap : Nat} {q : List Int} {ok : Bool} {a : Option Addr} {out : List (List UInt8)} (hn : n = q.length) (hs : SlV G (.slice pa n pc) 1 n (rows strF (q.map decI))) (hq : ∀ n ∈ q,0 ≤ n ∧ n ≤ 999999) (hm : m = out.length ∧ m ≤ 100000 ∧ n ≤ 100000) :
  FnM Tryz.prog 42 [.slice pa n pc,Pt bo 0,Pt bu 0] G [.acc (.slice a m cap) tTxI 1 m (rows strF out),okO bo ok,ouO bu (.slice a m cap)]
   (fun _ _ L'=>∃ a' cap',L' = [.acc (.slice a' (m + 1) cap') tTxI 1 (m + 1) (rows strF (out ++ [pathText q])),okO bo (ok && decide (q.length ≤ 8)),ouO bu (.slice a' (m + 1) cap')]):=by
 have hle:=lensT_dec hq
 have hml : n = (q.map decI).length:=by simp [hn]
 have cx_join : PuG Tryz.prog 43 [.slice pa n pc,S [47]] G (· = S (pathText q)):=by
  have hs2 : SlV G (.slice pa n pc) 1 (q.map decI).length (rows strF (q.map decI)):=by rw [← hml];exact hs
  exact c_Join (c:=47) hs2 oM
 have hrow : rows strF out ++ [S (pathText q)] = rows strF (out ++ [pathText q]):=(rows_snoc strF out (pathText q)).symm
 rw [← hn]
 clear hle
 cases ok
 ·
  refine m_enter [(0,_),(1,_),(2,_)] Tryz.func42 kR Tryz.ntmps42 rfl rfl tU fun B hB hW=>?_
  repeat' (first | (refine jR ?_) | (refine jo ?_;first | refine jAl rfl ?_ | (refine jAf rfl ?_) | refine jD rfl rfl rfl ?_) | (refine k_gf rfl rfl rfl ?_))
  all_goals (refine k_any (s_any (id:=1) [] (fun _ h=>absurd h (by simp)) mixed ?_);refine jW 5 [1] (bts 6 2) ?_;refine x_all [0,2] kR dC ⟨?_,?_,trivial⟩;(focus (refine x_opg rfl rfl ?_;(refine jAl rfl ?_);refine jK (bts 6 3) ?_;refine jA 2 rfl ?_;(refine c_rt rfl rfl rfl cx_join rfl ?_);refine jK (bts 6 7) ?_;refine jA 3 rfl ?_;(refine jF fun _=>?_);refine jK (bts 6 15) ?_;refine jA 4 rfl ?_;((refine c_apX rfl rfl rfl rfl rfl rfl rfl rfl rfl ?_ fun _ _=>?_;(focus ((omega);done))));refine jK (bts 6 31) ?_;refine jA 5 rfl ?_;(refine jD rfl rfl rfl ?_);refine jK (bts 6 63) ?_;refine jQ ?_));rotate_left 1;(focus (refine x_opg rfl rfl ?_;(refine c_rt rfl rfl rfl cx_join rfl ?_);refine jK (bts 6 6) ?_;refine x_all [0,3] kR dC ⟨?_,?_,trivial⟩;(focus (refine x_opg rfl rfl ?_;(refine jAl rfl ?_);refine jK (bts 6 7) ?_;refine jA 3 rfl ?_;(refine jF fun _=>?_);refine jK (bts 6 15) ?_;refine jA 4 rfl ?_;((refine c_apX rfl rfl rfl rfl rfl rfl rfl rfl rfl ?_ fun _ _=>?_;(focus ((omega);done))));refine jK (bts 6 31) ?_;refine jA 5 rfl ?_;(refine jD rfl rfl rfl ?_);refine jK (bts 6 63) ?_;refine jQ ?_));rotate_left 1;(focus (refine x_opg rfl rfl ?_;(refine jF fun _=>?_);refine jK (bts 6 14) ?_;refine jA 0 rfl ?_;(refine jAl rfl ?_);refine jK (bts 6 15) ?_;refine jA 4 rfl ?_;((refine c_apX rfl rfl rfl rfl rfl rfl rfl rfl rfl ?_ fun _ _=>?_;(focus ((omega);done))));refine jK (bts 6 31) ?_;refine jA 5 rfl ?_;(refine jD rfl rfl rfl ?_);refine jK (bts 6 63) ?_;refine jQ ?_));rotate_left 1));rotate_left 2)
  all_goals repeat' (fail)
  all_goals rw [hrow]
  all_goals exact k_re (vs:=[]) rfl trivial rfl sB ⟨Gh.le.refl _,_,_,rfl⟩
 ·rw [show (true && decide (n ≤ 8)) = decide ((n : Int) ≤ 8) by rw [Bool.true_and];exact decide_eq_decide.2 oM]
  refine m_enter [(0,_),(1,_),(2,_)] Tryz.func42 kR Tryz.ntmps42 rfl rfl tU fun B hB hW=>?_
  repeat' (first | (refine jR ?_) | (refine jo ?_;first | refine jAl rfl ?_ | refine jV (g_lenL rfl) ?_ | (refine jAt rfl ?_) | refine jD rfl rfl rfl ?_) | (refine k_gt rfl rfl rfl ?_))
  all_goals (refine k_any (s_any (id:=1) [] (fun _ h=>absurd h (by simp)) mixed ?_);refine jW 5 [1] (bts 6 2) ?_;refine x_all [0,2] kR dC ⟨?_,?_,trivial⟩;(focus (refine x_opg rfl rfl ?_;(refine jAl rfl ?_);refine jK (bts 6 3) ?_;refine jA 2 rfl ?_;(refine c_rt rfl rfl rfl cx_join rfl ?_);refine jK (bts 6 7) ?_;refine jA 3 rfl ?_;(refine jF fun _=>?_);refine jK (bts 6 15) ?_;refine jA 4 rfl ?_;((refine c_apX rfl rfl rfl rfl rfl rfl rfl rfl rfl ?_ fun _ _=>?_;(focus ((omega);done))));refine jK (bts 6 31) ?_;refine jA 5 rfl ?_;(refine jD rfl rfl rfl ?_);refine jK (bts 6 63) ?_;refine jQ ?_));rotate_left 1;(focus (refine x_opg rfl rfl ?_;(refine c_rt rfl rfl rfl cx_join rfl ?_);refine jK (bts 6 6) ?_;refine x_all [0,3] kR dC ⟨?_,?_,trivial⟩;(focus (refine x_opg rfl rfl ?_;(refine jAl rfl ?_);refine jK (bts 6 7) ?_;refine jA 3 rfl ?_;(refine jF fun _=>?_);refine jK (bts 6 15) ?_;refine jA 4 rfl ?_;((refine c_apX rfl rfl rfl rfl rfl rfl rfl rfl rfl ?_ fun _ _=>?_;(focus ((omega);done))));refine jK (bts 6 31) ?_;refine jA 5 rfl ?_;(refine jD rfl rfl rfl ?_);refine jK (bts 6 63) ?_;refine jQ ?_));rotate_left 1;(focus (refine x_opg rfl rfl ?_;(refine jF fun _=>?_);refine jK (bts 6 14) ?_;refine jA 0 rfl ?_;(refine jAl rfl ?_);refine jK (bts 6 15) ?_;refine jA 4 rfl ?_;((refine c_apX rfl rfl rfl rfl rfl rfl rfl rfl rfl ?_ fun _ _=>?_;(focus ((omega);done))));refine jK (bts 6 31) ?_;refine jA 5 rfl ?_;(refine jD rfl rfl rfl ?_);refine jK (bts 6 63) ?_;refine jQ ?_));rotate_left 1));rotate_left 2)
  all_goals repeat' (fail)
  all_goals rw [hrow]
  all_goals exact k_re (vs:=[]) rfl trivial rfl sB ⟨Gh.le.refl _,_,_,rfl⟩
end Go.E
namespace Go.E
set_option maxRecDepth 20000
set_option maxHeartbeats 2000000
open Go.Proofs
variable {G : Gh}
def LvI (v : V) : Prop:=∀ (G : Gh) (c : VC) (q : List Int) (n : Nat) (pa : Option Addr) (pc bo bu : Nat) (ok : Bool) (a : Option Addr) (m cap : Nat) (out : List (List UInt8)),V.rep G v c → n = q.length → SlV G (.slice pa n pc) 1 n (rows strF (q.map decI)) → (∀ n ∈ q,0 ≤ n ∧ n ≤ 999999) → m = out.length → m + v.tot ≤ 100000 ∧ n + v.tot ≤ 100000 →
 FnM Tryz.prog 41 [Ag (vcF c),.slice pa n pc,.func (.func 42) (List.toArray []) (List.toArray [Pt bo 0,Pt bu 0])] G [.acc (.slice a m cap) tTxI 1 m (rows strF out),okO bo ok,ouO bu (.slice a m cap)]
  (fun _ _ L'=>∃ a' cap',L' = [.acc (.slice a' (m + v.size) cap') tTxI 1 (m + v.size) (rows strF (out ++ lvT q v)),okO bo (ok && okL q v),ouO bu (.slice a' (m + v.size) cap')])
abbrev tValL : TypeId:=48
theorem rows_q {q : List Int} {s : Int} : rows strF ((q ++ [s]).map decI) = rows strF (q.map decI) ++ [S (decI s)]:=by rw [List.map_append];exact rows_snoc strF (q.map decI) (decI s)
theorem slv_capL {G : Gh} {pa : Option Addr} {n pc sz : Nat} {xs : List Value} (h : SlV G (.slice pa n pc) sz n xs) : n ≤ pc:=by
 obtain ⟨_,⟨e,_⟩ | ⟨b,o,c,e,hc,_⟩⟩:=h
 ·simp only [Value.slice.injEq] at e;omega
 ·simp only [Value.slice.injEq] at e;omega
theorem c_lvLeaf {w : Nat} {x : List UInt8} {t : Int} (hl : w = 110 ∨ w = 116 ∨ w = 102 ∨ w = 69 ∨ w = 63) : LvI (.nd w x t []):=by
 intro G c q n pa pc bo bu ok a m cap out hrep hn hs hq hm hto
 obtain ⟨ka,kc,cs,rfl,hw,ht,h61,hcl,hsl,hks⟩:=rep_inv hrep
 rw [nd_tot] at hto
 have hee : ([] : List V).length = 0:=rfl
 have hsee:=c_see (G:=G) (bo:=bo) (bu:=bu) (cap:=cap) (ok:=ok) (a:=a) hn hs hq ⟨hm,oM,oM⟩
 simp only [vcF,VC.sl]
 rcases hl with rfl | rfl | rfl | rfl | rfl
 all_goals
  rw [size_leaf rfl,lvT_leaf rfl,okL_leaf rfl]
  refine m_enter [(0,_),(1,_),(2,_)] Tryz.func41 kR Tryz.ntmps41 rfl rfl tU fun B hB hW=>?_
  repeat' (first | (refine jR ?_) | (refine jo ?_;first | refine jO fun _=>?_ | refine jAl rfl ?_ | (refine jAt rfl ?_) | (refine jAf rfl ?_) | refine jV (g_lenL rfl) ?_) | (refine k_gt rfl rfl rfl ?_) | (refine k_gf rfl rfl rfl ?_) | (refine k_tt rfl rfl ?_))
  refine jo ?_
  refine c_m3s rfl rfl rfl hsee rfl ?_
  rintro _ G1 _ hle ⟨av,cv,rfl⟩
  dsimp only [zA,fA]
  repeat' (refine jR ?_)
  exact k_rr (vs:=[]) rfl trivial rfl sB ⟨hle,_,_,rfl⟩
theorem lv_next {q : List Int} {w : Nat} {t st : Int} {ks : List V} {v : V} {i m : Nat} {out : List (List UInt8)} {ok : Bool} (hi : i < ks.length) (hv : lvT (q ++ [st]) (nth ks i) = lvT (q ++ [st]) v ∧ okL (q ++ [st]) (nth ks i) = okL (q ++ [st]) v ∧ (nth ks i).size = v.size) (hst : stepNo w t (ks.take i).length (nth ks i) = st) :
  m + V.sizes (ks.take (i + 1)) = m + V.sizes (ks.take i) + v.size ∧ out ++ lvS q (ks.take (i + 1)) w t = out ++ lvS q (ks.take i) w t ++ lvT (q ++ [st]) v ∧ (ok && okLs q (ks.take (i + 1)) w t) = (ok && okLs q (ks.take i) w t && okL (q ++ [st]) v):=by
 refine ⟨by rw [take_nth hi,sizes_snocL,hv.2.2,Nat.add_assoc],by rw [take_nth hi,lvS_snoc,hst,hv.1,List.append_assoc],by rw [take_nth hi,okLs_snoc,hst,hv.2.1,Bool.and_assoc]⟩
theorem c_lvKids {w : Nat} {x : List UInt8} {t : Int} {ks : List V} (hw : w = 91 ∨ (w = 63 ∧ ks.length ≠ 0) ∨ w = 85) (hlk : ks.length ≤ 1000) (ih : ∀ v ∈ ks,LvI v) : LvI (.nd w x t ks):=by
 intro G c q n pa pc bo bu ok a m cap out hrep hn hs hq hm hto
 obtain ⟨ka,kc,cs,rfl,hw2,ht,h61,hcl,hsl,hks⟩:=rep_inv hrep
 rw [nd_tot] at hto
 have hpc:=slv_capL hs
 have hst:=sizes_totL ks
 have hkl:=tots_len ks
 have hsz : V.size (.nd w x t ks) = V.sizes ks:=by
  rw [V.size,if_neg]
  rcases hw with rfl | ⟨rfl,h⟩ | rfl
  ·simp [leafW]
  ·have : ks.isEmpty = false:=by cases ks with | nil=>simp at h | cons=>rfl
   simp [leafW,this]
  ·simp [leafW]
 have hlf : leafW w ks.isEmpty = false:=by
  rcases hw with rfl | ⟨rfl,h⟩ | rfl
  ·exact leafW_91
  ·have : ks.isEmpty = false:=by cases ks with | nil=>simp at h | cons=>rfl
   simp [leafW,this]
  ·exact leafW_85
 have h61' : w ≠ 61:=oM
 rw [hsz,lvT_nd hlf h61',okL_nd hlf h61']
 simp only [vcF,VC.sl]
 rw [show rows strF out = rows strF (out ++ lvS q (ks.take 0) w t) by rw [List.take_zero,lvS_nil,List.append_nil],show okO bo ok = okO bo (ok && okLs q (ks.take 0) w t) by rw [List.take_zero,okLs_nil,Bool.and_true]]
 clear h61 hlf hsz h61'
 rcases hw with rfl | ⟨rfl,hne⟩ | rfl
 ·
  refine m_enter [(0,_),(1,_),(2,_)] Tryz.func41 kR Tryz.ntmps41 rfl rfl tU fun B hB hW=>?_
  repeat' (first | (refine jR ?_) | (refine jo ?_;first | refine jO fun _=>?_ | refine jAl rfl ?_ | (refine jAf rfl ?_) | refine jV (g_lenL rfl) ?_) | (refine k_gf rfl rfl rfl ?_) | (refine k_ff rfl rfl ?_))
  rename_i x3
  refine Nx.perm (List.perm_append_comm (l₁:=[_]) (l₂:=[_,_,_])) ?_
  dsimp only [zA,fA]
  refine k_loop (ι:=Nat × Option Addr × Nat × Gh) (fun i=>i.1 ≤ ks.length ∧ Gh.le G i.2.2.2) (fun i=>[(1,.slice pa n pc),(2,.func (.func 42) (List.toArray []) (List.toArray [Pt bo 0,Pt bu 0])),(3,Pt x3 0),(42,.slice ka ks.length kc),(43,I ks.length),(44,I i.1)]) (fun i=>i.2.2.2) (fun i=>[.acc (.slice i.2.1 (m + V.sizes (ks.take i.1)) i.2.2.1) tTxI 1 (m + V.sizes (ks.take i.1)) (rows strF (out ++ lvS q (ks.take i.1) 91 t)),okO bo (ok && okLs q (ks.take i.1) 91 t),ouO bu (.slice i.2.1 (m + V.sizes (ks.take i.1)) i.2.2.1),.blk x3 (.cells (List.toArray [U8 ((91 : Nat) : Int),S x,I t,.slice ka ks.length kc]) tValL (0,0))]) (fun i=>ks.length - i.1) (0,a,cap,G) ?_ tU rfl sRr (fun i Hi=>?_)
  ·exact ⟨Nat.zero_le _,Gh.le.refl _⟩
  obtain ⟨i,a,cap,Gq⟩:=i
  dsimp only at Hi ⊢
  obtain ⟨hi0,hgq⟩:=Hi
  by_cases hi : i < ks.length
  ·have hsq:=hs.mono hgq
   have hslq:=hsl.mono hgq
   have hstp : stepNo 91 t (ks.take i).length (nth ks i) = (i : Int):=by rw [List.length_take,Nat.min_eq_left oM];rfl
   obtain ⟨hN1,hN2,hN3⟩:=lv_next (q:=q) (m:=m) (out:=out) (ok:=ok) (st:=(i : Int)) hi ⟨rfl,rfl,rfl⟩ hstp
   have htn:=tot_nth hi
   have htk1:=tots_take ks (i + 1)
   rw [take_nth hi,tots_app] at htk1
   simp only [V.tots] at htk1
   have hs1:=sizes_totL (ks.take i)
   have hlen : m + V.sizes (ks.take i) = (out ++ lvS q (ks.take i) 91 t).length:=by rw [List.length_append,lvS_len,hm]
   have cx_lvi : ∀ G',Gh.le Gq G' → ∀ pa' pc',SlV G' (.slice pa' (n + 1) pc') 1 (n + 1) (rows strF (q.map decI) ++ [S (decI (i : Int))]) → FnM Tryz.prog 41 [Ag (vcF (nth cs i)),.slice pa' (n + 1) pc',.func (.func 42) (List.toArray []) (List.toArray [Pt bo 0,Pt bu 0])] G' [.acc (.slice a (m + V.sizes (ks.take i)) cap) tTxI 1 (m + V.sizes (ks.take i)) (rows strF (out ++ lvS q (ks.take i) 91 t)),okO bo (ok && okLs q (ks.take i) 91 t),ouO bu (.slice a (m + V.sizes (ks.take i)) cap)]
     (fun _ _ L'=>∃ a' cap',L' = [.acc (.slice a' (m + V.sizes (ks.take i) + (nth ks i).size) cap') tTxI 1 (m + V.sizes (ks.take i) + (nth ks i).size) (rows strF (out ++ lvS q (ks.take i) 91 t ++ lvT (q ++ [(i : Int)]) (nth ks i))),okO bo (ok && okLs q (ks.take i) 91 t && okL (q ++ [(i : Int)]) (nth ks i)),ouO bu (.slice a' (m + V.sizes (ks.take i) + (nth ks i).size) cap')]):=fun G' hG' pa' pc' hs'=>ih _ (nth_mem hi) G' (nth cs i) (q ++ [(i : Int)]) (n + 1) pa' pc' bo bu _ a _ cap _ (reps_nth (reps_mono (hgq.trans hG') hks) i hi) (by simp [hn]) (by rw [rows_q];exact hs') (snoc_in hq ⟨oM,oM⟩) hlen ⟨oM,oM⟩
   obtain ⟨kb,ko,kcc,e,hsx⟩:=hslq.expl oM
   simp only [Value.slice.injEq] at e
   obtain ⟨rfl,-,rfl⟩:=e
   have hxi : nth cs i = nth cs i:=rfl
   repeat' (first | (refine jR ?_) | (refine jo ?_;first | refine jAl rfl ?_ | (refine jV (g_ldRx rfl rfl aS ?_ aS) ?_;(focus ((omega);done))) | (refine jV (g_iaddrN rfl rfl oM) ?_) | refine jL fun _=>?_ | refine jC rfl rfl rfl ?_) | (refine k_tt rfl (dTt oM) ?_) | (refine k_ff rfl rfl ?_))
   rename_i x7
   simp only [vcF,VC.sl] at cx_lvi
   (refine k_any (s_any (id:=12) [.blk x7 (.cells (List.toArray [U8 ((nth cs i).what : Int),S (nth cs i).text,I (nth cs i).tag,.slice (nth cs i).a (nth cs i).n (nth cs i).c]) tValL (0,0))] (by intro y hy;simp only [List.mem_cons,List.not_mem_nil,or_false] at hy ⊢;simp [hy]) mixed ?_);refine jW 8 [1,2,4,7,11] (bts 13 2198) ?_;(refine jG (bts 13 2199) 0 rfl (g_ldA rfl rfl rfl rfl) ?_);(refine jG (bts 13 2207) 3 rfl (g_lenL rfl) ?_);(refine jG (bts 13 2239) 5 rfl (g_lenL rfl) ?_);((refine jG (bts 13 2303) 6 rfl (g_sl3 rfl rfl rfl ?_) ?_;(focus ((omega);done))));refine jA 8 rfl ?_;(refine c_rt rfl rfl rfl (c_decimalN oM) rfl ?_);refine jK (bts 13 2559) ?_;refine jA 9 rfl ?_;(refine jF fun _=>?_);refine jK (bts 13 3071) ?_;refine jA 10 rfl ?_;((refine c_apC rfl rfl aS rfl rfl rfl rfl rfl rfl rfl rfl ?_ fun _ _ G2 hG2 hpth=>?_;(focus ((omega);done))));refine jK (bts 13 4095) ?_;refine jA 12 rfl ?_;((refine c_m3s rfl rfl rfl ((cx_lvi _) (by (repeat (assumption));done) _ _ (by (repeat (assumption));done)) rfl ?_;rintro _ G1 _ hle ⟨av,cv,rfl⟩;dsimp only [zA,fA];(have hle:=Gh.le.trans hG2 hle)));refine jK (bts 13 8191) ?_;refine jQ ?_)
   all_goals repeat' (refine jM ?_)
   all_goals exact k_rd (i + 1,av,cv,_) ⟨by dsimp only;omega,hgq.trans hle⟩ (by dsimp only;omega) tU rfl (by dsimp only;rw [hN1,hN2,hN3];repeat (first | exact List.Sublist.refl _ | apply List.Sublist.cons_cons | apply List.Sublist.cons))
  ·obtain rfl : i = ks.length:=oM
   rw [List.take_length]
   repeat' (first | (refine jR ?_) | (refine k_ff rfl (dFf oM) ?_))
   exact k_re (vs:=[]) rfl trivial rfl sB ⟨hgq,_,_,rfl⟩
 ·
  refine m_enter [(0,_),(1,_),(2,_)] Tryz.func41 kR Tryz.ntmps41 rfl rfl tU fun B hB hW=>?_
  repeat' (first | (refine jR ?_) | (refine jo ?_;first | refine jO fun _=>?_ | refine jAl rfl ?_ | (refine jAt rfl ?_) | (refine jAf rfl ?_) | refine jV (g_lenL rfl) ?_) | (refine k_gt rfl rfl rfl ?_) | (refine k_gf rfl rfl rfl ?_) | (refine k_ff rfl (dFf oM) ?_))
  rename_i x3
  refine Nx.perm (List.perm_append_comm (l₁:=[_]) (l₂:=[_,_,_])) ?_
  dsimp only [zA,fA]
  refine k_loop (ι:=Nat × Option Addr × Nat × Gh) (fun i=>i.1 ≤ ks.length ∧ Gh.le G i.2.2.2) (fun i=>[(1,.slice pa n pc),(2,.func (.func 42) (List.toArray []) (List.toArray [Pt bo 0,Pt bu 0])),(3,Pt x3 0),(42,.slice ka ks.length kc),(43,I ks.length),(44,I i.1)]) (fun i=>i.2.2.2) (fun i=>[.acc (.slice i.2.1 (m + V.sizes (ks.take i.1)) i.2.2.1) tTxI 1 (m + V.sizes (ks.take i.1)) (rows strF (out ++ lvS q (ks.take i.1) 63 t)),okO bo (ok && okLs q (ks.take i.1) 63 t),ouO bu (.slice i.2.1 (m + V.sizes (ks.take i.1)) i.2.2.1),.blk x3 (.cells (List.toArray [U8 ((63 : Nat) : Int),S x,I t,.slice ka ks.length kc]) tValL (0,0))]) (fun i=>ks.length - i.1) (0,a,cap,G) ?_ tU rfl sRr (fun i Hi=>?_)
  ·exact ⟨Nat.zero_le _,Gh.le.refl _⟩
  obtain ⟨i,a,cap,Gq⟩:=i
  dsimp only at Hi ⊢
  obtain ⟨hi0,hgq⟩:=Hi
  by_cases hi : i < ks.length
  ·have hsq:=hs.mono hgq
   have hslq:=hsl.mono hgq
   have hstp : stepNo 63 t (ks.take i).length (nth ks i) = (i : Int):=by rw [List.length_take,Nat.min_eq_left oM];rfl
   obtain ⟨hN1,hN2,hN3⟩:=lv_next (q:=q) (m:=m) (out:=out) (ok:=ok) (st:=(i : Int)) hi ⟨rfl,rfl,rfl⟩ hstp
   have htn:=tot_nth hi
   have htk1:=tots_take ks (i + 1)
   rw [take_nth hi,tots_app] at htk1
   simp only [V.tots] at htk1
   have hs1:=sizes_totL (ks.take i)
   have hlen : m + V.sizes (ks.take i) = (out ++ lvS q (ks.take i) 63 t).length:=by rw [List.length_append,lvS_len,hm]
   have cx_lvi : ∀ G',Gh.le Gq G' → ∀ pa' pc',SlV G' (.slice pa' (n + 1) pc') 1 (n + 1) (rows strF (q.map decI) ++ [S (decI (i : Int))]) → FnM Tryz.prog 41 [Ag (vcF (nth cs i)),.slice pa' (n + 1) pc',.func (.func 42) (List.toArray []) (List.toArray [Pt bo 0,Pt bu 0])] G' [.acc (.slice a (m + V.sizes (ks.take i)) cap) tTxI 1 (m + V.sizes (ks.take i)) (rows strF (out ++ lvS q (ks.take i) 63 t)),okO bo (ok && okLs q (ks.take i) 63 t),ouO bu (.slice a (m + V.sizes (ks.take i)) cap)]
     (fun _ _ L'=>∃ a' cap',L' = [.acc (.slice a' (m + V.sizes (ks.take i) + (nth ks i).size) cap') tTxI 1 (m + V.sizes (ks.take i) + (nth ks i).size) (rows strF (out ++ lvS q (ks.take i) 63 t ++ lvT (q ++ [(i : Int)]) (nth ks i))),okO bo (ok && okLs q (ks.take i) 63 t && okL (q ++ [(i : Int)]) (nth ks i)),ouO bu (.slice a' (m + V.sizes (ks.take i) + (nth ks i).size) cap')]):=fun G' hG' pa' pc' hs'=>ih _ (nth_mem hi) G' (nth cs i) (q ++ [(i : Int)]) (n + 1) pa' pc' bo bu _ a _ cap _ (reps_nth (reps_mono (hgq.trans hG') hks) i hi) (by simp [hn]) (by rw [rows_q];exact hs') (snoc_in hq ⟨oM,oM⟩) hlen ⟨oM,oM⟩
   obtain ⟨kb,ko,kcc,e,hsx⟩:=hslq.expl oM
   simp only [Value.slice.injEq] at e
   obtain ⟨rfl,-,rfl⟩:=e
   have hxi : nth cs i = nth cs i:=rfl
   repeat' (first | (refine jR ?_) | (refine jo ?_;first | refine jAl rfl ?_ | (refine jV (g_ldRx rfl rfl aS ?_ aS) ?_;(focus ((omega);done))) | (refine jV (g_iaddrN rfl rfl oM) ?_) | refine jL fun _=>?_ | refine jC rfl rfl rfl ?_) | (refine k_tt rfl (dTt oM) ?_) | (refine k_ff rfl rfl ?_))
   rename_i x7
   simp only [vcF,VC.sl] at cx_lvi
   (refine k_any (s_any (id:=12) [.blk x7 (.cells (List.toArray [U8 ((nth cs i).what : Int),S (nth cs i).text,I (nth cs i).tag,.slice (nth cs i).a (nth cs i).n (nth cs i).c]) tValL (0,0))] (by intro y hy;simp only [List.mem_cons,List.not_mem_nil,or_false] at hy ⊢;simp [hy]) mixed ?_);refine jW 8 [1,2,4,7,11] (bts 13 2198) ?_;(refine jG (bts 13 2199) 0 rfl (g_ldA rfl rfl rfl rfl) ?_);(refine jG (bts 13 2207) 3 rfl (g_lenL rfl) ?_);(refine jG (bts 13 2239) 5 rfl (g_lenL rfl) ?_);((refine jG (bts 13 2303) 6 rfl (g_sl3 rfl rfl rfl ?_) ?_;(focus ((omega);done))));refine jA 8 rfl ?_;(refine c_rt rfl rfl rfl (c_decimalN oM) rfl ?_);refine jK (bts 13 2559) ?_;refine jA 9 rfl ?_;(refine jF fun _=>?_);refine jK (bts 13 3071) ?_;refine jA 10 rfl ?_;((refine c_apC rfl rfl aS rfl rfl rfl rfl rfl rfl rfl rfl ?_ fun _ _ G2 hG2 hpth=>?_;(focus ((omega);done))));refine jK (bts 13 4095) ?_;refine jA 12 rfl ?_;((refine c_m3s rfl rfl rfl ((cx_lvi _) (by (repeat (assumption));done) _ _ (by (repeat (assumption));done)) rfl ?_;rintro _ G1 _ hle ⟨av,cv,rfl⟩;dsimp only [zA,fA];(have hle:=Gh.le.trans hG2 hle)));refine jK (bts 13 8191) ?_;refine jQ ?_)
   all_goals repeat' (refine jM ?_)
   all_goals exact k_rd (i + 1,av,cv,_) ⟨by dsimp only;omega,hgq.trans hle⟩ (by dsimp only;omega) tU rfl (by dsimp only;rw [hN1,hN2,hN3];repeat (first | exact List.Sublist.refl _ | apply List.Sublist.cons_cons | apply List.Sublist.cons))
  ·obtain rfl : i = ks.length:=oM
   rw [List.take_length]
   repeat' (first | (refine jR ?_) | (refine k_ff rfl (dFf oM) ?_))
   exact k_re (vs:=[]) rfl trivial rfl sB ⟨hgq,_,_,rfl⟩
 ·
  refine m_enter [(0,_),(1,_),(2,_)] Tryz.func41 kR Tryz.ntmps41 rfl rfl tU fun B hB hW=>?_
  repeat' (first | (refine jR ?_) | (refine jo ?_;first | refine jO fun _=>?_ | refine jAl rfl ?_ | (refine jAf rfl ?_) | refine jV (g_lenL rfl) ?_) | (refine k_gf rfl rfl rfl ?_) | (refine k_ff rfl rfl ?_))
  rename_i x3
  refine Nx.perm (List.perm_append_comm (l₁:=[_]) (l₂:=[_,_,_])) ?_
  dsimp only [zA,fA]
  refine k_loop (ι:=Nat × Option Addr × Nat × Gh) (fun i=>i.1 ≤ ks.length ∧ Gh.le G i.2.2.2) (fun i=>[(1,.slice pa n pc),(2,.func (.func 42) (List.toArray []) (List.toArray [Pt bo 0,Pt bu 0])),(3,Pt x3 0),(42,.slice ka ks.length kc),(43,I ks.length),(44,I i.1)]) (fun i=>i.2.2.2) (fun i=>[.acc (.slice i.2.1 (m + V.sizes (ks.take i.1)) i.2.2.1) tTxI 1 (m + V.sizes (ks.take i.1)) (rows strF (out ++ lvS q (ks.take i.1) 85 t)),okO bo (ok && okLs q (ks.take i.1) 85 t),ouO bu (.slice i.2.1 (m + V.sizes (ks.take i.1)) i.2.2.1),.blk x3 (.cells (List.toArray [U8 ((85 : Nat) : Int),S x,I t,.slice ka ks.length kc]) tValL (0,0))]) (fun i=>ks.length - i.1) (0,a,cap,G) ?_ tU rfl sRr (fun i Hi=>?_)
  ·exact ⟨Nat.zero_le _,Gh.le.refl _⟩
  obtain ⟨i,a,cap,Gq⟩:=i
  dsimp only at Hi ⊢
  obtain ⟨hi0,hgq⟩:=Hi
  by_cases hi : i < ks.length
  ·have hsq:=hs.mono hgq
   have hslq:=hsl.mono hgq
   have hstp : stepNo 85 t (ks.take i).length (nth ks i) = t:=by rfl
   obtain ⟨hN1,hN2,hN3⟩:=lv_next (q:=q) (m:=m) (out:=out) (ok:=ok) (st:=t) hi ⟨rfl,rfl,rfl⟩ hstp
   have htn:=tot_nth hi
   have htk1:=tots_take ks (i + 1)
   rw [take_nth hi,tots_app] at htk1
   simp only [V.tots] at htk1
   have hs1:=sizes_totL (ks.take i)
   have hlen : m + V.sizes (ks.take i) = (out ++ lvS q (ks.take i) 85 t).length:=by rw [List.length_append,lvS_len,hm]
   have cx_lvi : ∀ G',Gh.le Gq G' → ∀ pa' pc',SlV G' (.slice pa' (n + 1) pc') 1 (n + 1) (rows strF (q.map decI) ++ [S (decI (t))]) → FnM Tryz.prog 41 [Ag (vcF (nth cs i)),.slice pa' (n + 1) pc',.func (.func 42) (List.toArray []) (List.toArray [Pt bo 0,Pt bu 0])] G' [.acc (.slice a (m + V.sizes (ks.take i)) cap) tTxI 1 (m + V.sizes (ks.take i)) (rows strF (out ++ lvS q (ks.take i) 85 t)),okO bo (ok && okLs q (ks.take i) 85 t),ouO bu (.slice a (m + V.sizes (ks.take i)) cap)]
     (fun _ _ L'=>∃ a' cap',L' = [.acc (.slice a' (m + V.sizes (ks.take i) + (nth ks i).size) cap') tTxI 1 (m + V.sizes (ks.take i) + (nth ks i).size) (rows strF (out ++ lvS q (ks.take i) 85 t ++ lvT (q ++ [t]) (nth ks i))),okO bo (ok && okLs q (ks.take i) 85 t && okL (q ++ [t]) (nth ks i)),ouO bu (.slice a' (m + V.sizes (ks.take i) + (nth ks i).size) cap')]):=fun G' hG' pa' pc' hs'=>ih _ (nth_mem hi) G' (nth cs i) (q ++ [t]) (n + 1) pa' pc' bo bu _ a _ cap _ (reps_nth (reps_mono (hgq.trans hG') hks) i hi) (by simp [hn]) (by rw [rows_q];exact hs') (snoc_in hq ⟨oM,oM⟩) hlen ⟨oM,oM⟩
   obtain ⟨kb,ko,kcc,e,hsx⟩:=hslq.expl oM
   simp only [Value.slice.injEq] at e
   obtain ⟨rfl,-,rfl⟩:=e
   have hxi : nth cs i = nth cs i:=rfl
   repeat' (first | (refine jR ?_) | (refine jo ?_;first | refine jAl rfl ?_ | (refine jV (g_ldRx rfl rfl aS ?_ aS) ?_;(focus ((omega);done))) | (refine jV (g_iaddrN rfl rfl oM) ?_) | refine jL fun _=>?_ | refine jC rfl rfl rfl ?_) | (refine k_tt rfl (by first | rfl | (refine decide_eq_true ?_;(omega))) ?_))
   rename_i x7
   simp only [vcF,VC.sl] at cx_lvi
   (refine k_any (s_any (id:=12) [.blk x7 (.cells (List.toArray [U8 ((nth cs i).what : Int),S (nth cs i).text,I (nth cs i).tag,.slice (nth cs i).a (nth cs i).n (nth cs i).c]) tValL (0,0))] (by intro y hy;simp only [List.mem_cons,List.not_mem_nil,or_false] at hy ⊢;simp [hy]) mixed ?_);refine jW 8 [1,2,4,7,11] (bts 13 2198) ?_;(refine jG (bts 13 2199) 0 rfl (g_ldA rfl rfl rfl rfl) ?_);(refine jG (bts 13 2207) 3 rfl (g_lenL rfl) ?_);(refine jG (bts 13 2239) 5 rfl (g_lenL rfl) ?_);((refine jG (bts 13 2303) 6 rfl (g_sl3 rfl rfl rfl ?_) ?_;(focus ((omega);done))));refine jA 8 rfl ?_;(refine c_rt rfl rfl rfl (c_decimalN oM) rfl ?_);refine jK (bts 13 2559) ?_;refine jA 9 rfl ?_;(refine jF fun _=>?_);refine jK (bts 13 3071) ?_;refine jA 10 rfl ?_;((refine c_apC rfl rfl aS rfl rfl rfl rfl rfl rfl rfl rfl ?_ fun _ _ G2 hG2 hpth=>?_;(focus ((omega);done))));refine jK (bts 13 4095) ?_;refine jA 12 rfl ?_;((refine c_m3s rfl rfl rfl ((cx_lvi _) (by (repeat (assumption));done) _ _ (by (repeat (assumption));done)) rfl ?_;rintro _ G1 _ hle ⟨av,cv,rfl⟩;dsimp only [zA,fA];(have hle:=Gh.le.trans hG2 hle)));refine jK (bts 13 8191) ?_;refine jQ ?_)
   all_goals repeat' (refine jM ?_)
   all_goals exact k_rd (i + 1,av,cv,_) ⟨by dsimp only;omega,hgq.trans hle⟩ (by dsimp only;omega) tU rfl (by dsimp only;rw [hN1,hN2,hN3];repeat (first | exact List.Sublist.refl _ | apply List.Sublist.cons_cons | apply List.Sublist.cons))
  ·obtain rfl : i = ks.length:=oM
   rw [List.take_length]
   repeat' (first | (refine jR ?_) | (refine k_ff rfl (dFf oM) ?_))
   exact k_re (vs:=[]) rfl trivial rfl sB ⟨hgq,_,_,rfl⟩
theorem c_lvRec {fs : List (Fld × V)} (htg : ∀ p ∈ fs,0 ≤ p.1.tag ∧ p.1.tag ≤ 999999) (ih : ∀ p ∈ fs,LvI p.2) : LvI (.nd 82 [] 0 (fs.map fldV)):=by
 intro G c q n pa pc bo bu ok a m cap out hrep hn hs hq hm hto
 have hml : (fs.map fldV).length = fs.length:=by simp
 have hnt : ∀ i,i < fs.length → nth (fs.map fldV) i = fldV (nth fs i):=fun i hi=>by rw [nth_eq (by simpa using hi),nth_eq hi];simp
 generalize fs.map fldV = ks at *
 obtain ⟨ka,kc,cs,rfl,hw2,ht,h61,hcl,hsl,hks⟩:=rep_inv hrep
 rw [nd_tot] at hto
 have hpc:=slv_capL hs
 have hst:=sizes_totL ks
 have hkl:=tots_len ks
 have hsz : V.size (.nd 82 [] 0 ks) = V.sizes ks:=by rw [V.size,if_neg (by simp [leafW])]
 rw [hsz,lvT_nd leafW_82 dC,okL_nd leafW_82 dC]
 simp only [vcF,VC.sl]
 rw [show rows strF out = rows strF (out ++ lvS q (ks.take 0) 82 0) by rw [List.take_zero,lvS_nil,List.append_nil],show okO bo ok = okO bo (ok && okLs q (ks.take 0) 82 0) by rw [List.take_zero,okLs_nil,Bool.and_true]]
 clear h61 hsz
 refine m_enter [(0,_),(1,_),(2,_)] Tryz.func41 kR Tryz.ntmps41 rfl rfl tU fun B hB hW=>?_
 repeat' (first | (refine jR ?_) | (refine jo ?_;first | refine jO fun _=>?_ | refine jAl rfl ?_ | (refine jAf rfl ?_) | refine jV (g_lenL rfl) ?_) | (refine k_gf rfl rfl rfl ?_) | (refine k_ff rfl rfl ?_))
 rename_i x3
 refine Nx.perm (List.perm_append_comm (l₁:=[_]) (l₂:=[_,_,_])) ?_
 dsimp only [zA,fA]
 refine k_loop (ι:=Nat × Option Addr × Nat × Gh) (fun i=>i.1 ≤ ks.length ∧ Gh.le G i.2.2.2) (fun i=>[(1,.slice pa n pc),(2,.func (.func 42) (List.toArray []) (List.toArray [Pt bo 0,Pt bu 0])),(3,Pt x3 0),(42,.slice ka ks.length kc),(43,I ks.length),(44,I i.1)]) (fun i=>i.2.2.2) (fun i=>[.acc (.slice i.2.1 (m + V.sizes (ks.take i.1)) i.2.2.1) tTxI 1 (m + V.sizes (ks.take i.1)) (rows strF (out ++ lvS q (ks.take i.1) 82 0)),okO bo (ok && okLs q (ks.take i.1) 82 0),ouO bu (.slice i.2.1 (m + V.sizes (ks.take i.1)) i.2.2.1),.blk x3 (.cells (List.toArray [U8 ((82 : Nat) : Int),S [],I 0,.slice ka ks.length kc]) tValL (0,0))]) (fun i=>ks.length - i.1) (0,a,cap,G) ?_ tU rfl sRr (fun i Hi=>?_)
 ·exact ⟨Nat.zero_le _,Gh.le.refl _⟩
 obtain ⟨i,a,cap,Gq⟩:=i
 dsimp only at Hi ⊢
 obtain ⟨hi0,hgq⟩:=Hi
 by_cases hi : i < ks.length
 ·have hsq:=hs.mono hgq
  have hslq:=hsl.mono hgq
  have hki:=hnt i oM
  have hstp : stepNo 82 0 (ks.take i).length (nth ks i) = (nth fs i).1.tag:=by rw [hki];rfl
  have hsi : (nth ks i).size = (nth fs i).2.size:=by rw [hki,V.size,if_neg (by simp [leafW]),V.sizes,V.sizes];rfl
  obtain ⟨hN1,hN2,hN3⟩:=lv_next (q:=q) (m:=m) (out:=out) (ok:=ok) (st:=(nth fs i).1.tag) (v:=(nth fs i).2) hi ⟨by rw [hki];exact lvT_fld,by rw [hki];exact okL_fld,hsi⟩ hstp
  have htn : (nth fs i).2.tot + 20 ≤ V.tots ks:=by
   have:=tot_nth hi
   rw [hki] at this
   simp only [nd_tot,V.tots,List.length_nil] at this
   omega
  have htk1:=tots_take ks (i + 1)
  rw [take_nth hi,tots_app,hki] at htk1
  simp only [V.tots,nd_tot,List.length_nil] at htk1
  have hs1:=sizes_totL (ks.take i)
  have hlen : m + V.sizes (ks.take i) = (out ++ lvS q (ks.take i) 82 0).length:=by rw [List.length_append,lvS_len,hm]
  have htag:=htg _ (nth_mem (show i < fs.length by omega))
  have hrk:=reps_nth (reps_mono hgq hks) i hi
  rw [hki] at hrk
  obtain ⟨kb2,ko2,kc2,dd,hxi,_,hsd,hrd,_⟩:=rep_uni hrk
  have hxd : nth [dd] 0 = dd:=rfl
  have cx_lvi : ∀ G',Gh.le Gq G' → ∀ pa' pc',SlV G' (.slice pa' (n + 1) pc') 1 (n + 1) (rows strF (q.map decI) ++ [S (decI (nth fs i).1.tag)]) → FnM Tryz.prog 41 [Ag (vcF dd),.slice pa' (n + 1) pc',.func (.func 42) (List.toArray []) (List.toArray [Pt bo 0,Pt bu 0])] G' [.acc (.slice a (m + V.sizes (ks.take i)) cap) tTxI 1 (m + V.sizes (ks.take i)) (rows strF (out ++ lvS q (ks.take i) 82 0)),okO bo (ok && okLs q (ks.take i) 82 0),ouO bu (.slice a (m + V.sizes (ks.take i)) cap)]
    (fun _ _ L'=>∃ a' cap',L' = [.acc (.slice a' (m + V.sizes (ks.take i) + (nth fs i).2.size) cap') tTxI 1 (m + V.sizes (ks.take i) + (nth fs i).2.size) (rows strF (out ++ lvS q (ks.take i) 82 0 ++ lvT (q ++ [(nth fs i).1.tag]) (nth fs i).2)),okO bo (ok && okLs q (ks.take i) 82 0 && okL (q ++ [(nth fs i).1.tag]) (nth fs i).2),ouO bu (.slice a' (m + V.sizes (ks.take i) + (nth fs i).2.size) cap')]):=fun G' hG' pa' pc' hs'=>ih _ (nth_mem oM) G' dd (q ++ [(nth fs i).1.tag]) (n + 1) pa' pc' bo bu _ a _ cap _ (rep_mono hG' hrd) (by simp [hn]) (by rw [rows_q];exact hs') (snoc_in hq htag) hlen ⟨oM,oM⟩
  obtain ⟨kb,ko,kcc,e,hsx⟩:=hslq.expl oM
  simp only [Value.slice.injEq] at e
  obtain ⟨rfl,-,rfl⟩:=e
  repeat' (first | (refine jR ?_) | (refine jo ?_;first | refine jAl rfl ?_ | (refine jV (g_ldRx rfl rfl aS ?_ aS) ?_;(focus ((omega);done))) | (refine jV (g_iaddrN rfl rfl oM) ?_) | refine jL fun _=>?_ | refine jC rfl rfl rfl ?_) | (refine k_tt rfl (by first | rfl | (refine decide_eq_true ?_;(omega))) ?_) | (refine k_ff rfl rfl ?_))
  rename_i x7
  simp only [vcF,VC.sl] at cx_lvi
  dsimp only [vcF,VC.sl]
  (refine k_any (s_any (id:=11) [] (fun _ h=>absurd h (by simp)) mixed ?_);refine jW 6 [0,2] (bts 8 5) ?_;refine x_all [1,3] kR dC ⟨?_,?_,trivial⟩;(focus (refine x_opg rfl rfl ?_;(refine jAl rfl ?_);refine jK (bts 8 7) ?_;refine jW 4 [6] (bts 8 71) ?_;refine jA 3 rfl ?_;(refine jAl rfl ?_);refine jK (bts 8 79) ?_;((refine jG (bts 8 95) 4 rfl (g_iaddr rfl rfl ?_) ?_;(focus ((omega);done))));((refine jG (bts 8 127) 5 rfl (g_ldRx rfl rfl aS ?_ aS) ?_;(focus ((simp only [List.length_append,List.length_cons,List.length_nil,List.length_take];omega);done))));refine jA 7 rfl ?_;(refine jC rfl rfl rfl ?_);refine jK (bts 8 255) ?_;refine jQ ?_));rotate_left 1;(focus (refine x_opg rfl rfl ?_;(refine jAl rfl ?_);refine jK (bts 8 13) ?_;((refine jG (bts 8 29) 4 rfl (g_iaddr rfl rfl ?_) ?_;(focus ((omega);done))));((refine jG (bts 8 61) 5 rfl (g_ldRx rfl rfl aS ?_ aS) ?_;(focus ((simp only [List.length_append,List.length_cons,List.length_nil,List.length_take];omega);done))));refine jA 1 rfl ?_;(refine jAl rfl ?_);refine jK (bts 8 63) ?_;refine jW 1 [6] (bts 8 127) ?_;refine jA 7 rfl ?_;(refine jC rfl rfl rfl ?_);refine jK (bts 8 255) ?_;refine jQ ?_));rotate_left 1)
  all_goals repeat' (refine jR ?_)
  all_goals dsimp only [vcF,VC.sl]
  all_goals (refine k_any (s_any (id:=12) [.blk x7 (.cells (List.toArray [U8 (dd.what : Int),S dd.text,I dd.tag,.slice dd.a dd.n dd.c]) tValL (0,0))] (by intro y hy;simp only [List.mem_cons,List.not_mem_nil,or_false] at hy ⊢;simp [hy]) mixed ?_);refine jW 8 [1,2,4,7,11] (bts 13 2198) ?_;(refine jG (bts 13 2199) 0 rfl (g_ldA rfl rfl rfl rfl) ?_);(refine jG (bts 13 2207) 3 rfl (g_lenL rfl) ?_);(refine jG (bts 13 2239) 5 rfl (g_lenL rfl) ?_);((refine jG (bts 13 2303) 6 rfl (g_sl3 rfl rfl rfl ?_) ?_;(focus ((omega);done))));refine jA 8 rfl ?_;(refine c_rt rfl rfl rfl (c_decimalN oM) rfl ?_);refine jK (bts 13 2559) ?_;refine jA 9 rfl ?_;(refine jF fun _=>?_);refine jK (bts 13 3071) ?_;refine jA 10 rfl ?_;((refine c_apC rfl rfl aS rfl rfl rfl rfl rfl rfl rfl rfl ?_ fun _ _ G2 hG2 hpth=>?_;(focus ((omega);done))));refine jK (bts 13 4095) ?_;refine jA 12 rfl ?_;((refine c_m3s rfl rfl rfl ((cx_lvi _) (by (repeat (assumption));done) _ _ (by (repeat (assumption));done)) rfl ?_;rintro _ G1 _ hle ⟨av,cv,rfl⟩;dsimp only [zA,fA];(have hle:=Gh.le.trans hG2 hle)));refine jK (bts 13 8191) ?_;refine jQ ?_)
  all_goals repeat' (refine jM ?_)
  all_goals exact k_rd (i + 1,av,cv,_) ⟨by dsimp only;omega,hgq.trans hle⟩ (by dsimp only;omega) tU rfl (by dsimp only;rw [hN1,hN2,hN3];repeat (first | exact List.Sublist.refl _ | apply List.Sublist.cons_cons | apply List.Sublist.cons))
 ·obtain rfl : i = ks.length:=oM
  rw [List.take_length]
  repeat' (first | (refine jR ?_) | (refine k_ff rfl (dFf oM) ?_))
  exact k_re (vs:=[]) rfl trivial rfl sB ⟨hgq,_,_,rfl⟩
theorem c_leavesI {ts : List Ty} (hw : SchW ts) {k : List UInt8} {v : V} (h : OfK ts k v) : LvI v:=by
 induction h with
 | num k m h1 h2=>exact c_lvLeaf (.inl rfl)
 | txt k x h1=>exact c_lvLeaf (.inr (.inl rfl))
 | flg k x h1=>exact c_lvLeaf (.inr (.inr (.inl rfl)))
 | lst k ks h1 h2 ih=>exact c_lvKids (.inl rfl) oM ih
 | non k=>exact c_lvLeaf (.inr (.inr (.inr (.inr rfl))))
 | opt k v h1 ih=>exact c_lvKids (.inr (.inl ⟨rfl,by simp⟩)) (by simp) (fun u hu=>by simp only [List.mem_singleton] at hu;subst hu;exact ih)
 | recd k t fs h1 h2 h3 h4 h5 h6 ih =>
  have hTW:=hw.ty t (refT_mem h1)
  refine c_lvRec (fun p hp=>?_) ih
  have:=(hTW.fld _ (h3 p hp)).tag
  omega
 | enm k t d h1 h2 h3=>exact c_lvLeaf (.inr (.inr (.inr (.inl rfl))))
 | uni k t d v h1 h2 h3 h4 h5 ih=>exact c_lvKids (.inr (.inr rfl)) (by simp) (fun u hu=>by simp only [List.mem_singleton] at hu;subst hu;exact ih)
theorem c_PathLeavesI {s k w : List UInt8} (h : s.length ≤ 1048576 ∧ k.length ≤ 1048576 ∧ w.length ≤ 1048576) : FnS Tryz.prog 14 [S s,S k,S w] G (fun v G'=>∃ a c ls,v = Tu [.slice a ls.length c,Bo (leavesV s k w).isSome] ∧ SlV G' (.slice a ls.length c) 1 ls.length (rows strF ls) ∧ (∀ l,leavesV s k w = some l → ls = l) ∧ (leavesV s k w = none → ls = [])):=by
 unfold leavesV
 cases hg : givenV s k w with
 | none =>
  have cx_gi0:=c_given0 (G:=G) h hg
  refine jB [(0,_),(1,_),(2,_)] Tryz.func14 Tryz.ntmps14 fun B hok hB hW=>?_
  repeat' (first | (refine jR ?_) | (refine jo ?_;first | refine jL fun _=>?_ | refine jD rfl rfl rfl ?_ | refine jC rfl rfl rfl ?_ | refine jAl rfl ?_ | (refine c_fns rfl rfl rfl cx_gi0 rfl ?_;rintro _ G hle ⟨p1,a1,b1,c1,rfl⟩;skip)) | (refine k_tt rfl rfl ?_))
  refine jZ (vs:=[_,_]) rfl ⟨rfl,rfl,trivial⟩ rfl ⟨hle,rfl,?_⟩
  exact ⟨_,_,[],rfl,SlV.nil0,fun l h=>(by cases h),fun _=>rfl⟩
 | some u =>
  obtain ⟨ts,hs,hki,hvo,hto,hwf⟩:=given_some hg
  have hw:=schemaOf_w hs
  have hof:=valOf_of_k hvo
  have cx_gi1:=c_given1 (G:=G) h hs hki hvo
  have hsz:=size_totL u
  dsimp only
  refine jB [(0,_),(1,_),(2,_)] Tryz.func14 Tryz.ntmps14 fun B hok hB hW=>?_
  repeat' (first | (refine jR ?_) | (refine jo ?_;first | refine jL fun _=>?_ | refine jD rfl rfl rfl ?_ | refine jC rfl rfl rfl ?_ | refine jAl rfl ?_ | refine jAm rfl ?_ | refine jV (g_mkf rfl rfl) ?_ | (refine c_fns rfl rfl rfl cx_gi1 rfl ?_;rintro _ G hle ⟨bg,qg,cv,rfl,hTg,hRg,hrv⟩;skip)) | (refine k_ff rfl rfl ?_))
  rename_i x9 x10 x11 x12
  refine Nx.addNil tTxI 1 ?_
  have hlv:=c_leavesI hw hof G cv [] 0 none 0 x11 x12 true none 0 0 [] hrv rfl SlV.nil0 (by simp) rfl ⟨oM,oM⟩
  have hle0:=hle
  refine jo ?_
  refine c_m3s rfl rfl rfl hlv rfl ?_
  rintro _ G1 _ hle1 ⟨av,cv2,rfl⟩
  dsimp only [zA,fA]
  rw [Nat.zero_add]
  have hoL : okL [] u = u.leaves.all fun r=>decide (r.length ≤ 8):=rfl
  rw [← hoL]
  have hll : (lvT [] u).length = u.size:=lvT_len
  clear hlv
  cases hok8 : okL [] u with
  | false =>
   rw [Bool.and_false]
   repeat' (first | (refine jR ?_) | (refine jo ?_;(refine jAl rfl ?_)) | (refine k_tt rfl rfl ?_))
   refine jZ (vs:=[_,_]) rfl ⟨rfl,rfl,trivial⟩ rfl ⟨(hle0.trans hle1),rfl,?_⟩
   exact ⟨_,_,[],rfl,SlV.nil0,fun l h=>(by cases h),fun _=>rfl⟩
  | true =>
   rw [Bool.and_true]
   repeat' (first | (refine jR ?_) | (refine jo ?_;(refine jAl rfl ?_)) | (refine k_ff rfl rfl ?_))
   refine Nx.sealS (v:=.slice av u.size cv2) fun G2 hG2 hsl=>?_
   refine jZ (vs:=[_,_]) rfl ⟨rfl,rfl,trivial⟩ rfl ⟨(hle0.trans (hle1.trans hG2)),rfl,?_⟩
   rw [← hll] at hsl ⊢
   exact ⟨_,_,lvT [] u,rfl,hsl,fun l h=>by simpa using h,fun h=>(by cases h)⟩
theorem app_take {P Q r : List UInt8} (h : P = Q ++ 47 :: r) : Q.length < P.length ∧ P.take Q.length = Q ∧ bt P Q.length = 47:=by
 subst h
 refine ⟨by simp,by simp,?_⟩
 simp [bt,List.getD]
theorem leavesV_path {s k w : List UInt8} {ls : List (List UInt8)} (h : leavesV s k w = some ls) : ∀ i,i < ls.length → ∃ q,pathOf (nth ls i) = some q:=fun i hi=>by
 unfold leavesV at h
 cases hg : givenV s k w with
 | none=>rw [hg] at h;cases h
 | some u =>
  rw [hg] at h
  dsimp only at h
  split at h
  ·rename_i hall
   simp only [Option.some.injEq] at h
   subst h
   obtain ⟨ts,hs,hki,hvo,hto,hwf⟩:=given_some hg
   have hi2 : i < u.leaves.length:=by simpa [lvT] using hi
   obtain ⟨hn,_⟩:=leaves_ok (schemaOf_w hs) (valOf_of_k hvo) _ (nth_mem hi2)
   rw [List.all_eq_true] at hall
   have h8:=of_decide_eq_true (hall _ (nth_mem hi2))
   exact ⟨_,by rw [lvT_nth hi2,pathOf_in hn,if_pos h8]⟩
  ·cases h
theorem c_FnPathKeeps {v : Value} {l : List UInt8} (hs : SlV G v 1 l.length (u8s l)) : PuG Tryz.prog 6 [v] G (· = Bo true):=by
 obtain ⟨a,cap,rfl⟩:=hs.sl
 refine jB (Post:=fun v G' L'=>G' = G ∧ L' = [] ∧ _) [(0,_)] Tryz.func6 Tryz.ntmps6 fun B hok hB hW=>?_
 repeat' (first | (refine jR ?_) | (refine jo ?_;first | refine jV (g_lenL rfl) ?_ | (refine c_pu rfl rfl rfl (c_DrawPathSet (by (repeat (assumption));done)) rfl ?_;rintro _ ⟨s1,k1,x1,p1,y1,rfl,hsz⟩)) | refine k_if rfl (fun _=>?_) (fun _=>?_))
 ·refine Nx.base hok hB ?_
  refine jY (vs:=[_]) ?_
  rfl
 have cx_ss1:=c_PathSetI (G:=G) hsz.1 hsz.2
 have cx_ss2:=c_PathSetS (G:=G) hsz.1 hsz.2
 cases h : pathSetV s1 k1 x1 p1 y1 with
 | none =>
  rw [h] at cx_ss1 cx_ss2
  unfold psR at cx_ss1 cx_ss2
  simp only [Option.getD_none,Option.isSome_none] at cx_ss1 cx_ss2
  repeat' (first | (refine jR ?_) | (refine jo ?_;first | (refine jAt rfl ?_) | (refine jAf rfl ?_) | (refine c_rt rfl rfl rfl cx_ss1 rfl ?_) | (refine c_rt rfl rfl rfl cx_ss2 rfl ?_)) | (refine k_gt rfl rfl rfl ?_) | (refine k_gf rfl rfl rfl ?_) | (refine k_tt rfl rfl ?_))
  all_goals refine Nx.base hok hB ?_
  all_goals refine jY (vs:=[_]) ?_
  all_goals rfl
 | some z =>
  have hzl:=(psv_ok h).2
  rw [h] at cx_ss1 cx_ss2
  unfold psR at cx_ss1 cx_ss2
  simp only [Option.getD_some,Option.isSome_some] at cx_ss1 cx_ss2
  cases hl : leavesV s1 k1 x1 with
  | none =>
   have cx_pli1 : FnS Tryz.prog 14 [S s1,S k1,S x1] G (fun v G'=>∃ a c,v = Tu [.slice a ([] : List (List UInt8)).length c,Bo false] ∧ SlV G' (.slice a ([] : List (List UInt8)).length c) 1 ([] : List (List UInt8)).length (rows strF [])):=(c_PathLeavesI ⟨hsz.1.1,hsz.1.2.1,hsz.1.2.2.1⟩).mono fun v G' L' ⟨g1,g2,a,c,ls',g3,g4,g5,g6⟩=>by
    obtain rfl:=g6 hl
    exact ⟨g1,g2,a,c,by rw [g3,hl];rfl,g4⟩
   repeat' (first | (refine jR ?_) | (refine jo ?_;first | (refine jAf rfl ?_) | (refine c_rt rfl rfl rfl cx_ss1 rfl ?_) | (refine c_rt rfl rfl rfl cx_ss2 rfl ?_) | (refine c_fns rfl rfl rfl cx_pli1 rfl ?_;rintro _ G hle ⟨pa1,pc1,rfl,hlvs⟩;skip)) | (refine k_gf rfl rfl ?_ ?_;(focus ((first | rfl | (simp [*];done));done))) | (refine k_ff rfl rfl ?_))
   refine k_loop (ι:=Unit) (fun i=>True) (fun i=>[(12,.slice pa1 ([] : List (List UInt8)).length pc1),(14,I 0)]) (fun _=>G) (fun i=>[]) (fun i=>0) () ?_ tU rfl sRr (fun i Hi=>?_)
   ·trivial
   repeat' (first | (refine jR ?_) | (refine jo ?_;(refine jV (g_lenL rfl) ?_)) | (refine k_ff rfl rfl ?_))
   all_goals refine Nx.base hok hB ?_
   all_goals refine jY (vs:=[_]) ?_
   all_goals rfl
  | some ls =>
   have hcnt:=leavesV_cnt hl
   have hlen:=leavesV_len hl
   have hpth:=leavesV_path hl
   have cx_pli1 : FnS Tryz.prog 14 [S s1,S k1,S x1] G (fun v G'=>∃ a c,v = Tu [.slice a ls.length c,Bo true] ∧ SlV G' (.slice a ls.length c) 1 ls.length (rows strF ls)):=(c_PathLeavesI ⟨hsz.1.1,hsz.1.2.1,hsz.1.2.2.1⟩).mono fun v G' L' ⟨g1,g2,a,c,ls',g3,g4,g5,g6⟩=>by
    obtain rfl:=g5 ls hl
    exact ⟨g1,g2,a,c,by rw [g3,hl];rfl,g4⟩
   repeat' (first | (refine jR ?_) | (refine jo ?_;first | (refine jAf rfl ?_) | (refine c_rt rfl rfl rfl cx_ss1 rfl ?_) | (refine c_rt rfl rfl rfl cx_ss2 rfl ?_) | (refine c_fns rfl rfl rfl cx_pli1 rfl ?_;rintro _ G hle ⟨pa1,pc1,rfl,hlvs⟩;skip)) | (refine k_gf rfl rfl ?_ ?_;(focus ((first | rfl | (simp [*];done));done))) | (refine k_ff rfl rfl ?_))
   refine k_loop (ι:=Nat) (fun i=>i ≤ ls.length) (fun i=>[(3,S s1),(4,S k1),(5,S x1),(6,S p1),(8,S z),(12,.slice pa1 ls.length pc1),(14,I i)]) (fun _=>G) (fun i=>[]) (fun i=>ls.length - i) 0 ?_ tU rfl sRr (fun i Hi=>?_)
   ·exact Nat.zero_le _
   by_cases hi : i < ls.length
   case neg =>
    repeat' (first | (refine jR ?_) | (refine jo ?_;(refine jV (g_lenL rfl) ?_)) | (refine k_ff rfl (dFf oM) ?_))
    all_goals refine Nx.base hok hB ?_
    all_goals refine jY (vs:=[_]) ?_
    all_goals rfl
   obtain ⟨xb,xo,xc,e,hsx⟩:=hlvs.expl oM
   simp only [Value.slice.injEq] at e
   obtain ⟨rfl,-,rfl⟩:=e
   have hxi : nth ls i = nth ls i:=rfl
   have hli:=hlen i hi
   have hpi:=hpth i hi
   have hn1 : Int.toNat ((p1.length : Nat) : Int) = p1.length:=rfl
   have hn2 : Int.toNat (((nth ls i).length : Nat) : Int) = (nth ls i).length:=rfl
   have keep : p1 ≠ [] → nth ls i ≠ p1 → (∀ r,nth ls i ≠ p1 ++ 47 :: r) → (∀ r,p1 ≠ nth ls i ++ 47 :: r) → nth ls i ≠ [] → pathGetV s1 k1 z (nth ls i) = pathGetV s1 k1 x1 (nth ls i):=fun g1 g2 g3 g4 g5=>path_keeps h hpi g1 g2 g3 g4 g5
   by_cases a1 : p1 = []
   case pos =>
    repeat' (first | refine jM ?_ | (refine jo ?_;first | refine jV (g_lenL rfl) ?_ | (refine jAt rfl ?_) | (refine jV (g_iaddrN rfl rfl oM) ?_) | (refine jV (g_ldRS rfl rfl aS ?_) ?_;(focus ((omega);done)))) | (refine k_gt rfl rfl (by first | rfl | (refine decide_eq_true ?_;(assumption))) ?_) | (refine k_tt rfl (by first | rfl | (refine decide_eq_true ?_;(omega))) ?_))
    all_goals exact k_rd (i + 1) oM oM tU rfl sRr
   case neg =>
    by_cases a2 : nth ls i = p1
    case pos =>
     repeat' (first | refine jM ?_ | (refine jo ?_;first | refine jV (g_lenL rfl) ?_ | (refine jAt rfl ?_) | (refine jAf rfl ?_) | (refine jV (g_iaddrN rfl rfl oM) ?_) | (refine jV (g_ldRS rfl rfl aS ?_) ?_;(focus ((omega);done)))) | (refine k_gt rfl rfl (by first | rfl | (refine decide_eq_true ?_;(assumption))) ?_) | (refine k_gf rfl rfl (dFf ‹_›) ?_) | (refine k_tt rfl (by first | rfl | (refine decide_eq_true ?_;(omega))) ?_))
     all_goals exact k_rd (i + 1) oM oM tU rfl sRr
    case neg =>
     by_cases h3 : p1.length < (nth ls i).length
     case pos =>
      by_cases b3 : List.take (Int.toNat ((p1.length : Nat) : Int)) (nth ls i) = p1
      case pos =>
       by_cases c3 : bt (nth ls i) (Int.toNat ((p1.length : Nat) : Int)) = 47
       case pos =>
        repeat' (first | refine jM ?_ | (refine jo ?_;first | refine jV (g_lenL rfl) ?_ | (refine jAt rfl ?_) | (refine jAf rfl ?_) | (refine jV (g_iaddrN rfl rfl oM) ?_) | (refine jV (g_ldRS rfl rfl aS ?_) ?_;(focus ((omega);done)))) | (refine k_gt rfl rfl (by first | rfl | (refine decide_eq_true ?_;first | assumption | omega)) ?_) | (refine k_gf rfl rfl (dFf ‹_›) ?_) | (refine k_tt rfl (by first | rfl | (refine decide_eq_true ?_;(omega))) ?_))
        all_goals exact k_rd (i + 1) oM oM tU rfl sRr
       case neg =>
        by_cases a5 : nth ls i = []
        case pos =>
         repeat' (first | refine jM ?_ | (refine jo ?_;first | refine jV (g_lenL rfl) ?_ | (refine jAt rfl ?_) | (refine jAf rfl ?_) | (refine jV (g_iaddrN rfl rfl oM) ?_) | (refine jV (g_ldRS rfl rfl aS ?_) ?_;(focus ((omega);done)))) | (refine k_gt rfl rfl (by refine decide_eq_true ?_;first | assumption | omega) ?_) | (refine k_gf rfl rfl (by first | rfl | (refine decide_eq_false ?_;first | assumption | omega)) ?_) | (refine k_tt rfl (by refine decide_eq_true ?_;first | assumption | omega) ?_))
         all_goals exact k_rd (i + 1) oM oM tU rfl sRr
        case neg =>
         have a3 : ∀ r,nth ls i ≠ p1 ++ 47 :: r:=fun r hr=>c3 (app_take hr).2.2
         have a4 : ∀ r,p1 ≠ nth ls i ++ 47 :: r:=fun r hr=>absurd (app_take hr).1 oM
         have cx_pg1:=c_PathGetI (G:=G) (s:=s1) (k:=k1) (w:=x1) (p:=nth ls i) ⟨hsz.1.1,hsz.1.2.1,hsz.1.2.2.1,oM⟩
         have cx_pg2:=c_PathGetI (G:=G) (s:=s1) (k:=k1) (w:=z) (p:=nth ls i) ⟨hsz.1.1,hsz.1.2.1,oM,oM⟩
         rw [keep a1 a2 a3 a4 a5] at cx_pg2
         unfold pgR at cx_pg1 cx_pg2
         generalize ((pathGetV s1 k1 x1 (nth ls i)).map (·.1)).getD [] = kk at *
         generalize ((pathGetV s1 k1 x1 (nth ls i)).map (·.2)).getD [] = xx at *
         generalize (pathGetV s1 k1 x1 (nth ls i)).isSome = oo at *
         clear keep a3 a4
         repeat' (first | refine jM ?_ | (refine jo ?_;first | refine jV (g_lenL rfl) ?_ | (refine jAt rfl ?_) | (refine jAf rfl ?_) | (refine jV (g_iaddrN rfl rfl oM) ?_) | (refine jV (g_ldRS rfl rfl aS ?_) ?_;(focus ((omega);done))) | (refine c_rt rfl rfl rfl cx_pg1 rfl ?_) | (refine c_rt rfl rfl rfl cx_pg2 rfl ?_)) | (refine k_gt rfl rfl (by refine decide_eq_true ?_;first | assumption | omega) ?_) | (refine k_gf rfl rfl (by first | rfl | (refine decide_eq_false ?_;first | assumption | omega)) ?_) | (refine k_tt rfl (dTt oM) ?_) | (refine k_ff rfl ?_ ?_;(focus ((first | (refine decide_eq_false ?_;(assumption)) | (simp [*];done));done))))
         all_goals exact k_rd (i + 1) oM oM tU rfl sRr
      case neg =>
       by_cases a5 : nth ls i = []
       case pos =>
        repeat' (first | refine jM ?_ | (refine jo ?_;first | refine jV (g_lenL rfl) ?_ | (refine jAt rfl ?_) | (refine jAf rfl ?_) | (refine jV (g_iaddrN rfl rfl oM) ?_) | (refine jV (g_ldRS rfl rfl aS ?_) ?_;(focus ((omega);done)))) | (refine k_gt rfl rfl (dTt oM) ?_) | (refine k_gf rfl rfl (by first | rfl | (refine decide_eq_false ?_;first | assumption | omega)) ?_) | (refine k_tt rfl (by refine decide_eq_true ?_;first | assumption | omega) ?_))
        all_goals exact k_rd (i + 1) oM oM tU rfl sRr
       case neg =>
        have a3 : ∀ r,nth ls i ≠ p1 ++ 47 :: r:=fun r hr=>b3 (app_take hr).2.1
        have a4 : ∀ r,p1 ≠ nth ls i ++ 47 :: r:=fun r hr=>absurd (app_take hr).1 oM
        have cx_pg1:=c_PathGetI (G:=G) (s:=s1) (k:=k1) (w:=x1) (p:=nth ls i) ⟨hsz.1.1,hsz.1.2.1,hsz.1.2.2.1,oM⟩
        have cx_pg2:=c_PathGetI (G:=G) (s:=s1) (k:=k1) (w:=z) (p:=nth ls i) ⟨hsz.1.1,hsz.1.2.1,oM,oM⟩
        rw [keep a1 a2 a3 a4 a5] at cx_pg2
        unfold pgR at cx_pg1 cx_pg2
        generalize ((pathGetV s1 k1 x1 (nth ls i)).map (·.1)).getD [] = kk at *
        generalize ((pathGetV s1 k1 x1 (nth ls i)).map (·.2)).getD [] = xx at *
        generalize (pathGetV s1 k1 x1 (nth ls i)).isSome = oo at *
        clear keep a3 a4
        repeat' (first | refine jM ?_ | (refine jo ?_;first | refine jV (g_lenL rfl) ?_ | (refine jAt rfl ?_) | (refine jAf rfl ?_) | (refine jV (g_iaddrN rfl rfl oM) ?_) | (refine jV (g_ldRS rfl rfl aS ?_) ?_;(focus ((omega);done))) | (refine c_rt rfl rfl rfl cx_pg1 rfl ?_) | (refine c_rt rfl rfl rfl cx_pg2 rfl ?_)) | (refine k_gt rfl rfl (dTt oM) ?_) | (refine k_gf rfl rfl (by first | rfl | (refine decide_eq_false ?_;first | assumption | omega)) ?_) | (refine k_tt rfl (dTt oM) ?_) | (refine k_ff rfl ?_ ?_;(focus ((first | (refine decide_eq_false ?_;(assumption)) | (simp [*];done));done))))
        all_goals exact k_rd (i + 1) oM oM tU rfl sRr
     case neg =>
      by_cases h4 : (nth ls i).length < p1.length
      case pos =>
       by_cases b4 : List.take (Int.toNat (((nth ls i).length : Nat) : Int)) p1 = nth ls i
       case pos =>
        by_cases c4 : bt p1 (Int.toNat (((nth ls i).length : Nat) : Int)) = 47
        case pos =>
         repeat' (first | refine jM ?_ | (refine jo ?_;first | refine jV (g_lenL rfl) ?_ | (refine jAt rfl ?_) | (refine jAf rfl ?_) | (refine jV (g_iaddrN rfl rfl oM) ?_) | (refine jV (g_ldRS rfl rfl aS ?_) ?_;(focus ((omega);done)))) | (refine k_gt rfl rfl (by refine decide_eq_true ?_;first | assumption | omega) ?_) | (refine k_gf rfl rfl (by first | rfl | (refine decide_eq_false ?_;first | assumption | omega)) ?_) | (refine k_tt rfl (by first | rfl | (refine decide_eq_true ?_;(omega))) ?_))
         all_goals exact k_rd (i + 1) oM oM tU rfl sRr
        case neg =>
         by_cases a5 : nth ls i = []
         case pos =>
          repeat' (first | refine jM ?_ | (refine jo ?_;first | refine jV (g_lenL rfl) ?_ | (refine jAt rfl ?_) | (refine jAf rfl ?_) | (refine jV (g_iaddrN rfl rfl oM) ?_) | (refine jV (g_ldRS rfl rfl aS ?_) ?_;(focus ((omega);done)))) | (refine k_gt rfl rfl (by refine decide_eq_true ?_;first | assumption | omega) ?_) | (refine k_gf rfl rfl (by first | rfl | (refine decide_eq_false ?_;first | assumption | omega)) ?_) | (refine k_tt rfl (by refine decide_eq_true ?_;first | assumption | omega) ?_))
          all_goals exact k_rd (i + 1) oM oM tU rfl sRr
         case neg =>
          have a3 : ∀ r,nth ls i ≠ p1 ++ 47 :: r:=fun r hr=>absurd (app_take hr).1 oM
          have a4 : ∀ r,p1 ≠ nth ls i ++ 47 :: r:=fun r hr=>c4 (app_take hr).2.2
          have cx_pg1:=c_PathGetI (G:=G) (s:=s1) (k:=k1) (w:=x1) (p:=nth ls i) ⟨hsz.1.1,hsz.1.2.1,hsz.1.2.2.1,oM⟩
          have cx_pg2:=c_PathGetI (G:=G) (s:=s1) (k:=k1) (w:=z) (p:=nth ls i) ⟨hsz.1.1,hsz.1.2.1,oM,oM⟩
          rw [keep a1 a2 a3 a4 a5] at cx_pg2
          unfold pgR at cx_pg1 cx_pg2
          generalize ((pathGetV s1 k1 x1 (nth ls i)).map (·.1)).getD [] = kk at *
          generalize ((pathGetV s1 k1 x1 (nth ls i)).map (·.2)).getD [] = xx at *
          generalize (pathGetV s1 k1 x1 (nth ls i)).isSome = oo at *
          clear keep a3 a4
          repeat' (first | refine jM ?_ | (refine jo ?_;first | refine jV (g_lenL rfl) ?_ | (refine jAt rfl ?_) | (refine jAf rfl ?_) | (refine jV (g_iaddrN rfl rfl oM) ?_) | (refine jV (g_ldRS rfl rfl aS ?_) ?_;(focus ((omega);done))) | (refine c_rt rfl rfl rfl cx_pg1 rfl ?_) | (refine c_rt rfl rfl rfl cx_pg2 rfl ?_)) | (refine k_gt rfl rfl (by refine decide_eq_true ?_;first | assumption | omega) ?_) | (refine k_gf rfl rfl (by first | rfl | (refine decide_eq_false ?_;first | assumption | omega)) ?_) | (refine k_tt rfl (dTt oM) ?_) | (refine k_ff rfl ?_ ?_;(focus ((first | (refine decide_eq_false ?_;(assumption)) | (simp [*];done));done))))
          all_goals exact k_rd (i + 1) oM oM tU rfl sRr
       case neg =>
        by_cases a5 : nth ls i = []
        case pos =>
         repeat' (first | refine jM ?_ | (refine jo ?_;first | refine jV (g_lenL rfl) ?_ | (refine jAt rfl ?_) | (refine jAf rfl ?_) | (refine jV (g_iaddrN rfl rfl oM) ?_) | (refine jV (g_ldRS rfl rfl aS ?_) ?_;(focus ((omega);done)))) | (refine k_gt rfl rfl ?_ ?_;(focus ((first | (refine decide_eq_true ?_;(omega)) | (simp [*];done));done))) | (refine k_gf rfl rfl (by first | rfl | (refine decide_eq_false ?_;first | assumption | omega)) ?_) | refine k_g rfl rfl (fun _=>?_) (fun _=>?_) | (refine k_tt rfl (by first | rfl | (refine decide_eq_true ?_;first | assumption | omega)) ?_))
         all_goals exact k_rd (i + 1) oM oM tU rfl sRr
        case neg =>
         have a3 : ∀ r,nth ls i ≠ p1 ++ 47 :: r:=fun r hr=>absurd (app_take hr).1 oM
         have a4 : ∀ r,p1 ≠ nth ls i ++ 47 :: r:=fun r hr=>b4 (app_take hr).2.1
         have cx_pg1:=c_PathGetI (G:=G) (s:=s1) (k:=k1) (w:=x1) (p:=nth ls i) ⟨hsz.1.1,hsz.1.2.1,hsz.1.2.2.1,oM⟩
         have cx_pg2:=c_PathGetI (G:=G) (s:=s1) (k:=k1) (w:=z) (p:=nth ls i) ⟨hsz.1.1,hsz.1.2.1,oM,oM⟩
         rw [keep a1 a2 a3 a4 a5] at cx_pg2
         unfold pgR at cx_pg1 cx_pg2
         generalize ((pathGetV s1 k1 x1 (nth ls i)).map (·.1)).getD [] = kk at *
         generalize ((pathGetV s1 k1 x1 (nth ls i)).map (·.2)).getD [] = xx at *
         generalize (pathGetV s1 k1 x1 (nth ls i)).isSome = oo at *
         clear keep a3 a4
         repeat' (first | refine jM ?_ | (refine jo ?_;first | refine jV (g_lenL rfl) ?_ | (refine jAt rfl ?_) | (refine jAf rfl ?_) | (refine jV (g_iaddrN rfl rfl oM) ?_) | (refine jV (g_ldRS rfl rfl aS ?_) ?_;(focus ((omega);done))) | (refine c_rt rfl rfl rfl cx_pg1 rfl ?_) | (refine c_rt rfl rfl rfl cx_pg2 rfl ?_)) | (refine k_gt rfl rfl (dTt oM) ?_) | (refine k_gf rfl rfl (by first | rfl | (refine decide_eq_false ?_;first | assumption | omega)) ?_) | (refine k_tt rfl (dTt oM) ?_) | (refine k_ff rfl ?_ ?_;(focus ((first | (refine decide_eq_false ?_;(assumption)) | (simp [*];done));done))))
         all_goals exact k_rd (i + 1) oM oM tU rfl sRr
      case neg =>
       by_cases a5 : nth ls i = []
       case pos =>
        repeat' (first | refine jM ?_ | (refine jo ?_;first | refine jV (g_lenL rfl) ?_ | (refine jAf rfl ?_) | (refine jV (g_iaddrN rfl rfl oM) ?_) | (refine jV (g_ldRS rfl rfl aS ?_) ?_;(focus ((omega);done)))) | (refine k_gf rfl rfl (by first | rfl | (refine decide_eq_false ?_;first | assumption | omega)) ?_) | (refine k_tt rfl (by refine decide_eq_true ?_;first | assumption | omega) ?_))
        all_goals exact k_rd (i + 1) oM oM tU rfl sRr
       case neg =>
        have a3 : ∀ r,nth ls i ≠ p1 ++ 47 :: r:=fun r hr=>absurd (app_take hr).1 oM
        have a4 : ∀ r,p1 ≠ nth ls i ++ 47 :: r:=fun r hr=>absurd (app_take hr).1 oM
        have cx_pg1:=c_PathGetI (G:=G) (s:=s1) (k:=k1) (w:=x1) (p:=nth ls i) ⟨hsz.1.1,hsz.1.2.1,hsz.1.2.2.1,oM⟩
        have cx_pg2:=c_PathGetI (G:=G) (s:=s1) (k:=k1) (w:=z) (p:=nth ls i) ⟨hsz.1.1,hsz.1.2.1,oM,oM⟩
        rw [keep a1 a2 a3 a4 a5] at cx_pg2
        unfold pgR at cx_pg1 cx_pg2
        generalize ((pathGetV s1 k1 x1 (nth ls i)).map (·.1)).getD [] = kk at *
        generalize ((pathGetV s1 k1 x1 (nth ls i)).map (·.2)).getD [] = xx at *
        generalize (pathGetV s1 k1 x1 (nth ls i)).isSome = oo at *
        clear keep a3 a4
        repeat' (first | refine jM ?_ | (refine jo ?_;first | refine jV (g_lenL rfl) ?_ | (refine jAf rfl ?_) | (refine jV (g_iaddrN rfl rfl oM) ?_) | (refine jV (g_ldRS rfl rfl aS ?_) ?_;(focus ((omega);done))) | (refine c_rt rfl rfl rfl cx_pg1 rfl ?_) | (refine c_rt rfl rfl rfl cx_pg2 rfl ?_)) | (refine k_gf rfl rfl (by first | rfl | (refine decide_eq_false ?_;first | assumption | omega)) ?_) | (refine k_tt rfl (dTt oM) ?_) | (refine k_ff rfl ?_ ?_;(focus ((first | (refine decide_eq_false ?_;(assumption)) | (simp [*];done));done))))
        all_goals exact k_rd (i + 1) oM oM tU rfl sRr
end Go.E
