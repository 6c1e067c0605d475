/- Contracts and plain laws that the statement rests on, part 5. Conditions: as each says. -/
import Derived.Test.YthcpkoephapecaaGreatDoorZ4
set_option linter.unusedVariables false
set_option linter.unusedSimpArgs false
namespace Go.E
set_option maxRecDepth 20000
set_option maxHeartbeats 2000000
open Go.Proofs
variable {G : Gh}
theorem c_namU {n : Nat} {u : Value} {vs : List TyX} {x : TyX} {k s : List UInt8} (hR : ReadC n u vs) (h : SchR G u vs) (hw : SchW (tys vs)) (hx : x ∈ vs) (hrf : refT (tys vs) k = some x.2) (cx_rf : PuG Tryz.prog 116 [u,S k] G (· = Tu [Ag [U8 x.2.sort,S x.2.name,slX x],Bo true])) (hso : x.2.sort = 85) (hs : s.length ≤ 1999999) (hn : n ≤ 1000) :
  FnS Tryz.prog 84 [Ag [u],S (60 :: s),S k,I (n + 1 : Nat)] G (ReadP (tys vs) (rdTyped (tys vs) (rd (tys vs) n) x.2 (60 :: s)) k):=by
 have edn : ((n + 1 : Nat) : Int) - 1 = (n : Nat):=oM
 have hxt : x.2 ∈ tys vs:=List.mem_map_of_mem hx
 have hTW:=hw.ty _ hxt
 have hfl:=hTW.len
 have cx_tg:=c_tag (G:=G) (u:=u) (x:=x) (s:=s) oM h.sl.one (h.fl x hx) oM
 have he0 : bt (60 :: s) (Int.toNat 0) = 60:=bt_zero 60 s
 have hel : (60 :: s).length = s.length + 1:=rfl
 have h1' : (x.2.sort : Int) = 85:=oM
 have hRT : rdTyped (tys vs) (rd (tys vs) n) x.2 (60 :: s) = match rdField (rd (tys vs) n) x.2 s with
   | none=>none
   | some ((d,v),r)=>match r with
    | []=>none
    | c' :: r'=>if c'.toNat = 62 then some (.nd 85 [] d.tag [v],r') else none:=by
  unfold rdTyped
  dsimp only
  rw [if_neg oM,if_neg oM,if_pos (show (60 : UInt8).toNat = 60 from rfl)]
  cases rdField (rd (tys vs) n) x.2 s <;> rfl
 simp only [tyF] at cx_tg
 refine jB [(0,_),(1,_),(2,_),(3,_)] Tryz.func84 Tryz.ntmps84 fun B hok hB hW=>?_
 repeat' (first | refine jM ?_ | (refine jo ?_;first | refine jO fun _=>?_ | refine jAl rfl ?_ | refine jL fun _=>?_ | refine jC rfl rfl rfl ?_ | (refine jAt rfl ?_) | (refine jAf rfl ?_) | (refine c_rt rfl rfl rfl cx_rf rfl ?_)) | (refine k_gt rfl rfl (dTt ‹_›) ?_) | (refine k_gf rfl rfl (dFf oM) ?_) | (refine k_tt rfl rfl ?_) | (refine k_ff rfl rfl ?_))
 (refine k_any (s_any (id:=8) _ (fun _ h=>h) mixed ?_);refine jW 11 [1,2] (bts 13 6) ?_;(refine jG (bts 13 7) 0 rfl (g_ldA rfl rfl rfl rfl) ?_);(refine jG (bts 13 15) 3 rfl (g_ldA rfl rfl rfl rfl) ?_);refine x_all [4,9] kR dC ⟨?_,?_,trivial⟩;(focus (refine x_opg rfl rfl ?_;(refine c_pu rfl rfl rfl cx_tg rfl ?_;rintro _ ⟨nt,rfl,hnt⟩);refine jK (bts 13 31) ?_;refine jW 4 [5,6,7,8] (bts 13 511) ?_;refine jA 9 rfl ?_;(refine jL fun _=>?_);refine jK (bts 13 1023) ?_;refine jA 10 rfl ?_;(refine jC rfl rfl rfl ?_);refine jK (bts 13 2047) ?_;refine jW 0 [11,12] (bts 13 8191) ?_;refine jQ ?_));rotate_left 1;(focus (refine x_opg rfl rfl ?_;(refine jL fun _=>?_);refine jK (bts 13 527) ?_;refine jA 4 rfl ?_;(refine c_pu rfl rfl rfl cx_tg rfl ?_;rintro _ ⟨nt,rfl,hnt⟩);refine jK (bts 13 543) ?_;refine jW 3 [5,6,7,8] (bts 13 1023) ?_;refine jA 10 rfl ?_;(refine jC rfl rfl rfl ?_);refine jK (bts 13 2047) ?_;refine jW 0 [11,12] (bts 13 8191) ?_;refine jQ ?_));rotate_left 1)
 all_goals
  have hnone : ∀ {v : Value} {G' : Gh} {r : List UInt8},rdField (rd (tys vs) n) x.2 s = none → v = Tu [.pointer none,S r,Bo false] → ReadP (tys vs) (rdTyped (tys vs) (rd (tys vs) n) x.2 (60 :: s)) k v G':=fun h1 h2=>⟨_,_,_,h2,fun h=>(by cases h),fun _=>by rw [hRT,h1]⟩
  cases hb16 : (numOf (s.takeWhile isDg) 200).isSome && (fldT x.2.fields nt).isSome with
  | false =>
   have hno : rdField (rd (tys vs) n) x.2 s = none:=by
    cases hm : numOf (s.takeWhile isDg) 200 with
    | none=>exact field_none (.inl hm)
    | some m0 =>
     refine field_none (.inr ⟨m0,hm,?_⟩)
     rw [hm] at hb16
     rw [← hnt m0 hm]
     cases hf : fldT x.2.fields nt with
     | none=>rfl
     | some d=>rw [hf] at hb16;cases hb16
   repeat' (first | (refine jR ?_) | (refine jo ?_;(refine jAt rfl ?_)) | (refine k_gt rfl rfl rfl ?_) | (refine k_tt rfl rfl ?_))
   all_goals refine jZ (vs:=[_,_,_]) rfl ⟨rfl,rfl,rfl,trivial⟩ rfl ⟨Gh.le.refl _,rfl,?_⟩
   all_goals exact hnone hno rfl
  | true =>
   simp only [Bool.and_eq_true] at hb16
   obtain ⟨hb1,hb2⟩:=hb16
   obtain ⟨m0,hm⟩:=Option.isSome_iff_exists.1 hb1
   obtain ⟨d,hd⟩:=Option.isSome_iff_exists.1 hb2
   have hnm:=hnt m0 hm
   subst hnm
   rw [hd]
   simp only [Option.getD_some]
   have hdm : d ∈ x.2.fields:=List.mem_of_find?_eq_some hd
   have hwl:=while_len isDg s
   cases hdw : s.dropWhile isDg with
   | nil =>
    have hno : rdField (rd (tys vs) n) x.2 s = none:=field_noeq hm (fun s2 h=>by rw [hdw] at h;cases h)
    repeat' (first | (refine jR ?_) | (refine jo ?_;first | (refine jAt rfl ?_) | (refine jAf rfl ?_)) | (refine k_gt rfl rfl rfl ?_) | (refine k_gf rfl rfl rfl ?_) | (refine k_tt rfl rfl ?_))
    all_goals refine jZ (vs:=[_,_,_]) rfl ⟨rfl,rfl,rfl,trivial⟩ rfl ⟨Gh.le.refl _,rfl,?_⟩
    all_goals exact hnone hno rfl
   | cons e r2 =>
    have he20 : bt (e :: r2) (Int.toNat 0) = e.toNat:=bt_zero e r2
    have hel2 : (e :: r2).length = r2.length + 1:=rfl
    by_cases h61 : e.toNat = 61
    case neg =>
     have hno : rdField (rd (tys vs) n) x.2 s = none:=field_noeq hm (fun s2 h=>by rw [hdw] at h;simp only [List.cons.injEq] at h;exact h61 (by rw [h.1];rfl))
     repeat' (first | refine jM ?_ | (refine jo ?_;(refine jAf rfl ?_)) | (refine k_gf rfl rfl rfl ?_) | (refine k_tt rfl (dTt oM) ?_))
     all_goals refine jZ (vs:=[_,_,_]) rfl ⟨rfl,rfl,rfl,trivial⟩ rfl ⟨Gh.le.refl _,rfl,?_⟩
     all_goals exact hnone hno rfl
    have he61 : e = 61:=UInt8.toNat_inj.1 h61
    have hfs:=field_some (f:=rd (tys vs) n) (t:=x.2) (s:=s) hm hd (by rw [hdw,he61])
    have hdk : kindIn (tys vs) d.kind = true:=kind_in hw hxt oM hdm
    rw [hdw,List.length_cons] at hwl
    have cx_rd:=hR G d.kind r2 h hdk oM
    rw [← edn] at cx_rd
    repeat' (first | refine jM ?_ | (refine jo ?_;(refine jAf rfl ?_)) | (refine k_gf rfl rfl rfl ?_) | (refine k_ff rfl (dFf oM) ?_))
    (refine k_any (s_any (id:=11) _ (fun _ h=>h) mixed ?_);refine jW 10 [1,2,3,5,6] (bts 15 110) ?_;(refine jG (bts 15 111) 0 rfl (g_ldA rfl rfl rfl rfl) ?_);(refine jG (bts 15 127) 4 rfl (g_ld rfl rfl rfl) ?_);refine jA 7 rfl ?_;(refine c_fns rfl rfl rfl cx_rd rfl ?_;rintro _ G hle ⟨q1,r1,ok1,rfl,hyes,hno⟩;skip);refine jS (bts 15 255) ?_;refine jT 0 [8,9,10,11,12,13,14] (bts 15 32767) ?_;refine jQ ?_)
    cases ok1 with
    | false =>
     have hno2 : rdField (rd (tys vs) n) x.2 s = none:=by rw [hfs,hno rfl];rfl
     repeat' (first | (refine jR ?_) | (refine jo ?_;(refine jAt rfl ?_)) | (refine k_gt rfl rfl rfl ?_) | (refine k_tt rfl rfl ?_))
     all_goals refine jZ (vs:=[_,_,_]) rfl ⟨rfl,rfl,rfl,trivial⟩ rfl ⟨hle,rfl,?_⟩
     all_goals exact hnone hno2 rfl
    | true =>
     obtain ⟨w,wb,rfl,hf,hrep⟩:=hyes rfl
     have hfd : rdField (rd (tys vs) n) x.2 s = some ((d,w),r1):=by rw [hfs,hf];rfl
     rw [hfd] at hRT
     dsimp only at hRT
     cases r1 with
     | nil =>
      repeat' (first | (refine jR ?_) | (refine jo ?_;first | (refine jAt rfl ?_) | (refine jAf rfl ?_)) | (refine k_gt rfl rfl rfl ?_) | (refine k_gf rfl rfl rfl ?_) | (refine k_tt rfl rfl ?_))
      all_goals refine jZ (vs:=[_,_,_]) rfl ⟨rfl,rfl,rfl,trivial⟩ rfl ⟨hle,rfl,?_⟩
      all_goals (rw [oneOf_three];exact ⟨_,_,_,rfl,fun h=>(by cases h),fun _=>hRT⟩)
     | cons e3 r3 =>
      have he30 : bt (e3 :: r3) (Int.toNat 0) = e3.toNat:=bt_zero e3 r3
      have hel3 : (e3 :: r3).length = r3.length + 1:=rfl
      dsimp only at hRT
      by_cases h62 : e3.toNat = 62
      case neg =>
       rw [if_neg h62] at hRT
       repeat' (first | refine jM ?_ | (refine jo ?_;(refine jAf rfl ?_)) | (refine k_gf rfl rfl rfl ?_) | (refine k_tt rfl (dTt oM) ?_))
       all_goals refine jZ (vs:=[_,_,_]) rfl ⟨rfl,rfl,rfl,trivial⟩ rfl ⟨hle,rfl,?_⟩
       all_goals (rw [oneOf_three];exact ⟨_,_,_,rfl,fun h=>(by cases h),fun _=>hRT⟩)
      rw [if_pos h62] at hRT
      repeat' (first | refine jM ?_ | (refine jo ?_;(refine jAf rfl ?_)) | (refine k_gf rfl rfl rfl ?_) | (refine k_ff rfl (dFf oM) ?_))
      (refine k_any (s_any (id:=14) _ (fun _ h=>h) mixed ?_);refine jW 8 [0,1,4,8,9] (bts 13 787) ?_;(refine jG (bts 13 791) 2 rfl (g_ld rfl rfl rfl) ?_);refine x_all [3,5] kR dC ⟨?_,?_,trivial⟩;(focus (refine x_opg rfl rfl ?_;(refine jF fun _=>?_);refine jS (bts 13 799) ?_;refine jA 5 rfl ?_;(refine jF fun _=>?_);refine jS (bts 13 831) ?_;(refine jG (bts 13 895) 6 rfl (g_bld rfl rfl) ?_);refine jA 7 rfl ?_;(refine jO fun _=>?_);refine jS (bts 13 1023) ?_;refine jW 0 [10,11,12] (bts 13 8191) ?_;refine jQ ?_));rotate_left 1;(focus (refine x_opg rfl rfl ?_;(refine jF fun _=>?_);refine jS (bts 13 823) ?_;refine jA 3 rfl ?_;(refine jF fun _=>?_);refine jS (bts 13 831) ?_;(refine jG (bts 13 895) 6 rfl (g_bld rfl rfl) ?_);refine jA 7 rfl ?_;(refine jO fun _=>?_);refine jS (bts 13 1023) ?_;refine jW 0 [10,11,12] (bts 13 8191) ?_;refine jQ ?_));rotate_left 1)
      all_goals repeat' (refine jR ?_)
      all_goals
       rename_i y1 y2 y8
       refine Nx.sealC (b:=y1) fun G2 hG2 hs1=>?_
       refine Nx.sealC (b:=y2) fun G3 hG3 hs2=>?_
       refine Nx.sealC (b:=y8) fun G4 hG4 hsg=>?_
       refine jZ (vs:=[_,_,_]) rfl ⟨rfl,rfl,rfl,trivial⟩ rfl ⟨(((hle.trans hG2).trans hG3).trans hG4),rfl,?_⟩
       rw [oneOf_three]
       first | exact ⟨_,_,_,rfl,fun _=>⟨.nd 85 [] d.tag [w],y8,rfl,hRT,.uni k y8 y1 y2 wb 1 x.2 d w (Nat.le_refl _) ⟨hrf,hso⟩ hdm hsg (hs1.mono (hG3.trans hG4)) (hs2.mono hG4) (hrep.mono ((hG2.trans hG3).trans hG4))⟩,fun h=>(by cases h)⟩ | exact ⟨_,_,_,rfl,fun _=>⟨.nd 85 [] d.tag [w],y8,rfl,hRT,.uni k y8 y2 y1 wb 1 x.2 d w (Nat.le_refl _) ⟨hrf,hso⟩ hdm hsg (hs2.mono hG4) (hs1.mono (hG3.trans hG4)) (hrep.mono ((hG2.trans hG3).trans hG4))⟩,fun h=>(by cases h)⟩
theorem rd_nil {ts : List Ty} {n : Nat} {k : List UInt8} : rd ts n k [] = none:=by
 cases h : rd ts n k [] with
 | none=>rfl
 | some x=>have:=rd_short h;simp at this
theorem c_read0 {n : Nat} {u : Value} {vs : List TyX} {k s : List UInt8} (hc : s = [] ∨ n = 0) (hn : n ≤ 1000) : FnS Tryz.prog 50 [Ag [u],S s,S k,I (n : Nat)] G (ReadP (tys vs) (rd (tys vs) n k s) k):=by
 have hno : rd (tys vs) n k s = none:=by
  rcases hc with rfl | rfl
  ·exact rd_nil
  ·rfl
 by_cases hs : s = []
 ·refine jB [(0,_),(1,_),(2,_),(3,_)] Tryz.func50 Tryz.ntmps50 fun B hok hB hW=>?_
  repeat' (first | (refine jR ?_) | (refine jo ?_;first | refine jO fun _=>?_ | (refine jAt rfl ?_)) | (refine k_gt rfl rfl (dTt ‹_›) ?_) | (refine k_tt rfl rfl ?_))
  refine jZ (vs:=[_,_,_]) rfl ⟨rfl,rfl,rfl,trivial⟩ rfl ⟨Gh.le.refl _,rfl,?_⟩
  rw [oneOf_three]
  exact ⟨_,_,_,rfl,fun h=>(by cases h),fun _=>hno⟩
 ·have hn0 : n = 0:=by
   rcases hc with h | h
   ·exact absurd h hs
   ·exact h
  refine jB [(0,_),(1,_),(2,_),(3,_)] Tryz.func50 Tryz.ntmps50 fun B hok hB hW=>?_
  repeat' (first | (refine jR ?_) | (refine jo ?_;first | refine jO fun _=>?_ | (refine jAf rfl ?_)) | (refine k_gf rfl rfl (dFf ‹_›) ?_) | (refine k_tt rfl (dTt oM) ?_))
  refine jZ (vs:=[_,_,_]) rfl ⟨rfl,rfl,rfl,trivial⟩ rfl ⟨Gh.le.refl _,rfl,?_⟩
  rw [oneOf_three]
  exact ⟨_,_,_,rfl,fun h=>(by cases h),fun _=>hno⟩
theorem c_readL {n : Nat} {u : Value} {vs : List TyX} {k s : List UInt8} {e : UInt8} (hR : ReadC n u vs) (h : SchR G u vs) (hk : kindIn (tys vs) (91 :: k) = true) (hs : s.length ≤ 1999999) (hn : n ≤ 999) :
  FnS Tryz.prog 50 [Ag [u],S (e :: s),S (91 :: k),I (n + 1 : Nat)] G (ReadP (tys vs) (rd (tys vs) (n + 1) (91 :: k) (e :: s)) (91 :: k)):=by
 have hrd : rd (tys vs) (n + 1) (91 :: k) (e :: s) = rdList (rd (tys vs) n k) (e :: s):=by rw [rd];exact rdK_list rfl
 have he0 : bt (e :: s) (Int.toNat 0) = e.toNat:=bt_zero e s
 have hel : (e :: s).length = s.length + 1:=rfl
 have hk0 : bt (91 :: k) (Int.toNat 0) = 91:=bt_zero 91 k
 have hkl2 : (91 :: k).length = k.length + 1:=rfl
 by_cases h91 : e.toNat = 91
 ·obtain rfl:=u8_eq h91 dC
  have cx_ls:=c_listS (s:=s) hR h (kindIn_tail (.inl rfl) hk) oM oM
  refine jB [(0,_),(1,_),(2,_),(3,_)] Tryz.func50 Tryz.ntmps50 fun B hok hB hW=>?_
  repeat' (first | refine jM ?_ | (refine jo ?_;first | refine jO fun _=>?_ | (refine jAf rfl ?_)) | (refine k_gf rfl rfl rfl ?_) | (refine k_tt rfl rfl ?_) | (refine k_ff rfl rfl ?_) | (refine k_any (s_any (id:=7) _ (fun _ h=>h) mixed ?_);refine jW 8 [1,2,3,4] (bts 12 30) ?_;(refine jG (bts 12 31) 0 rfl (g_ldA rfl rfl rfl rfl) ?_);refine jA 5 rfl ?_;(refine c_fns rfl rfl rfl cx_ls rfl ?_;rintro _ G hle ⟨q1,r1,ok1,rfl,hyes,hno⟩;skip);refine jS (bts 12 63) ?_;refine jT 0 [6,7,8,9,10,11] (bts 12 4095) ?_;refine jQ ?_))
  refine jZ (vs:=[_,_,_]) rfl ⟨rfl,rfl,rfl,trivial⟩ rfl ⟨hle,rfl,?_⟩
  rw [oneOf_three,hrd]
  exact ⟨_,_,_,rfl,hyes,hno⟩
 ·have hno : rdList (rd (tys vs) n k) (e :: s) = none:=by unfold rdList;dsimp only;rw [if_neg h91]
  refine jB [(0,_),(1,_),(2,_),(3,_)] Tryz.func50 Tryz.ntmps50 fun B hok hB hW=>?_
  repeat' (first | refine jM ?_ | (refine jo ?_;first | refine jO fun _=>?_ | (refine jAf rfl ?_)) | (refine k_gf rfl rfl rfl ?_) | (refine k_tt rfl (by first | rfl | (refine decide_eq_true ?_;(omega))) ?_) | (refine k_ff rfl rfl ?_))
  refine jZ (vs:=[_,_,_]) rfl ⟨rfl,rfl,rfl,trivial⟩ rfl ⟨Gh.le.refl _,rfl,?_⟩
  rw [oneOf_three,hrd]
  exact ⟨_,_,_,rfl,fun h=>(by cases h),fun _=>hno⟩
theorem c_readO {n : Nat} {u : Value} {vs : List TyX} {k s : List UInt8} {e : UInt8} (hR : ReadC n u vs) (h : SchR G u vs) (hk : kindIn (tys vs) (63 :: k) = true) (hs : s.length ≤ 1999999) (hn : n ≤ 999) :
  FnS Tryz.prog 50 [Ag [u],S (e :: s),S (63 :: k),I (n + 1 : Nat)] G (ReadP (tys vs) (rd (tys vs) (n + 1) (63 :: k) (e :: s)) (63 :: k)):=by
 have edn : ((n + 1 : Nat) : Int) - 1 = (n : Nat):=oM
 have hrd : rd (tys vs) (n + 1) (63 :: k) (e :: s) = if e.toNat = 45 then some (.nd 63 [] 0 [],s) else if e.toNat = 43 then (rd (tys vs) n k s).map fun x=>(.nd 63 [] 0 [x.1],x.2) else none:=by
  rw [rd];unfold rdK
  dsimp only
  rw [if_neg (show ¬ (63 : UInt8).toNat = 91 by decide),if_pos (show (63 : UInt8).toNat = 63 from rfl)]
 have he0 : bt (e :: s) (Int.toNat 0) = e.toNat:=bt_zero e s
 have hel : (e :: s).length = s.length + 1:=rfl
 have hk0 : bt (63 :: k) (Int.toNat 0) = 63:=bt_zero 63 k
 have hkl2 : (63 :: k).length = k.length + 1:=rfl
 rw [hrd]
 by_cases h45 : e.toNat = 45
 ·rw [if_pos h45]
  refine jB [(0,_),(1,_),(2,_),(3,_)] Tryz.func50 Tryz.ntmps50 fun B hok hB hW=>?_
  repeat' (first | refine jM ?_ | (refine jo ?_;first | refine jO fun _=>?_ | (refine jAf rfl ?_)) | (refine k_gf rfl rfl rfl ?_) | (refine k_tt rfl (by first | rfl | (refine decide_eq_true ?_;(omega))) ?_) | (refine k_ff rfl rfl ?_) | (refine k_any (s_any (id:=10) _ (fun _ h=>h) mixed ?_);refine jW 5 [0,3,4] (bts 8 25) ?_;(refine jG (bts 8 27) 1 rfl (g_bld rfl rfl) ?_);refine jA 2 rfl ?_;(refine jO fun _=>?_);refine jS (bts 8 31) ?_;refine jT 0 [5,6,7] (bts 8 255) ?_;refine jQ ?_))
  rename_i y
  refine Nx.sealC (b:=y) fun G2 hG2 hsy=>?_
  refine jZ (vs:=[_,_,_]) rfl ⟨rfl,rfl,rfl,trivial⟩ rfl ⟨hG2,rfl,?_⟩
  rw [oneOf_three]
  exact ⟨_,_,_,rfl,fun _=>⟨_,y,rfl,rfl,.non k y hsy⟩,fun h=>(by cases h)⟩
 rw [if_neg h45]
 by_cases h43 : e.toNat = 43
 ·rw [if_pos h43]
  have cx_rd:=hR G k s h (kindIn_tail (.inr rfl) hk) oM
  rw [← edn] at cx_rd
  refine jB [(0,_),(1,_),(2,_),(3,_)] Tryz.func50 Tryz.ntmps50 fun B hok hB hW=>?_
  repeat' (first | refine jM ?_ | (refine jo ?_;first | refine jO fun _=>?_ | (refine jAf rfl ?_) | refine jV (g_bld rfl rfl) ?_ | refine jF fun _=>?_) | (refine k_gf rfl rfl rfl ?_) | (refine k_tt rfl rfl ?_) | (refine k_ff rfl (by first | rfl | (refine decide_eq_false ?_;(omega))) ?_) | (refine k_any (s_any (id:=13) _ (fun _ h=>h) mixed ?_);refine jW 9 [1,2,3,4,5,6] (bts 15 126) ?_;(refine jG (bts 15 127) 0 rfl (g_ldA rfl rfl rfl rfl) ?_);refine jA 7 rfl ?_;(refine c_fns rfl rfl rfl cx_rd rfl ?_;rintro _ G hle ⟨q1,r1,ok1,rfl,hyes,hno⟩;skip);refine jS (bts 15 255) ?_;refine jT 0 [8,9,10,11,12,13,14] (bts 15 32767) ?_;refine jQ ?_))
  rename_i y1 y8
  refine Nx.sealC (b:=y1) fun G2 hG2 hs1=>?_
  refine Nx.sealC (b:=y8) fun G3 hG3 hsg=>?_
  refine jZ (vs:=[_,_,_]) rfl ⟨rfl,rfl,rfl,trivial⟩ rfl ⟨((hle.trans hG2).trans hG3),rfl,?_⟩
  rw [oneOf_three]
  refine ⟨_,_,_,rfl,fun hb=>?_,fun hb=>by rw [hno hb];rfl⟩
  obtain ⟨w,wb,rfl,hf,hrep⟩:=hyes hb
  exact ⟨.nd 63 [] 0 [w],y8,rfl,by rw [hf];rfl,.opt k y8 y1 wb 1 w (Nat.le_refl _) hsg (hs1.mono hG3) (hrep.mono (hG2.trans hG3))⟩
 ·rw [if_neg h43]
  refine jB [(0,_),(1,_),(2,_),(3,_)] Tryz.func50 Tryz.ntmps50 fun B hok hB hW=>?_
  repeat' (first | refine jM ?_ | (refine jo ?_;first | refine jO fun _=>?_ | (refine jAf rfl ?_)) | (refine k_gf rfl rfl rfl ?_) | (refine k_tt rfl (by first | rfl | (refine decide_eq_true ?_;(omega))) ?_) | (refine k_ff rfl (by first | rfl | (refine decide_eq_false ?_;(omega))) ?_))
  refine jZ (vs:=[_,_,_]) rfl ⟨rfl,rfl,rfl,trivial⟩ rfl ⟨Gh.le.refl _,rfl,?_⟩
  rw [oneOf_three]
  exact ⟨_,_,_,rfl,fun h=>(by cases h),fun _=>rfl⟩
theorem c_readA {n : Nat} {u : Value} {vs : List TyX} {k s : List UInt8} {e : UInt8} {t : Ty} (hR : ReadC n u vs) (h : SchR G u vs) (hw : SchW (tys vs)) (hk : kindIn (tys vs) k = true) (hrf : refT (tys vs) k = some t) (hs : s.length ≤ 1999999) (hn : n ≤ 999) :
  FnS Tryz.prog 50 [Ag [u],S (e :: s),S k,I (n + 1 : Nat)] G (ReadP (tys vs) (rd (tys vs) (n + 1) k (e :: s)) k):=by
 obtain ⟨r,rfl⟩:=refT_64 hrf
 have hkk:=kindOk_kOk (kindIn_ok hk)
 have hrd : rd (tys vs) (n + 1) (64 :: r) (e :: s) = rdTyped (tys vs) (rd (tys vs) n) t (e :: s):=by
  rw [rd];unfold rdK
  dsimp only
  rw [if_neg (show ¬ (64 : UInt8).toNat = 91 by decide),if_neg (show ¬ (64 : UInt8).toNat = 63 by decide),hrf]
 have hvl : vs.length ≤ 8:=by have:=hw.len;unfold tys at this;simpa using this
 have href:=refV_ty vs (64 :: r)
 have cx_rf:=c_ref (k:=64 :: r) h oM hkk.1 oM
 rcases hr : refV vs (64 :: r) with _ | x
 ·rw [hr,hrf] at href;cases href
 rw [hr] at href cx_rf
 have htx : x.2 = t:=by rw [hrf] at href;exact Option.some.inj href
 subst htx
 have hx:=refV_mem hr
 have cx_na : FnS Tryz.prog 84 [Ag [u],S (e :: s),S (64 :: r),I (n + 1 : Nat)] G (ReadP (tys vs) (rdTyped (tys vs) (rd (tys vs) n) x.2 (e :: s)) (64 :: r)):=by
  have hso:=(hw.ty _ (List.mem_map_of_mem hx)).sort
  by_cases h1 : x.2.sort = 82 ∧ e.toNat = 123
  ·obtain rfl:=u8_eq h1.2 dC
   exact c_namR hR h hw hx hrf cx_rf h1.1 hs oM oM
  by_cases h2 : x.2.sort = 69 ∧ e.toNat = 35
  ·obtain rfl:=u8_eq h2.2 dC
   exact c_namE h hw hx hrf cx_rf h2.1 hs oM
  by_cases h3 : x.2.sort = 85 ∧ e.toNat = 60
  ·obtain rfl:=u8_eq h3.2 dC
   exact c_namU hR h hw hx hrf cx_rf h3.1 hs oM
  refine c_namX h.sl.one cx_rf ?_ oM oM
  rcases hso with h4 | h4 | h4 <;> omega
 have hel : (e :: s).length = s.length + 1:=rfl
 have hk0 : bt (64 :: r) (Int.toNat 0) = 64:=bt_zero 64 r
 have hkl2 : (64 :: r).length = r.length + 1:=rfl
 refine jB [(0,_),(1,_),(2,_),(3,_)] Tryz.func50 Tryz.ntmps50 fun B hok hB hW=>?_
 repeat' (first | refine jM ?_ | (refine jo ?_;first | refine jO fun _=>?_ | (refine jAf rfl ?_) | refine jAm rfl ?_ | (refine c_fns rfl rfl rfl cx_na rfl ?_;rintro _ G hle ⟨q1,r1,ok1,rfl,hyes,hno⟩;skip)) | (refine k_gf rfl rfl rfl ?_) | (refine k_tt rfl rfl ?_) | (refine k_ff rfl rfl ?_))
 refine jZ (vs:=[_,_,_]) rfl ⟨rfl,rfl,rfl,trivial⟩ rfl ⟨hle,rfl,?_⟩
 rw [oneOf_three,hrd]
 exact ⟨_,_,_,rfl,hyes,hno⟩
theorem c_readP {n : Nat} {u : Value} {vs : List TyX} {s : List UInt8} {c e : UInt8} (hu : u.oneCell' = true) (hc : c = 110 ∨ c = 116 ∨ c = 102) (hr : refT (tys vs) [c] = none) (hs : s.length ≤ 1999999) (hn : n ≤ 999) :
  FnS Tryz.prog 50 [Ag [u],S (e :: s),S [c],I (n + 1 : Nat)] G (ReadP (tys vs) (rd (tys vs) (n + 1) [c] (e :: s)) [c]):=by
 have hrd:=rd_plain (ts:=tys vs) (n:=n) (s:=e :: s) hc hr
 have hel : (e :: s).length = s.length + 1:=rfl
 have cx_pl : FnS Tryz.prog 85 [Ag [u],S (e :: s),S [c]] G (ReadP (tys vs) (rd (tys vs) (n + 1) [c] (e :: s)) [c]):=by
  rw [hrd]
  rcases hc with rfl | rfl | rfl
  ·rw [if_pos rfl];exact c_plainN hu oM
  ·rw [if_neg dC,if_pos rfl];exact c_plainT hu oM (by simp)
  ·rw [if_neg dC,if_neg dC];exact c_plainF hu oM
 clear hrd
 rcases hc with rfl | rfl | rfl
 all_goals
  refine jB [(0,_),(1,_),(2,_),(3,_)] Tryz.func50 Tryz.ntmps50 fun B hok hB hW=>?_
  repeat' (first | (refine jX ?_) | (refine jo ?_;first | refine jO fun _=>?_ | (refine jAf rfl ?_) | refine jAm rfl ?_ | (refine c_fns rfl rfl rfl cx_pl rfl ?_;rintro _ G hle ⟨q1,r1,ok1,rfl,hyes,hno⟩;skip)) | (refine k_gf rfl rfl rfl ?_) | (refine k_ff rfl rfl ?_))
  refine jZ (vs:=[_,_,_]) rfl ⟨rfl,rfl,rfl,trivial⟩ rfl ⟨hle,rfl,?_⟩
  rw [oneOf_three]
  exact ⟨_,_,_,rfl,hyes,hno⟩
theorem readC_all {u : Value} {vs : List TyX} (hw : SchW (tys vs)) : ∀ n,n ≤ 1000 → ReadC n u vs
 | 0,_=>fun G k s _ _ _=>c_read0 (.inr rfl) oM
 | n + 1,hn=>fun G k s h hk hs=>by
  have hR:=readC_all (u:=u) (vs:=vs) hw n oM
  match s,hs with
  | [],_=>exact c_read0 (.inl rfl) hn
  | e :: s,hs =>
   simp only [List.length_cons] at hs
   match k,hk with
   | [],hk=>cases hk
   | c :: k,hk =>
    by_cases h1 : c.toNat = 91
    ·obtain rfl:=u8_eq h1 dC
     exact c_readL hR h hk oM oM
    by_cases h2 : c.toNat = 63
    ·obtain rfl:=u8_eq h2 dC
     exact c_readO hR h hk oM oM
    have h91 : ¬ (c.toNat = 91 ∨ c.toNat = 63):=fun h=>by rcases h with h | h <;> omega
    cases hr : refT (tys vs) (c :: k) with
    | some t=>exact c_readA hR h hw hk hr oM oM
    | none =>
     rcases plain_kinds hk h91 hr with e1 | e1 | e1
     all_goals
      simp only [List.cons.injEq] at e1
      obtain ⟨rfl,rfl⟩:=e1
      exact c_readP h.sl.one (by simp) hr oM oM
theorem c_l4Of0 {s k w : List UInt8} (h : s.length ≤ 1048576 ∧ k.length ≤ 1048576 ∧ w.length ≤ 1048576) (hno : givenV s k w = none) : FnS Tryz.prog 36 [S s,S k,S w] G (fun v _=>∃ u q,v = Tu [u,.pointer q,Bo false]):=by
 by_cases hk : kindS s k = true
 case neg =>
  have hk2 : kindS s k = false:=by simpa using hk
  have cx_lk1 : ∀ G,FnS Tryz.prog 60 [S s,S k] G (fun v _=>∃ u,v = Tu [u,Bo false]):=fun G=>by
   refine (c_l3Kind (G:=G) (s:=s) (k:=k) oM oM).mono ?_
   rintro v G' L' ⟨h1,h2,u,vs,rfl,_⟩
   exact ⟨h1,h2,u,by rw [hk2]⟩
  refine jB [(0,_),(1,_),(2,_)] Tryz.func36 Tryz.ntmps36 fun B hok hB hW=>?_
  repeat' (first | (refine jR ?_) | (refine jo ?_;first | (refine jAt rfl ?_) | (refine c_fns rfl rfl rfl (cx_lk1 _) rfl ?_;rintro _ G hle ⟨u1,rfl⟩;skip)) | (refine k_gt rfl rfl rfl ?_) | (refine k_tt rfl rfl ?_))
  all_goals refine jZ (vs:=[_,_,_]) rfl ⟨rfl,rfl,rfl,trivial⟩ rfl ⟨hle,rfl,?_⟩
  all_goals exact ⟨_,_,rfl⟩
 obtain ⟨ts,hs,hki,hw⟩:=kindS_some2 hk
 have hvo : valOf ts k w = none:=by unfold givenV at hno;rw [hs] at hno;dsimp only at hno;rwa [if_pos hki] at hno
 have cx_lka : ∀ G,FnS Tryz.prog 60 [S s,S k] G (fun v G'=>∃ a c vs,v = Tu [.slice a vs.length c,Bo true] ∧ SchR G' (.slice a vs.length c) vs ∧ tys vs = ts):=fun G=>by
  refine (c_l3Kind (G:=G) (s:=s) (k:=k) oM oM).mono ?_
  rintro v G' L' ⟨h1,h2,u,vs,rfl,h4,_,h6⟩
  obtain ⟨_,⟨rfl,h0⟩ | ⟨b,o,cap,rfl,_,_⟩⟩:=h4.sl
  ·exact ⟨h1,h2,none,0,vs,by rw [hk,h0],by rw [h0];exact h4,h6 ts hs hki⟩
  ·exact ⟨h1,h2,_,cap,vs,by rw [hk],h4,h6 ts hs hki⟩
 by_cases hl : w.length ≤ 400
 case neg =>
  refine jB [(0,_),(1,_),(2,_)] Tryz.func36 Tryz.ntmps36 fun B hok hB hW=>?_
  repeat' (first | (refine jR ?_) | (refine jo ?_;first | (refine jAf rfl ?_) | (refine c_fns rfl rfl rfl (cx_lka _) rfl ?_;rintro _ G hle ⟨av1,cv1,vs1,rfl,hR1,hT1⟩;skip)) | (refine k_gf rfl rfl rfl ?_) | (refine k_tt rfl (dTt oM) ?_))
  all_goals refine jZ (vs:=[_,_,_]) rfl ⟨rfl,rfl,rfl,trivial⟩ rfl ⟨hle,rfl,?_⟩
  all_goals exact ⟨_,_,rfl⟩
 refine jB [(0,_),(1,_),(2,_)] Tryz.func36 Tryz.ntmps36 fun B hok hB hW=>?_
 repeat' (first | (refine jR ?_) | (refine jo ?_;first | (refine jAf rfl ?_) | refine jV (g_bld rfl rfl) ?_ | (refine c_fns rfl rfl rfl (cx_lka _) rfl ?_;rintro _ G hle ⟨av1,cv1,vs1,rfl,hR1,hT1⟩;skip)) | (refine k_gf rfl rfl rfl ?_) | (refine k_ff rfl (dFf oM) ?_))
 have hR:=readC_all (u:=.slice av1 vs1.length cv1) (vs:=vs1) (by rw [hT1];exact hw) 12 oM G k w hR1 (by rw [hT1];exact hki) oM
 obtain ⟨f,hf⟩ : ∃ f,f = rd (tys vs1) 12 k w:=⟨_,rfl⟩
 rw [← hf] at hR
 have cx_rd:=hR
 clear hR
 repeat' (first | (refine jR ?_) | (refine jo ?_;first | (refine jAt rfl ?_) | (refine jAf rfl ?_) | (refine c_fns rfl rfl rfl cx_rd rfl ?_;rintro _ G hle ⟨q1,r1,ok1,rfl,hyes,hno⟩;skip)) | refine k_gb rfl rfl (fun _=>?_) (fun _=>?_))
 all_goals rename_i hok
 ·have hr : decide (r1 = []) = false:=decide_eq_false fun h=>by
   obtain ⟨v,b,_,h2,_⟩:=hyes hok
   unfold valOf at hvo
   rw [if_pos hl,← hT1,← hf,h2,h] at hvo
   cases hvo
  refine jZ (vs:=[_,_,_]) rfl ⟨rfl,rfl,rfl,trivial⟩ rfl ⟨(Gh.le.trans aS hle),rfl,?_⟩
  exact ⟨_,_,by rw [hr];rfl⟩
 ·refine jZ (vs:=[_,_,_]) rfl ⟨rfl,rfl,rfl,trivial⟩ rfl ⟨(Gh.le.trans aS hle),rfl,?_⟩
  exact ⟨_,_,rfl⟩
theorem c_l4Of1 {s k w : List UInt8} {v : V} {ts : List Ty} (h : s.length ≤ 1048576 ∧ k.length ≤ 1048576 ∧ w.length ≤ 1048576) (hs : schemaOf s = some ts) (hki : kindIn ts k = true) (hvo : valOf ts k w = some v) :
  FnS Tryz.prog 36 [S s,S k,S w] G (fun r G'=>∃ u b,r = Tu [u,Pt b 0,Bo true] ∧ RepR G' ts v k b):=by
 have hw:=schemaOf_w hs
 have hk : kindS s k = true:=by unfold kindS;rw [hs];exact hki
 have hl : w.length ≤ 400:=by
  by_cases hl : w.length ≤ 400
  ·exact hl
  ·unfold valOf at hvo;rw [if_neg hl] at hvo;cases hvo
 have h12 : rd ts 12 k w = some (v,[]):=by
  unfold valOf at hvo
  rw [if_pos hl] at hvo
  split at hvo
  ·rename_i v' hv;rw [hv];exact congrArg (fun x=>some (x,[])) (Option.some.inj hvo)
  ·cases hvo
 have cx_lka : ∀ G,FnS Tryz.prog 60 [S s,S k] G (fun v G'=>∃ a c vs,v = Tu [.slice a vs.length c,Bo true] ∧ SchR G' (.slice a vs.length c) vs ∧ tys vs = ts):=fun G=>by
  refine (c_l3Kind (G:=G) (s:=s) (k:=k) oM oM).mono ?_
  rintro v G' L' ⟨h1,h2,u,vs,rfl,h4,_,h6⟩
  obtain ⟨_,⟨rfl,h0⟩ | ⟨b,o,cap,rfl,_,_⟩⟩:=h4.sl
  ·exact ⟨h1,h2,none,0,vs,by rw [hk,h0],by rw [h0];exact h4,h6 ts hs hki⟩
  ·exact ⟨h1,h2,_,cap,vs,by rw [hk],h4,h6 ts hs hki⟩
 refine jB [(0,_),(1,_),(2,_)] Tryz.func36 Tryz.ntmps36 fun B hok hB hW=>?_
 repeat' (first | (refine jR ?_) | (refine jo ?_;first | (refine jAf rfl ?_) | refine jV (g_bld rfl rfl) ?_ | (refine c_fns rfl rfl rfl (cx_lka _) rfl ?_;rintro _ G hle ⟨av1,cv1,vs1,rfl,hR1,hT1⟩;skip)) | (refine k_gf rfl rfl rfl ?_) | (refine k_ff rfl (dFf oM) ?_))
 subst hT1
 have cx_rd : FnS Tryz.prog 50 [Ag [.slice av1 vs1.length cv1],S w,S k,I (12 : Nat)] G (fun r G'=>∃ b,r = Tu [Pt b 0,S [],Bo true] ∧ RepR G' (tys vs1) v k b):=by
  refine (readC_all (u:=.slice av1 vs1.length cv1) (vs:=vs1) hw 12 oM G k w hR1 hki oM).mono ?_
  rintro r G' L' ⟨h1,h2,q,rest,ok,rfl,h3,h4⟩
  cases ok with
  | false=>rw [h12] at h4;cases h4 rfl
  | true =>
   obtain ⟨v',b,rfl,h5,h6⟩:=h3 rfl
   rw [h12] at h5
   simp only [Option.some.injEq,Prod.mk.injEq] at h5
   obtain ⟨rfl,rfl⟩:=h5
   exact ⟨h1,h2,b,rfl,h6⟩
 refine jo ?_
 refine c_fns rfl rfl rfl cx_rd rfl ?_
 rintro _ G2 hle2 ⟨b,rfl,hrep⟩
 repeat' (first | (refine jR ?_) | (refine jo ?_;(refine jAt rfl ?_)) | (refine k_gt rfl rfl rfl ?_))
 refine jZ (vs:=[_,_,_]) rfl ⟨rfl,rfl,rfl,trivial⟩ rfl ⟨(Gh.le.trans hle hle2),rfl,?_⟩
 exact ⟨_,b,rfl,hrep⟩
end Go.E
namespace Go.E
set_option maxRecDepth 20000
set_option maxHeartbeats 2000000
def wfW (w : Nat) (x : List UInt8) (t : Int) (ks : List V) : Prop :=
 (w = 110 ∧ ks = [] ∧ t = 0 ∧ ∃ n : Int,0 ≤ n ∧ n ≤ 999999 ∧ x = decI n ∧ numOf x 999999 = some n)
 ∨ (w = 116 ∧ ks = [] ∧ t = 0 ∧ isTx (39 :: (x ++ [39])) = true)
 ∨ (w = 102 ∧ ks = [] ∧ t = 0 ∧ (x = [121,101,115] ∨ x = [110,111]))
 ∨ (w = 91 ∧ x = [] ∧ t = 0 ∧ ks.length ≤ 20 ∧ ∀ v ∈ ks,v.what ≠ 61)
 ∨ (w = 63 ∧ x = [] ∧ t = 0 ∧ ks.length ≤ 1 ∧ ∀ v ∈ ks,v.what ≠ 61)
 ∨ (w = 69 ∧ x = [] ∧ 0 ≤ t ∧ t ≤ 200 ∧ ks = [])
 ∨ (w = 85 ∧ x = [] ∧ 0 ≤ t ∧ t ≤ 200 ∧ ks.length = 1 ∧ ∀ v ∈ ks,v.what ≠ 61)
 ∨ (w = 61 ∧ x = [] ∧ 0 ≤ t ∧ t ≤ 200 ∧ ks.length = 1 ∧ ∀ v ∈ ks,v.what ≠ 61)
 ∨ (w = 82 ∧ x = [] ∧ t = 0 ∧ ks.Pairwise (fun a b=>a.tag < b.tag) ∧ ∀ v ∈ ks,v.what = 61)
mutual
def V.wf : V → Prop
 | .nd w x t ks=>wfW w x t ks ∧ V.wfs ks
def V.wfs : List V → Prop
 | []=>True
 | v :: r=>V.wf v ∧ V.wfs r
end
theorem wfs_iff : ∀ {ks : List V},V.wfs ks ↔ ∀ v ∈ ks,v.wf
 | []=>by simp [V.wfs]
 | v :: r=>by rw [V.wfs,wfs_iff (ks:=r)];simp
theorem digF_n0 : ∀ (s : List UInt8) {n m : Int},0 ≤ n → digF n s = some m → 0 ≤ m
 | [],n,m,h,e=>by simp only [digF,Option.some.injEq] at e;omega
 | c :: s,n,m,h,e=>by
  unfold digF at e
  split at e
  ·exact digF_n0 s oM e
  ·cases e
theorem numOf_nn {s : List UInt8} {top n : Int} (h : numOf s top = some n) : 0 ≤ n:=by
 unfold numOf at h
 split at h
 ·split at h
  ·split at h
   ·rename_i h1 _ _ _ h2;simp only [Option.some.injEq] at h;subst h;exact digF_n0 _ (Int.le_refl 0) aS
   ·cases h
  ·cases h
 ·cases h
theorem rdNum_wf {top : Int} {s r : List UInt8} {n : Int} (h : rdNum top s = some (n,r)) : 0 ≤ n ∧ n ≤ top ∧ numOf (decI n) top = some n:=by
 unfold rdNum at h
 cases hn : numOf (s.takeWhile isDg) top with
 | none=>rw [hn] at h;cases h
 | some m =>
  rw [hn] at h
  simp only [Option.map_some,Option.some.injEq,Prod.mk.injEq] at h
  obtain ⟨rfl,_⟩:=h
  obtain ⟨h1,h2,_⟩:=numOf_le hn
  exact ⟨numOf_nn hn,h1,by rw [← h2];exact hn⟩
theorem rdItems_len {f : List UInt8 → Option (V × List UInt8)} : ∀ (m : Nat) (s : List UInt8) (acc : List V) {x : List V × List UInt8},rdItems f m s acc = some x → x.1.length ≤ acc.length + m
 | 0,_,_,_,e=>by cases e
 | m + 1,s,acc,x,e=>by
  unfold rdItems at e
  cases hf : f s with
  | none=>rw [hf] at e;cases e
  | some y =>
   rw [hf] at e
   obtain ⟨v,r⟩:=y
   cases r with
   | nil=>cases e
   | cons c r =>
    dsimp only at e
    split at e
    ·have:=rdItems_len m r _ e
     simp only [List.length_append,List.length_singleton] at this;omega
    ·split at e
     ·simp only [Option.some.injEq] at e;subst e
      simp only [List.length_append,List.length_singleton];omega
     ·cases e
theorem rdField_wf {f : List UInt8 → List UInt8 → Option (V × List UInt8)} {t : Ty} {s : List UInt8} {x : (Fld × V) × List UInt8} (e : rdField f t s = some x) : 0 ≤ x.1.1.tag ∧ x.1.1.tag ≤ 200:=by
 unfold rdField at e
 cases hn : rdNum 200 s with
 | none=>rw [hn] at e;cases e
 | some y =>
  rw [hn] at e
  obtain ⟨n,r⟩:=y
  have h1:=rdNum_wf hn
  dsimp only at e
  cases hd : fldT t.fields n with
  | none=>rw [hd] at e;cases e
  | some d =>
   rw [hd] at e
   have h2 : d.tag = n:=by have:=List.find?_some hd;simpa using this
   cases r with
   | nil=>cases e
   | cons c r' =>
    dsimp only at e
    by_cases hc : c.toNat = 61
    ·rw [if_pos hc] at e
     cases hf : f d.kind r' with
     | none=>rw [hf] at e;cases e
     | some y =>
      rw [hf] at e
      simp only [Option.map_some,Option.some.injEq] at e
      subst e
      dsimp only;omega
    ·rw [if_neg hc] at e;cases e
theorem rdFlds_wf {ts : List Ty} {f : List UInt8 → List UInt8 → Option (V × List UInt8)} (h : ∀ k s y,f k s = some y → y.1.wf ∧ y.1.what ≠ 61) {t : Ty} : ∀ (m : Nat) (last : Int) (s : List UInt8) (acc : List V) {x : List V × List UInt8},rdFlds ts f t m last s acc = some x → (∀ v ∈ acc,v.wf ∧ v.what = 61 ∧ v.tag ≤ last) → acc.Pairwise (fun a b=>a.tag < b.tag) → (∀ v ∈ x.1,v.wf ∧ v.what = 61) ∧ x.1.Pairwise (fun a b=>a.tag < b.tag)
 | 0,_,_,_,_,e,_,_=>by cases e
 | m + 1,last,s,acc,x,e,ha,hp=>by
  unfold rdFlds at e
  cases hf : rdField f t s with
  | none=>rw [hf] at e;cases e
  | some y =>
   rw [hf] at e
   obtain ⟨_,s',hy⟩:=rdField_inv hf
   have ht:=rdField_wf hf
   obtain ⟨⟨d,v⟩,r⟩:=y
   dsimp only at e hy ht
   obtain ⟨hv1,hv2⟩:=h _ _ _ hy
   dsimp only at hv1 hv2
   split at e
   ·cases e
   ·rename_i hd
    have hd' : last < d.tag:=oM
    have hw : V.wf (.nd 61 [] d.tag [v]):=by
     rw [V.wf]
     refine ⟨.inr (.inr (.inr (.inr (.inr (.inr (.inr (.inl ⟨rfl,rfl,ht.1,ht.2,rfl,?_⟩))))))),?_,trivial⟩
     ·intro u hu;simp only [List.mem_singleton] at hu;subst hu;exact hv2
     ·exact hv1
    have ha2 : ∀ u ∈ acc ++ [V.nd 61 [] d.tag [v]],u.wf ∧ u.what = 61 ∧ u.tag ≤ d.tag:=fun u hu=>by
     rcases List.mem_append.1 hu with hu | hu
     ·obtain ⟨a1,a2,a3⟩:=ha u hu;exact ⟨a1,a2,oM⟩
     ·simp only [List.mem_singleton] at hu;subst hu;exact ⟨hw,rfl,Int.le_refl _⟩
    have hp2 : (acc ++ [V.nd 61 [] d.tag [v]]).Pairwise (fun a b=>a.tag < b.tag):=by
     rw [List.pairwise_append]
     refine ⟨hp,List.pairwise_singleton _ _,fun a hA b hB=>?_⟩
     simp only [List.mem_singleton] at hB;subst hB
     have:=(ha a hA).2.2
     show a.tag < d.tag
     omega
    cases r with
    | nil=>cases e
    | cons c r =>
     dsimp only at e
     split at e
     ·exact rdFlds_wf h m _ r _ e ha2 hp2
     ·split at e
      ·simp only [Option.some.injEq] at e;subst e
       exact ⟨fun u hu=>⟨(ha2 u hu).1,(ha2 u hu).2.1⟩,hp2⟩
      ·cases e
theorem rd_wf {ts : List Ty} : ∀ (n : Nat) (k s : List UInt8) (x : V × List UInt8),rd ts n k s = some x → x.1.wf ∧ x.1.what ≠ 61
 | 0,_,_,_,e=>by cases e
 | n + 1,k,s,x,e=>by
  have ih : ∀ k s y,rd ts n k s = some y → y.1.wf ∧ y.1.what ≠ 61:=fun k s y hy=>rd_wf n k s y hy
  have h:=rdK_inv k s (x:=x) e
  obtain ⟨v,r⟩:=x
  dsimp only at h ⊢
  cases h with
  | lst0=>exact ⟨by rw [V.wf];exact ⟨.inr (.inr (.inr (.inl ⟨rfl,rfl,rfl,by simp,by simp⟩))),trivial⟩,by simp [V.what]⟩
  | lst k s r vs h =>
   have h1:=rdItems_len _ _ _ h
   have h2:=rdItems_all (p:=fun v=>v.wf ∧ v.what ≠ 61) (fun s y hy=>ih k s y hy) _ _ _ h (by simp)
   refine ⟨by rw [V.wf];exact ⟨.inr (.inr (.inr (.inl ⟨rfl,rfl,rfl,by simpa using h1,fun v hv=>(h2 v hv).2⟩))),wfs_iff.2 fun v hv=>(h2 v hv).1⟩,by simp [V.what]⟩
  | non=>exact ⟨by rw [V.wf];exact ⟨.inr (.inr (.inr (.inr (.inl ⟨rfl,rfl,rfl,by simp,by simp⟩)))),trivial⟩,by simp [V.what]⟩
  | opt k s r v h =>
   have h1:=ih _ _ _ h
   have h2 : ∀ u ∈ [v],u.what ≠ 61:=fun u hu=>by simp only [List.mem_singleton] at hu;subst hu;exact h1.2
   exact ⟨by rw [V.wf];exact ⟨.inr (.inr (.inr (.inr (.inl ⟨rfl,rfl,rfl,by simp,h2⟩)))),h1.1,trivial⟩,by simp [V.what]⟩
  | num k s r n _ h =>
   have h1:=rdNum_wf h
   exact ⟨by rw [V.wf];exact ⟨.inl ⟨rfl,rfl,rfl,n,h1.1,h1.2.1,rfl,h1.2.2⟩,trivial⟩,by simp [V.what]⟩
  | txt k s r v _ h =>
   unfold rdQuote at h
   split at h
   ·cases h
   ·split at h
    ·split at h
     ·split at h
      ·rename_i hx
       simp only [Option.some.injEq,Prod.mk.injEq] at h
       obtain ⟨rfl,_⟩:=h
       exact ⟨by rw [V.wf];exact ⟨.inr (.inl ⟨rfl,rfl,rfl,hx⟩),trivial⟩,by simp [V.what]⟩
      ·cases h
     ·cases h
    ·cases h
  | flg k s r v _ h =>
   unfold rdFlag at h
   split at h
   ·simp only [Option.some.injEq,Prod.mk.injEq] at h
    obtain ⟨rfl,_⟩:=h
    exact ⟨by rw [V.wf];exact ⟨.inr (.inr (.inl ⟨rfl,rfl,rfl,.inl rfl⟩)),trivial⟩,by simp [V.what]⟩
   ·split at h
    ·simp only [Option.some.injEq,Prod.mk.injEq] at h
     obtain ⟨rfl,_⟩:=h
     exact ⟨by rw [V.wf];exact ⟨.inr (.inr (.inl ⟨rfl,rfl,rfl,.inr rfl⟩)),trivial⟩,by simp [V.what]⟩
    ·cases h
  | recd0=>exact ⟨by rw [V.wf];exact ⟨.inr (.inr (.inr (.inr (.inr (.inr (.inr (.inr ⟨rfl,rfl,rfl,by simp,by simp⟩))))))),trivial⟩,by simp [V.what]⟩
  | recd k s r t vs _ _ h =>
   have h1:=rdFlds_wf ih _ _ _ _ h (by simp) (by simp)
   exact ⟨by rw [V.wf];exact ⟨.inr (.inr (.inr (.inr (.inr (.inr (.inr (.inr ⟨rfl,rfl,rfl,h1.2,fun v hv=>(h1.1 v hv).2⟩))))))),wfs_iff.2 fun v hv=>(h1.1 v hv).1⟩,by simp [V.what]⟩
  | enm k s r t n _ _ h _ =>
   have h1:=rdNum_wf h
   exact ⟨by rw [V.wf];exact ⟨.inr (.inr (.inr (.inr (.inr (.inl ⟨rfl,rfl,h1.1,h1.2.1,rfl⟩))))),trivial⟩,by simp [V.what]⟩
  | uni k s r t d v _ _ _ h =>
   obtain ⟨_,s',hy⟩:=rdField_inv h
   have ht:=rdField_wf h
   have h1:=ih _ _ _ hy
   have h2 : ∀ u ∈ [v],u.what ≠ 61:=fun u hu=>by simp only [List.mem_singleton] at hu;subst hu;exact h1.2
   exact ⟨by rw [V.wf];exact ⟨.inr (.inr (.inr (.inr (.inr (.inr (.inl ⟨rfl,rfl,ht.1,ht.2,rfl,h2⟩)))))),h1.1,trivial⟩,by simp [V.what]⟩
theorem valOf_wf {ts : List Ty} {k s : List UInt8} {v : V} (h : valOf ts k s = some v) : v.wf ∧ v.what ≠ 61:=by
 unfold valOf at h
 split at h
 ·split at h
  ·rename_i hr
   simp only [Option.some.injEq] at h;subst h
   exact rd_wf _ _ _ _ hr
  ·cases h
 ·cases h
abbrev fldV (p : Fld × V) : V:=.nd 61 [] p.1.tag [p.2]
inductive OfK (ts : List Ty) : List UInt8 → V → Prop
 | num (k : List UInt8) (n : Int) : 0 ≤ n → n ≤ 999999 → OfK ts (110 :: k) (.nd 110 (decI n) 0 [])
 | txt (k x : List UInt8) : isTx (39 :: (x ++ [39])) = true → OfK ts (116 :: k) (.nd 116 x 0 [])
 | flg (k x : List UInt8) : x = [121,101,115] ∨ x = [110,111] → OfK ts (102 :: k) (.nd 102 x 0 [])
 | lst (k : List UInt8) (ks : List V) : ks.length ≤ 20 → (∀ v ∈ ks,OfK ts k v) → OfK ts (91 :: k) (.nd 91 [] 0 ks)
 | non (k : List UInt8) : OfK ts (63 :: k) (.nd 63 [] 0 [])
 | opt (k : List UInt8) (v : V) : OfK ts k v → OfK ts (63 :: k) (.nd 63 [] 0 [v])
 | recd (k : List UInt8) (t : Ty) (fs : List (Fld × V)) : refT ts k = some t → t.sort = 82 → (∀ p ∈ fs,p.1 ∈ t.fields) → (∀ p ∈ fs,OfK ts p.1.kind p.2) → (∀ p ∈ fs,p.2.out ≠ standF ts p.1) → fs.Pairwise (fun a b=>a.1.tag < b.1.tag) → OfK ts k (.nd 82 [] 0 (fs.map fldV))
 | enm (k : List UInt8) (t : Ty) (d : Fld) : refT ts k = some t → t.sort = 69 → d ∈ t.fields → OfK ts k (.nd 69 [] d.tag [])
 | uni (k : List UInt8) (t : Ty) (d : Fld) (v : V) : refT ts k = some t → t.sort ≠ 82 → t.sort ≠ 69 → d ∈ t.fields → OfK ts d.kind v → OfK ts k (.nd 85 [] d.tag [v])
theorem rdFlds_of {ts : List Ty} {f : List UInt8 → List UInt8 → Option (V × List UInt8)} (h : ∀ k s y,f k s = some y → OfK ts k y.1) {t : Ty} : ∀ (m : Nat) (last : Int) (s : List UInt8) (fs : List (Fld × V)) {x : List V × List UInt8},rdFlds ts f t m last s (fs.map fldV) = some x → (∀ p ∈ fs,p.1 ∈ t.fields ∧ OfK ts p.1.kind p.2 ∧ p.2.out ≠ standF ts p.1 ∧ p.1.tag ≤ last) → fs.Pairwise (fun a b=>a.1.tag < b.1.tag) →
  ∃ gs : List (Fld × V),x.1 = gs.map fldV ∧ (∀ p ∈ gs,p.1 ∈ t.fields ∧ OfK ts p.1.kind p.2 ∧ p.2.out ≠ standF ts p.1) ∧ gs.Pairwise (fun a b=>a.1.tag < b.1.tag)
 | 0,_,_,_,_,e,_,_=>by cases e
 | m + 1,last,s,fs,x,e,ha,hp=>by
  unfold rdFlds at e
  cases hf : rdField f t s with
  | none=>rw [hf] at e;cases e
  | some y =>
   rw [hf] at e
   obtain ⟨hd1,s',hy⟩:=rdField_inv hf
   obtain ⟨⟨d,v⟩,r⟩:=y
   dsimp only at e hy hd1
   have hv:=h _ _ _ hy
   dsimp only at hv
   split at e
   ·cases e
   ·rename_i hd
    have hd' : last < d.tag:=oM
    have hne : v.out ≠ standF ts d:=fun h=>hd (.inr h)
    have e2 : fs.map fldV ++ [V.nd 61 [] d.tag [v]] = (fs ++ [(d,v)]).map fldV:=by simp
    have ha2 : ∀ p ∈ fs ++ [(d,v)],p.1 ∈ t.fields ∧ OfK ts p.1.kind p.2 ∧ p.2.out ≠ standF ts p.1 ∧ p.1.tag ≤ d.tag:=fun p hu=>by
     rcases List.mem_append.1 hu with hu | hu
     ·obtain ⟨a1,a2,a3,a4⟩:=ha p hu;exact ⟨a1,a2,a3,oM⟩
     ·simp only [List.mem_singleton] at hu;subst hu;exact ⟨hd1,hv,hne,Int.le_refl _⟩
    have hp2 : (fs ++ [(d,v)]).Pairwise (fun a b=>a.1.tag < b.1.tag):=by
     rw [List.pairwise_append]
     refine ⟨hp,List.pairwise_singleton _ _,fun a hA b hB=>?_⟩
     simp only [List.mem_singleton] at hB;subst hB
     have:=(ha a hA).2.2.2
     show a.1.tag < d.tag
     omega
    rw [e2] at e
    cases r with
    | nil=>cases e
    | cons c r =>
     dsimp only at e
     split at e
     ·exact rdFlds_of h m _ r _ e ha2 hp2
     ·split at e
      ·simp only [Option.some.injEq] at e;subst e
       exact ⟨_,rfl,fun p hp=>⟨(ha2 p hp).1,(ha2 p hp).2.1,(ha2 p hp).2.2.1⟩,hp2⟩
      ·cases e
theorem rd_of {ts : List Ty} : ∀ (n : Nat) (k s : List UInt8) (x : V × List UInt8),rd ts n k s = some x → OfK ts k x.1
 | 0,_,_,_,e=>by cases e
 | n + 1,k,s,x,e=>by
  have ih : ∀ k s y,rd ts n k s = some y → OfK ts k y.1:=fun k s y hy=>rd_of n k s y hy
  have h:=rdK_inv k s (x:=x) e
  obtain ⟨v,r⟩:=x
  dsimp only at h ⊢
  cases h with
  | lst0=>exact .lst _ _ (by simp) (by simp)
  | lst k s r vs h =>
   have h1:=rdItems_len _ _ _ h
   exact .lst _ _ (by simpa using h1) (rdItems_all (p:=fun v=>OfK ts k v) (fun s y hy=>ih k s y hy) _ _ _ h (by simp))
  | non=>exact .non _
  | opt k s r v h=>exact .opt _ _ (ih _ _ _ h)
  | num k s r n _ h=>have h1:=rdNum_wf h;exact .num _ _ h1.1 h1.2.1
  | txt k s r v _ h =>
   unfold rdQuote at h
   split at h
   ·cases h
   ·split at h
    ·split at h
     ·split at h
      ·rename_i hx
       simp only [Option.some.injEq,Prod.mk.injEq] at h
       obtain ⟨rfl,_⟩:=h
       exact .txt _ _ hx
      ·cases h
     ·cases h
    ·cases h
  | flg k s r v _ h =>
   unfold rdFlag at h
   split at h
   ·simp only [Option.some.injEq,Prod.mk.injEq] at h
    obtain ⟨rfl,_⟩:=h
    exact .flg _ _ (.inl rfl)
   ·split at h
    ·simp only [Option.some.injEq,Prod.mk.injEq] at h
     obtain ⟨rfl,_⟩:=h
     exact .flg _ _ (.inr rfl)
    ·cases h
  | recd0 k r t h1 h2=>exact .recd _ t [] h1 h2 (by simp) (by simp) (by simp) (by simp)
  | recd k s r t vs h1 h2 h =>
   obtain ⟨gs,e1,e2,e3⟩:=rdFlds_of (fs:=[]) ih _ _ _ h (by simp) (by simp)
   dsimp only at e1
   subst e1
   exact .recd _ t gs h1 h2 (fun p hp=>(e2 p hp).1) (fun p hp=>(e2 p hp).2.1) (fun p hp=>(e2 p hp).2.2) e3
  | enm k s r t n h1 h2 h h3 =>
   obtain ⟨d,hd⟩:=Option.isSome_iff_exists.1 h3
   have hdt : d.tag = n:=by have:=List.find?_some hd;simpa using this
   rw [← hdt]
   exact .enm _ t d h1 h2 (List.mem_of_find?_eq_some hd)
  | uni k s r t d v h1 h2 h3 h =>
   obtain ⟨a1,s',hy⟩:=rdField_inv h
   exact .uni _ t d v h1 h2 h3 a1 (ih _ _ _ hy)
theorem valOf_of_k {ts : List Ty} {k s : List UInt8} {v : V} (h : valOf ts k s = some v) : OfK ts k v:=by
 unfold valOf at h
 split at h
 ·split at h
  ·rename_i hr
   simp only [Option.some.injEq] at h;subst h
   exact rd_of _ _ _ _ hr
  ·cases h
 ·cases h
theorem fld_tag {t : Ty} (hw : TyW t) {d d' : Fld} (h1 : d ∈ t.fields) (h2 : d' ∈ t.fields) (he : d.tag = d'.tag) : d = d':=by
 have hp:=hw.asc
 obtain ⟨i,hi,rfl⟩:=List.mem_iff_getElem.1 h1
 obtain ⟨j,hj,rfl⟩:=List.mem_iff_getElem.1 h2
 rw [List.pairwise_iff_getElem] at hp
 rcases Nat.lt_trichotomy i j with h | h | h
 ·have:=(hp i j hi hj h).1;omega
 ·subst h;rfl
 ·have:=(hp j i hj hi h).1;omega
theorem refT_no {ts : List Ty} {k : List UInt8} {t : Ty} {c : UInt8} {r : List UInt8} (h : refT ts k = some t) (hk : k = c :: r) (hc : c.toNat ≠ 64) : False:=by
 subst hk
 have : refN (c :: r) = none:=by unfold refN;exact if_neg hc
 unfold refT at h
 rw [this] at h
 cases h
theorem ofK_inv_t {ts : List Ty} {k : List UInt8} {u : V} {t : Ty} (h : OfK ts k u) (hr : refT ts k = some t) :
  (t.sort = 82 ∧ ∃ fs : List (Fld × V),u = .nd 82 [] 0 (fs.map fldV) ∧ (∀ p ∈ fs,p.1 ∈ t.fields) ∧ (∀ p ∈ fs,OfK ts p.1.kind p.2) ∧ (∀ p ∈ fs,p.2.out ≠ standF ts p.1) ∧ fs.Pairwise (fun a b=>a.1.tag < b.1.tag))
  ∨ (t.sort = 69 ∧ ∃ d,u = .nd 69 [] d.tag [] ∧ d ∈ t.fields) ∨ (t.sort ≠ 82 ∧ t.sort ≠ 69 ∧ ∃ d v,u = .nd 85 [] d.tag [v] ∧ d ∈ t.fields ∧ OfK ts d.kind v):=by
 cases h with
 | num=>exact (refT_no hr rfl dC).elim
 | txt=>exact (refT_no hr rfl dC).elim
 | flg=>exact (refT_no hr rfl dC).elim
 | lst=>exact (refT_no hr rfl dC).elim
 | non=>exact (refT_no hr rfl dC).elim
 | opt=>exact (refT_no hr rfl dC).elim
 | recd _ t' fs g1 g2 g3 g4 g5 g6=>rw [hr] at g1;obtain rfl:=Option.some.inj g1;exact .inl ⟨g2,fs,rfl,g3,g4,g5,g6⟩
 | enm _ t' d g1 g2 g3=>rw [hr] at g1;obtain rfl:=Option.some.inj g1;exact .inr (.inl ⟨g2,d,rfl,g3⟩)
 | uni _ t' d v g1 g2 g3 g4 g5=>rw [hr] at g1;obtain rfl:=Option.some.inj g1;exact .inr (.inr ⟨g2,g3,d,v,rfl,g4,g5⟩)
theorem ofK_inv_c {ts : List Ty} {c : UInt8} {k : List UInt8} {u : V} (h : OfK ts (c :: k) u) (hc : c.toNat ≠ 64) :
  (c.toNat = 110 ∧ ∃ n : Int,0 ≤ n ∧ n ≤ 999999 ∧ u = .nd 110 (decI n) 0 []) ∨ (c.toNat = 116 ∧ ∃ x,isTx (39 :: (x ++ [39])) = true ∧ u = .nd 116 x 0 []) ∨ (c.toNat = 102 ∧ ∃ x,(x = [121,101,115] ∨ x = [110,111]) ∧ u = .nd 102 x 0 [])
  ∨ (c.toNat = 91 ∧ ∃ ks,ks.length ≤ 20 ∧ (∀ v ∈ ks,OfK ts k v) ∧ u = .nd 91 [] 0 ks) ∨ (c.toNat = 63 ∧ (u = .nd 63 [] 0 [] ∨ ∃ v,OfK ts k v ∧ u = .nd 63 [] 0 [v])):=by
 generalize hk : c :: k = k' at h
 cases h with
 | num k n h1 h2=>injection hk with e1 e2;subst e1;exact .inl ⟨rfl,n,h1,h2,rfl⟩
 | txt k x h1=>injection hk with e1 e2;subst e1;exact .inr (.inl ⟨rfl,x,h1,rfl⟩)
 | flg k x h1=>injection hk with e1 e2;subst e1;exact .inr (.inr (.inl ⟨rfl,x,h1,rfl⟩))
 | lst k ks h1 h2=>injection hk with e1 e2;subst e1;subst e2;exact .inr (.inr (.inr (.inl ⟨rfl,ks,h1,h2,rfl⟩)))
 | non k=>injection hk with e1 e2;subst e1;exact .inr (.inr (.inr (.inr ⟨rfl,.inl rfl⟩)))
 | opt k v h1=>injection hk with e1 e2;subst e1;subst e2;exact .inr (.inr (.inr (.inr ⟨rfl,.inr ⟨v,h1,rfl⟩⟩)))
 | recd _ t' fs g1=>exact (refT_no g1 hk.symm hc).elim
 | enm _ t' d g1=>exact (refT_no g1 hk.symm hc).elim
 | uni _ t' d v g1=>exact (refT_no g1 hk.symm hc).elim
end Go.E
namespace Go.E
set_option maxRecDepth 20000
set_option maxHeartbeats 2000000
open Go.Proofs
variable {G : Gh}
theorem given_some {s k w : List UInt8} {u : V} (hg : givenV s k w = some u) : ∃ ts,schemaOf s = some ts ∧ kindIn ts k = true ∧ valOf ts k w = some u ∧ u.tot ≤ 40000 ∧ u.wf:=by
 obtain ⟨ts,hs,hki,hvo⟩ : ∃ ts,schemaOf s = some ts ∧ kindIn ts k = true ∧ valOf ts k w = some u:=by
  unfold givenV at hg
  cases hs : schemaOf s with
  | none=>rw [hs] at hg;cases hg
  | some ts =>
   rw [hs] at hg
   dsimp only at hg
   by_cases hk : kindIn ts k = true
   ·rw [if_pos hk] at hg;exact ⟨ts,rfl,hk,hg⟩
   ·rw [if_neg hk] at hg;cases hg
 refine ⟨ts,hs,hki,hvo,?_,(valOf_wf hvo).1⟩
 unfold valOf at hvo
 split at hvo
 ·split at hvo
  ·rename_i v hv
   obtain rfl:=Option.some.inj hvo
   have:=rd_tot _ _ _ _ hv
   dsimp only at this;omega
  ·cases hvo
 ·cases hvo
end Go.E
namespace Go.E
set_option maxRecDepth 20000
set_option maxHeartbeats 2000000
def keyW (w : Nat) (x : List UInt8) (t : Int) (js : List (List UInt8)) : List UInt8 :=
 if w = 110 then [u8 ((numOf x 999999).getD 0 / 65536),u8 ((numOf x 999999).getD 0 / 256),u8 ((numOf x 999999).getD 0)] else if w = 116 then x ++ [0] else if w = 102 then (if x = [121,101,115] then [1] else [0]) else if w = 69 then [u8 t]
 else if w = 63 ∧ js = [] then [0] else if w = 85 ∨ w = 61 then u8 t :: js.flatten else if w = 63 then (js.map (1 :: ·)).flatten else (js.map (1 :: ·)).flatten ++ [0]
mutual
def V.key : V → List UInt8
 | .nd w x t ks=>keyW w x t (V.keys ks)
def V.keys : List V → List (List UInt8)
 | []=>[]
 | v :: r=>V.key v :: V.keys r
end
theorem u8_dgA {i : Int} (h : 0 ≤ i ∧ i ≤ 9) : (u8 (48 + i)).toNat = (48 + i).toNat:=by have:=u8_val (a:=48 + i) oM;omega
theorem digF_snoc : ∀ (s : List UInt8) {n m : Int} {c : UInt8},digF n s = some m → 48 ≤ c.toNat ∧ c.toNat ≤ 57 → digF n (s ++ [c]) = some (10 * m + ((c.toNat : Int) - 48))
 | [],n,m,c,h,hc=>by simp only [digF,Option.some.injEq] at h;subst h;simp only [List.nil_append,digF,if_pos hc]
 | d :: s,n,m,c,h,hc=>by
  unfold digF at h
  split at h
  ·rename_i hd
   have:=digF_snoc s h hc
   simp only [List.cons_append]
   unfold digF
   rw [if_pos hd];exact this
  ·cases h
theorem digF_decI : ∀ (k : Nat) {m : Int},m.toNat ≤ k → 0 ≤ m → digF 0 (decI m) = some m ∧ ∀ c ∈ decI m,isDg c = true:=by
 intro k
 induction k with
 | zero =>
  intro m hk h0
  have : m = 0:=oM
  subst this
  rw [decI_lo dC dC]
  exact ⟨by decide,by intro c hc;simp only [List.mem_singleton] at hc;subst hc;decide⟩
 | succ k ih =>
  intro m hk h0
  by_cases h : m < 10
  ·have hd:=u8_dgA (i:=m) oM
   have hd2 : isDg (u8 (48 + m)) = true:=by unfold isDg;rw [decide_eq_true_eq];omega
   rw [decI_lo h h0]
   refine ⟨?_,fun c hc=>by simp only [List.mem_singleton] at hc;subst hc;exact hd2⟩
   unfold digF digF
   rw [if_pos oM];congr 1;omega
  ·obtain ⟨h1,h2⟩:=ih (m:=m / 10) oM oM
   have hd:=u8_dgA (i:=m % 10) oM
   have hd2 : isDg (u8 (48 + m % 10)) = true:=by unfold isDg;rw [decide_eq_true_eq];omega
   rw [decI_hi h]
   refine ⟨by rw [digF_snoc _ h1 oM];congr 1;omega,fun c hc=>?_⟩
   rcases List.mem_append.1 hc with hc | hc
   ·exact h2 c hc
   ·simp only [List.mem_singleton] at hc;subst hc;exact hd2
theorem decI_6 {m : Int} (h : m ≤ 999999) : (decI m).length ≤ 6:=dec_len _ 5 oM
theorem numOf_decI {m top : Int} (h0 : 0 ≤ m) (h1 : m ≤ top) (ht : top ≤ 999999) : numOf (decI m) top = some m:=by
 unfold numOf
 rw [if_pos (decI_6 oM),(digF_decI _ (Nat.le_refl _) h0).1]
 dsimp only
 rw [if_pos ⟨rfl,h1⟩]
def Dl (s : List UInt8) : Prop:=∀ c r,s = c :: r → isDg c = false
theorem dl_cons {c : UInt8} {r : List UInt8} (h : isDg c = false) : Dl (c :: r):=fun d s e=>by injection e with e1 e2;subst e1;exact h
theorem dl_nil : Dl []:=fun _ _ e=>by cases e
theorem dl_tw : ∀ {s : List UInt8},Dl s → s.takeWhile isDg = [] ∧ s.dropWhile isDg = s
 | [],_=>⟨rfl,rfl⟩
 | c :: r,h=>by have:=h c r rfl;rw [List.takeWhile_cons,List.dropWhile_cons,this];exact ⟨rfl,rfl⟩
theorem tw_app {p : UInt8 → Bool} : ∀ {s r : List UInt8},(∀ c ∈ s,p c = true) → (s ++ r).takeWhile p = s ++ r.takeWhile p ∧ (s ++ r).dropWhile p = r.dropWhile p
 | [],_,_=>⟨rfl,rfl⟩
 | c :: s,r,h=>by
  obtain ⟨h1,h2⟩:=tw_app (s:=s) (r:=r) fun d hd=>h d (by simp [hd])
  have:=h c (by simp)
  rw [List.cons_append,List.takeWhile_cons,List.dropWhile_cons,this,if_pos rfl,if_pos rfl,h1,h2];exact ⟨rfl,rfl⟩
theorem rdNum_in {m top : Int} {r : List UInt8} (h0 : 0 ≤ m) (h1 : m ≤ top) (ht : top ≤ 999999) (hr : Dl r) : rdNum top (decI m ++ r) = some (m,r):=by
 obtain ⟨e1,e2⟩:=tw_app (r:=r) (digF_decI _ (Nat.le_refl _) h0).2
 obtain ⟨e3,e4⟩:=dl_tw hr
 unfold rdNum
 rw [e1,e2,e3,e4,List.append_nil,numOf_decI h0 h1 ht];rfl
theorem tx_39 {x : List UInt8} (h : isTx (39 :: (x ++ [39])) = true) : ∀ j,j < x.length → bt x j ≠ 39:=by
 intro j hj e
 unfold isTx at h
 rw [decide_eq_true_eq] at h
 have h1:=h.2.2.2 (j + 1) (by simp;omega)
 rw [bt_succ] at h1
 have h2 : bt (x ++ [39]) j = bt x j:=by simp [bt,List.getD,List.getElem?_append_left hj]
 rw [h2,e] at h1
 rcases h1 with h1 | h1
 ·omega
 ·exact absurd h1 dC
theorem rdQuote_in {x r : List UInt8} (h : isTx (39 :: (x ++ [39])) = true) : rdQuote (39 :: (x ++ 39 :: r)) = some (.nd 116 x 0 [],r):=by
 have hc : cut1 39 (x ++ 39 :: r) = (x,r,true):=by
  have h1:=cut1_at (k:=39) (s:=x ++ 39 :: r) (i:=x.length) (by simp) (fun j hj=>by
   have:=tx_39 h j hj
   have h2 : bt (x ++ 39 :: r) j = bt x j:=by simp [bt,List.getD,List.getElem?_append_left hj]
   rw [h2];exact this) (by simp [bt,List.getD])
  rw [h1]
  congr 1
  ·exact List.take_left
  ·congr 1
   rw [show x.length + 1 = (x ++ [39]).length by simp,show x ++ 39 :: r = (x ++ [39]) ++ r by simp,List.drop_left]
 unfold rdQuote
 dsimp only
 rw [if_pos dC,hc]
 dsimp only
 rw [if_pos h]
theorem rdFlag_in {x r : List UInt8} (h : x = [121,101,115] ∨ x = [110,111]) : rdFlag (x ++ r) = some (.nd 102 x 0 [],r):=by
 unfold rdFlag
 rcases h with rfl | rfl
 ·rw [if_pos (by simp [List.isPrefixOf])];rfl
 ·rw [if_neg (by simp [List.isPrefixOf]),if_pos (by simp [List.isPrefixOf])];rfl
theorem rdItems_in {f : List UInt8 → Option (V × List UInt8)} {rest : List UInt8} : ∀ (ks : List V) (m : Nat) (acc : List V),ks ≠ [] → ks.length ≤ m → (∀ v ∈ ks,∀ r,Dl r → f (v.out ++ r) = some (v,r)) → rdItems f m (joinB 44 (ks.map V.out) ++ 93 :: rest) acc = some (acc ++ ks,rest)
 | [],_,_,h,_,_=>absurd rfl h
 | [v],m,acc,_,hm,hf=>by
  obtain ⟨m,rfl⟩ : ∃ n,m = n + 1:=⟨m - 1,by simp at hm;omega⟩
  unfold rdItems
  simp only [List.map_cons,List.map_nil,joinB]
  rw [hf v (by simp) _ (dl_cons dC)]
  dsimp only
  rw [if_neg dC,if_pos dC]
 | v :: u :: ks,m,acc,_,hm,hf=>by
  obtain ⟨m,rfl⟩ : ∃ n,m = n + 1:=⟨m - 1,by simp at hm;omega⟩
  have ih:=rdItems_in (rest:=rest) (u :: ks) m (acc ++ [v]) (by simp) (by simp at hm ⊢;omega) fun w hw=>hf w (by simp [hw])
  unfold rdItems
  simp only [List.map_cons,joinB,List.append_assoc,List.cons_append] at ih ⊢
  rw [hf v (by simp) _ (dl_cons dC)]
  dsimp only
  rw [if_pos dC,ih]
  simp
theorem fldT_mem {t : Ty} (hw : TyW t) {d : Fld} (h : d ∈ t.fields) : fldT t.fields d.tag = some d:=by
 cases e : fldT t.fields d.tag with
 | none=>have:=(List.find?_eq_none.1 e) d h;simp at this
 | some d' =>
  have h1 : d'.tag = d.tag:=by have:=List.find?_some e;simpa using this
  rw [fld_tag hw (List.mem_of_find?_eq_some e) h h1]
theorem rdField_in {f : List UInt8 → List UInt8 → Option (V × List UInt8)} {t : Ty} (hw : TyW t) {d : Fld} {v : V} {r : List UInt8} (h : d ∈ t.fields) (hf : f d.kind (v.out ++ r) = some (v,r)) : rdField f t (decI d.tag ++ 61 :: (v.out ++ r)) = some ((d,v),r):=by
 have ht:=(hw.fld d h).tag
 unfold rdField
 rw [rdNum_in oM ht.2 dC (dl_cons dC)]
 dsimp only
 rw [fldT_mem hw h]
 dsimp only
 rw [if_pos dC,hf];rfl
theorem rdFlds_in {ts : List Ty} {f : List UInt8 → List UInt8 → Option (V × List UInt8)} {t : Ty} (hw : TyW t) {rest : List UInt8} : ∀ (fs : List (Fld × V)) (m : Nat) (last : Int) (acc : List V),fs ≠ [] → fs.length ≤ m → (∀ p ∈ fs,p.1 ∈ t.fields ∧ p.2.out ≠ standF ts p.1 ∧ last < p.1.tag ∧ ∀ r,Dl r → f p.1.kind (p.2.out ++ r) = some (p.2,r)) → fs.Pairwise (fun a b=>a.1.tag < b.1.tag) →
  rdFlds ts f t m last (joinB 44 ((fs.map fldV).map V.out) ++ 125 :: rest) acc = some (acc ++ fs.map fldV,rest)
 | [],_,_,_,h,_,_,_=>absurd rfl h
 | [p],m,last,acc,_,hm,hf,_=>by
  obtain ⟨m,rfl⟩ : ∃ n,m = n + 1:=⟨m - 1,by simp at hm;omega⟩
  obtain ⟨h1,h2,h3,h4⟩:=hf p (by simp)
  unfold rdFlds
  simp only [List.map_cons,List.map_nil,joinB,fldV,out_fld,List.append_assoc,List.cons_append]
  rw [rdField_in hw h1 (h4 _ (dl_cons dC))]
  dsimp only
  rw [if_neg (by rintro (h | h);omega;exact h2 h),if_neg dC,if_pos dC]
 | p :: q :: fs,m,last,acc,_,hm,hf,hp=>by
  obtain ⟨m,rfl⟩ : ∃ n,m = n + 1:=⟨m - 1,by simp at hm;omega⟩
  obtain ⟨h1,h2,h3,h4⟩:=hf p (by simp)
  rw [List.pairwise_cons] at hp
  have ih:=rdFlds_in (ts:=ts) (f:=f) hw (rest:=rest) (q :: fs) m p.1.tag (acc ++ [fldV p]) (by simp) (by simp at hm ⊢;omega) (fun w hw=>⟨(hf w (by simp [hw])).1,(hf w (by simp [hw])).2.1,hp.1 w hw,(hf w (by simp [hw])).2.2.2⟩) hp.2
  unfold rdFlds
  simp only [List.map_cons,joinB,out_fld,List.append_assoc,List.cons_append] at ih ⊢
  rw [rdField_in hw h1 (h4 _ (dl_cons dC))]
  dsimp only
  rw [if_neg (by rintro (h | h);omega;exact h2 h),if_pos dC,ih]
  simp
theorem decI_cons {m : Int} (h : 0 ≤ m) : ∃ c r,decI m = c :: r ∧ isDg c = true:=by
 cases e : decI m with
 | nil=>have:=decI_pos m;rw [e] at this;simp at this
 | cons c r=>exact ⟨c,r,rfl,(digF_decI _ (Nat.le_refl _) h).2 c (by rw [e];simp)⟩
theorem dg_ne {c : UInt8} (h : isDg c = true) : 48 ≤ c.toNat ∧ c.toNat ≤ 57:=by unfold isDg at h;rwa [decide_eq_true_eq] at h
theorem out_head {ts : List Ty} {k : List UInt8} {v : V} (h : OfK ts k v) : ∃ c r,v.out = c :: r ∧ c.toNat ≠ 93:=by
 cases h with
 | num k n h1 h2=>obtain ⟨c,r,e,hc⟩:=decI_cons h1;have:=dg_ne hc;exact ⟨c,r,by rw [V.out];exact e,oM⟩
 | txt k x=>exact ⟨39,_,by rw [V.out];rfl,by decide⟩
 | flg k x h=>rcases h with rfl | rfl;exact ⟨121,_,by rw [V.out];rfl,by decide⟩;exact ⟨110,_,by rw [V.out];rfl,by decide⟩
 | lst=>exact ⟨91,_,by rw [V.out];rfl,by decide⟩
 | non=>exact ⟨45,_,by rw [V.out];rfl,by decide⟩
 | opt=>exact ⟨43,_,by rw [V.out];rfl,by decide⟩
 | recd=>exact ⟨123,_,by rw [V.out];rfl,by decide⟩
 | enm=>exact ⟨35,_,by rw [V.out];rfl,by decide⟩
 | uni=>exact ⟨60,_,by rw [V.out];rfl,by decide⟩
theorem rd_in {ts : List Ty} (hw : SchW ts) : ∀ (n : Nat) {k : List UInt8} {v : V},OfK ts k v → v.deep ≤ n → ∀ r,Dl r → rd ts n k (v.out ++ r) = some (v,r)
 | 0,k,v,h,hd,r,hr=>by
  obtain ⟨w,x,t,ks⟩:=v
  have hne : w ≠ 61:=by cases h <;> decide
  rw [deep_nd hne] at hd;omega
 | n + 1,k,v,h,hd,r,hr=>by
  have ih:=fun {k : List UInt8} {v : V}=>rd_in hw n (k:=k) (v:=v)
  show rdK ts (rd ts n) k (v.out ++ r) = some (v,r)
  cases h with
  | num k m h1 h2 =>
   have e : V.out (.nd 110 (decI m) 0 []) = decI m:=by rw [V.out];rfl
   have hrf : refT ts (110 :: k) = none:=by cases h : refT ts (110 :: k) with | none=>rfl | some t=>exact (refT_no h rfl dC).elim
   rw [e]
   unfold rdK
   try dsimp only
   rw [if_neg dC,if_neg dC,hrf]
   try dsimp only
   rw [if_pos dC,rdNum_in h1 h2 dC hr];rfl
  | txt k x h1 =>
   have e : V.out (.nd 116 x 0 []) ++ r = 39 :: (x ++ 39 :: r):=by rw [V.out];simp [outW]
   have hrf : refT ts (116 :: k) = none:=by cases h : refT ts (116 :: k) with | none=>rfl | some t=>exact (refT_no h rfl dC).elim
   rw [e]
   unfold rdK
   try dsimp only
   rw [if_neg dC,if_neg dC,hrf]
   try dsimp only
   rw [if_neg dC,if_pos dC,rdQuote_in h1]
  | flg k x h1 =>
   have e : V.out (.nd 102 x 0 []) = x:=by rw [V.out];rfl
   have hrf : refT ts (102 :: k) = none:=by cases h : refT ts (102 :: k) with | none=>rfl | some t=>exact (refT_no h rfl dC).elim
   rw [e]
   unfold rdK
   try dsimp only
   rw [if_neg dC,if_neg dC,hrf]
   try dsimp only
   rw [if_neg dC,if_neg dC,if_pos dC,rdFlag_in h1]
  | lst k ks h1 h2 =>
   rw [deep_nd dC] at hd
   rw [out_list]
   unfold rdK
   try dsimp only
   rw [if_pos dC]
   try dsimp only
   rw [if_pos dC]
   cases ks with
   | nil=>simp only [List.map_nil,joinB,List.nil_append];rw [if_pos dC]
   | cons v ks =>
    have hI:=rdItems_in (f:=rd ts n k) (rest:=r) (v :: ks) 20 [] (by simp) h1 fun u hu r hr=>ih (h2 u hu) (by have:=V.deep_mem hu;omega) r hr
    obtain ⟨c,s,e1,e2⟩:=out_head (h2 v (by simp))
    cases hj : joinB 44 ((v :: ks).map V.out) ++ 93 :: r with
    | nil=>simp at hj
    | cons c' s' =>
     have hc' : c' = c:=by
      have : ∃ s2,joinB 44 ((v :: ks).map V.out) ++ 93 :: r = c :: s2:=by
       cases ks with
       | nil=>simp only [List.map_cons,List.map_nil,joinB,e1,List.cons_append];exact ⟨_,rfl⟩
       | cons u ks=>simp only [List.map_cons,joinB,e1,List.cons_append];exact ⟨_,rfl⟩
      obtain ⟨s2,h3⟩:=this
      rw [hj] at h3;injection h3
     try dsimp only
     rw [if_neg (by rw [hc'];exact e2),← hj,hI];rfl
  | non k =>
   have e : V.out (.nd 63 [] 0 []) ++ r = 45 :: r:=by rw [V.out];rfl
   rw [e]
   unfold rdK
   try dsimp only
   rw [if_neg dC,if_pos dC]
   try dsimp only
   rw [if_pos dC]
  | opt k v h1 =>
   rw [deep_nd dC] at hd
   have hd2 : v.deep ≤ n:=by have:=V.deep_mem (ks:=[v]) (v:=v) (by simp);omega
   rw [out_opt]
   unfold rdK
   try dsimp only
   rw [if_neg dC,if_pos dC]
   try dsimp only
   rw [if_neg dC,if_pos dC,ih h1 hd2 r hr];rfl
  | recd k t fs h1 h2 h3 h4 h5 h6 =>
   rw [deep_nd dC] at hd
   have hk : ∃ k',k = 64 :: k':=by
    cases k with
    | nil=>simp [refT,refN] at h1
    | cons c k' =>
     by_cases h64 : c.toNat = 64
     ·exact ⟨k',by rw [show c = 64 from UInt8.toNat_inj.1 h64]⟩
     ·exact (refT_no h1 rfl h64).elim
   obtain ⟨k',rfl⟩:=hk
   rw [out_rec]
   unfold rdK
   try dsimp only
   rw [if_neg dC,if_neg dC,h1]
   try dsimp only
   unfold rdTyped
   dsimp only
   rw [if_pos h2,if_pos dC]
   cases fs with
   | nil=>simp only [List.map_nil,joinB,List.nil_append];rw [if_pos dC]
   | cons p fs =>
    have hlen : (p :: fs).length ≤ (joinB 44 (((p :: fs).map fldV).map V.out) ++ 125 :: r).length + 1:=by
     have h7 : ∀ xs : List (List UInt8),(∀ x ∈ xs,1 ≤ x.length) → xs.length ≤ (joinB 44 xs).length:=by
      intro xs
      induction xs with
      | nil=>intro _;simp
      | cons x xs ihx =>
       intro hx
       have hx1:=hx x (by simp)
       have ihx:=ihx fun y hy=>hx y (by simp [hy])
       cases xs with
       | nil=>simp only [joinB,List.length_cons,List.length_nil];omega
       | cons y xs=>simp only [joinB,List.length_append,List.length_cons] at ihx ⊢;omega
     have h8:=h7 (((p :: fs).map fldV).map V.out) (fun x hx=>by
      obtain ⟨v,hv,rfl⟩:=List.mem_map.1 hx
      obtain ⟨q,hq,rfl⟩:=List.mem_map.1 hv
      rw [out_fld];simp;omega)
     simp only [List.length_map] at h8
     simp only [List.length_append,List.length_cons]
     simp only [List.length_cons] at h8
     omega
    have hI:=rdFlds_in (ts:=ts) (f:=rd ts n) (hw.ty t (refT_mem h1)) (rest:=r) (p :: fs) ((joinB 44 (((p :: fs).map fldV).map V.out) ++ 125 :: r).length + 1) 0 [] (by simp) hlen (fun q hq=>⟨h3 q hq,h5 q hq,by have:=((hw.ty t (refT_mem h1)).fld _ (h3 q hq)).tag;omega,fun r hr=>ih (h4 q hq) (by
     have:=V.deep_mem (ks:=(p :: fs).map fldV) (v:=fldV q) (List.mem_map.2 ⟨q,hq,rfl⟩)
     rw [show V.deep (fldV q) = V.deep q.2 from deep_fld] at this
     omega) r hr⟩) h6
    obtain ⟨c,s,e1,e2⟩:=decI_cons (m:=p.1.tag) (by have:=((hw.ty t (refT_mem h1)).fld _ (h3 p (by simp))).tag;omega)
    have he2:=dg_ne e2
    cases hj : joinB 44 (((p :: fs).map fldV).map V.out) ++ 125 :: r with
    | nil=>simp at hj
    | cons c' s' =>
     have hc' : c' = c:=by
      have : ∃ s2,joinB 44 (((p :: fs).map fldV).map V.out) ++ 125 :: r = c :: s2:=by
       cases fs with
       | nil=>simp only [List.map_cons,List.map_nil,joinB,out_fld,e1,List.cons_append];exact ⟨_,rfl⟩
       | cons u ks=>simp only [List.map_cons,joinB,out_fld,e1,List.cons_append];exact ⟨_,rfl⟩
      obtain ⟨s2,h3⟩:=this
      rw [hj] at h3;injection h3
     try dsimp only
     rw [if_neg (by rw [hc'];omega),← hj,hI];rfl
  | enm k t d h1 h2 h3 =>
   have hk : ∃ k',k = 64 :: k':=by
    cases k with
    | nil=>simp [refT,refN] at h1
    | cons c k' =>
     by_cases h64 : c.toNat = 64
     ·exact ⟨k',by rw [show c = 64 from UInt8.toNat_inj.1 h64]⟩
     ·exact (refT_no h1 rfl h64).elim
   obtain ⟨k',rfl⟩:=hk
   have ht:=((hw.ty t (refT_mem h1)).fld d h3).tag
   have e : V.out (.nd 69 [] d.tag []) ++ r = 35 :: (decI d.tag ++ r):=by rw [V.out];rfl
   rw [e]
   unfold rdK
   try dsimp only
   rw [if_neg dC,if_neg dC,h1]
   try dsimp only
   unfold rdTyped
   dsimp only
   rw [if_neg oM,if_pos h2,if_pos dC,rdNum_in oM ht.2 dC hr]
   try dsimp only
   rw [fldT_mem (hw.ty t (refT_mem h1)) h3,if_pos (by simp)]
  | uni k t d v h1 h2 h3 h4 h5 =>
   rw [deep_nd dC] at hd
   have hd2 : v.deep ≤ n:=by have:=V.deep_mem (ks:=[v]) (v:=v) (by simp);omega
   have hk : ∃ k',k = 64 :: k':=by
    cases k with
    | nil=>simp [refT,refN] at h1
    | cons c k' =>
     by_cases h64 : c.toNat = 64
     ·exact ⟨k',by rw [show c = 64 from UInt8.toNat_inj.1 h64]⟩
     ·exact (refT_no h1 rfl h64).elim
   obtain ⟨k',rfl⟩:=hk
   rw [out_uni]
   unfold rdK
   try dsimp only
   rw [if_neg dC,if_neg dC,h1]
   try dsimp only
   unfold rdTyped
   dsimp only
   rw [if_neg h2,if_neg h3,if_pos dC,rdField_in (hw.ty t (refT_mem h1)) h4 (ih h5 hd2 _ (dl_cons dC))]
   try dsimp only
   rw [if_pos dC]
theorem valOf_in {ts : List Ty} (hw : SchW ts) {k : List UInt8} {v : V} (h : OfK ts k v) (hl : v.out.length ≤ 400) (hd : v.deep ≤ 12) : valOf ts k v.out = some v:=by
 have h1:=rd_in hw 12 h hd [] dl_nil
 rw [List.append_nil] at h1
 unfold valOf
 rw [if_pos hl,h1]
theorem valOf_no_in {ts : List Ty} (hw : SchW ts) {k : List UInt8} {v : V} (h : OfK ts k v) (hn : ¬ (v.out.length ≤ 400 ∧ v.deep ≤ 12)) : valOf ts k v.out = none:=by
 cases hv : valOf ts k v.out with
 | none=>rfl
 | some u =>
  obtain ⟨h1,h2,h3⟩:=valOf_out hv
  have hu:=valOf_of_k hv
  have hd : v.deep ≤ max v.deep 12:=Nat.le_max_left _ _
  have h4:=rd_in hw (max v.deep 12) h hd [] dl_nil
  have h5:=rd_in hw (max v.deep 12) hu (Nat.le_trans h3 (Nat.le_max_right _ _)) [] dl_nil
  rw [List.append_nil] at h4 h5
  rw [h1,h4] at h5
  have:=(Prod.mk.inj (Option.some.inj h5)).1
  subst this
  exact absurd ⟨h2,h3⟩ hn
end Go.E
namespace Go.E
set_option maxRecDepth 20000
set_option maxHeartbeats 2000000
open Go.Proofs
theorem kind_ne {ts : List Ty} {k : List UInt8} (h : kindIn ts k = true) : ∃ c r,k = c :: r:=by
 cases k with
 | nil=>unfold kindIn kindOk kOk at h;simp at h
 | cons c r=>exact ⟨c,r,rfl⟩
theorem head0 {t : Ty} (hw : TyW t) (hs : t.sort ≠ 82) : t.fields.headD default ∈ t.fields:=by
 have:=hw.ne hs
 cases h : t.fields with
 | nil=>exact absurd h this
 | cons d r=>simp
theorem decI0 : decI 0 = [48]:=by rw [decI_lo dC dC];decide
theorem out_num0 : V.out (.nd 110 (decI 0) 0 []) = [48]:=by rw [V.out];exact decI0
theorem standN_val {ts : List Ty} (hw : SchW ts) : ∀ (n : Nat) {k : List UInt8},kindIn ts k = true → (∀ t,refT ts k = some t → endsN ts n t = true) → ∃ u,OfK ts k u ∧ u.out = standN ts (n + 1) k ∧ u.deep ≤ n + 1 ∧ u.out.length ≤ 30 * (n + 1) ∧ u.size ≤ 1:=by
 intro n
 induction n with
 | zero =>
  intro k hk he
  obtain ⟨c,r,rfl⟩:=kind_ne hk
  unfold standN
  by_cases h91 : c.toNat = 91
  ·obtain rfl:=u8_eq h91 dC
   exact ⟨_,.lst _ [] (by simp) (by simp),by rw [if_pos h91,V.out];rfl,by simp [V.deep,V.deeps],by rw [V.out];decide,by simp [V.size,leafW,V.sizes]⟩
  by_cases h63 : c.toNat = 63
  ·obtain rfl:=u8_eq h63 dC
   exact ⟨_,.non _,by rw [if_neg h91,if_pos h63,V.out];rfl,by simp [V.deep,V.deeps],by rw [V.out];decide,by simp [V.size,leafW]⟩
  rw [if_neg h91,if_neg h63]
  cases hr : refT ts (c :: r) with
  | some t=>have:=he t hr;simp [endsN] at this
  | none =>
   dsimp only
   rcases plain_kinds hk (by rintro (h | h) <;> contradiction) hr with e | e | e
   all_goals rw [e]
   ·exact ⟨_,.num [] 0 dC dC,by rw [out_num0];decide,by simp [V.deep,V.deeps],by rw [out_num0];decide,by simp [V.size,leafW]⟩
   ·exact ⟨_,.txt [] [] dC,by rw [V.out];decide,by simp [V.deep,V.deeps],by rw [V.out];decide,by simp [V.size,leafW]⟩
   ·exact ⟨_,.flg [] _ (.inr rfl),by rw [V.out];decide,by simp [V.deep,V.deeps],by rw [V.out];decide,by simp [V.size,leafW]⟩
 | succ n ih =>
  intro k hk he
  obtain ⟨c,r,rfl⟩:=kind_ne hk
  unfold standN
  by_cases h91 : c.toNat = 91
  ·obtain rfl:=u8_eq h91 dC
   exact ⟨_,.lst _ [] (by simp) (by simp),by rw [if_pos h91,V.out];rfl,by simp [V.deep,V.deeps],by rw [V.out];simp [outW,V.outs,joinB];omega,by simp [V.size,leafW,V.sizes]⟩
  by_cases h63 : c.toNat = 63
  ·obtain rfl:=u8_eq h63 dC
   exact ⟨_,.non _,by rw [if_neg h91,if_pos h63,V.out];rfl,by simp [V.deep,V.deeps],by rw [V.out];simp [outW];omega,by simp [V.size,leafW]⟩
  rw [if_neg h91,if_neg h63]
  cases hr : refT ts (c :: r) with
  | none =>
   dsimp only
   rcases plain_kinds hk (by rintro (h | h) <;> contradiction) hr with e | e | e
   all_goals rw [e]
   ·exact ⟨_,.num [] 0 dC dC,by rw [out_num0];decide,by simp [V.deep,V.deeps],by rw [out_num0];simp;omega,by simp [V.size,leafW]⟩
   ·exact ⟨_,.txt [] [] dC,by rw [V.out];decide,by simp [V.deep,V.deeps],by rw [V.out];simp [outW];omega,by simp [V.size,leafW]⟩
   ·exact ⟨_,.flg [] _ (.inr rfl),by rw [V.out];decide,by simp [V.deep,V.deeps],by rw [V.out];simp [outW];omega,by simp [V.size,leafW]⟩
  | some t =>
   have htm:=refT_mem hr
   have htw:=hw.ty t htm
   dsimp only
   by_cases h82 : t.sort = 82
   ·rw [if_pos h82]
    exact ⟨_,.recd _ t [] hr h82 (by simp) (by simp) (by simp) (by simp),by rw [V.out];rfl,by simp [V.deep,V.deeps],by rw [V.out];simp [outW,V.outs,joinB];omega,by simp [V.size,leafW,V.sizes]⟩
   rw [if_neg h82]
   have hd:=head0 htw h82
   have htg:=(htw.fld _ hd).tag
   have hdl:=decI_6 (m:=tag0 t) (by unfold tag0;omega)
   by_cases h69 : t.sort = 69
   ·rw [if_pos h69]
    exact ⟨_,.enm _ t _ hr h69 hd,by rw [V.out];rfl,by simp [V.deep,V.deeps],by rw [V.out];show (35 :: decI (tag0 t)).length ≤ _;simp only [List.length_cons];omega,by simp [V.size,leafW]⟩
   rw [if_neg h69]
   have h85 : t.sort = 85:=by have:=htw.sort;unfold sortOk at this;omega
   have he1:=he t hr
   unfold endsN at he1
   rw [if_neg (by simpa using h85)] at he1
   obtain ⟨u,g1,g2,g3,g4,g5⟩:=ih (k:=kind0 t) (kind_in hw htm h69 hd) (fun t' ht'=>by rw [ht'] at he1;exact he1)
   refine ⟨_,.uni _ t _ u hr h82 h69 hd g1,?_,?_,?_,?_⟩
   ·rw [V.out,← g2];simp [outW,V.outs,joinB,tag0]
   ·rw [deep_nd dC,V.deeps,V.deeps];omega
   ·have e:=out_uni (v:=u) (n:=tag0 t) (r:=[])
    rw [List.append_nil] at e
    show (V.out (.nd 85 [] (tag0 t) [u])).length ≤ _
    rw [e];simp only [List.length_cons,List.length_append,List.length_nil];omega
   ·rw [V.size,if_neg (by unfold leafW;simp),V.sizes,V.sizes];omega
theorem standK_val {ts : List Ty} (hw : SchW ts) {k : List UInt8} (hk : kindIn ts k = true) : ∃ u,OfK ts k u ∧ u.out = standK ts k ∧ u.deep ≤ 12 ∧ u.out.length ≤ 400 ∧ u.size ≤ 1:=by
 have hl:=hw.len
 obtain ⟨u,h1,h2,h3,h4,h5⟩:=standN_val hw (ts.length + 1) hk (fun t ht=>by
  have hm:=refT_mem ht
  obtain ⟨i,hi,rfl⟩:=List.mem_iff_getElem.1 hm
  have:=hw.valid.2 i hi
  rwa [nth_eq hi] at this)
 exact ⟨u,h1,h2,oM,oM,h5⟩
theorem standF_val {ts : List Ty} (hw : SchW ts) {t : Ty} (ht : t ∈ ts) (hs : t.sort ≠ 69) {d : Fld} (hd : d ∈ t.fields) : ∃ u,OfK ts d.kind u ∧ u.out = standF ts d ∧ u.deep ≤ 12 ∧ u.out.length ≤ 400:=by
 unfold standF
 by_cases h0 : d.stand = []
 ·rw [if_pos h0]
  obtain ⟨u,h1,h2,h3,h4,_⟩:=standK_val hw (kind_in hw ht hs hd)
  exact ⟨u,h1,h2,h3,h4⟩
 ·rw [if_neg h0]
  have h1:=(((hw.ty t ht).fld d hd).stand h0).2
  unfold standOk at h1
  split at h1
  ·rename_i hk
   rw [hk]
   simp only [Bool.and_eq_true] at h1
   obtain ⟨m,hm⟩:=Option.isSome_iff_exists.1 h1.1
   have h2:=numOf_le hm
   have h3:=numOf_nn hm
   refine ⟨_,.num [] m h3 h2.1,by rw [V.out];exact h2.2.1.symm,by simp [V.deep,V.deeps],?_⟩
   rw [V.out]
   show (decI m).length ≤ 400
   have:=decI_6 h2.1;omega
  ·split at h1
   ·rename_i hk
    rw [hk]
    simp only [Bool.and_eq_true] at h1
    have hx:=h1.1
    have hx2:=hx
    unfold isTx at hx
    rw [decide_eq_true_eq] at hx
    obtain ⟨⟨h2,h3⟩,h4,h5,_⟩:=hx
    obtain ⟨x,hxs⟩ : ∃ x,d.stand = 39 :: (x ++ [39]):=by
     cases hs : d.stand with
     | nil=>exact absurd hs h0
     | cons c r =>
      rw [hs] at h4 h5 h2
      have hc : c = 39:=UInt8.toNat_inj.1 (by rw [bt_zero] at h4;exact h4)
      have hr : r ≠ []:=by rintro rfl;simp at h2
      refine ⟨r.dropLast,?_⟩
      have hl : r.getLast hr = 39:=by
       refine UInt8.toNat_inj.1 ?_
       simp only [List.length_cons,Nat.add_sub_cancel] at h5
       obtain ⟨m,hm⟩ : ∃ m,r.length = m + 1:=⟨r.length - 1,by have:=List.length_pos_iff.2 hr;omega⟩
       rw [hm,bt_succ] at h5
       rw [List.getLast_eq_getElem]
       have : bt r m = (r[r.length - 1]'(by have:=List.length_pos_iff.2 hr;omega)).toNat:=by simp [bt,List.getD,hm]
       rw [← this,h5];rfl
      rw [hc];congr 1
      rw [← hl,List.dropLast_concat_getLast]
    rw [hxs] at hx2 h3 ⊢
    refine ⟨_,.txt [] x hx2,by rw [V.out];rfl,by simp [V.deep,V.deeps],?_⟩
    rw [V.out]
    show (39 :: (x ++ [39])).length ≤ 400
    omega
   ·split at h1
    ·rename_i hk
     rw [hk]
     rw [decide_eq_true_eq] at h1
     rw [h1]
     exact ⟨_,.flg [] _ (.inl rfl),by rw [V.out];rfl,by simp [V.deep,V.deeps],by rw [V.out];decide⟩
    ·cases h1
end Go.E
namespace Go.E
set_option maxRecDepth 20000
set_option maxHeartbeats 2000000
def okV (s k w : List UInt8) : Bool:=(givenV s k w).isSome
end Go.E
namespace Go.E
set_option maxRecDepth 20000
set_option maxHeartbeats 2000000
open Go.Proofs
variable {G : Gh}
theorem c_ValueOkI {s k w : List UInt8} (h : s.length ≤ 1048576 ∧ k.length ≤ 1048576 ∧ w.length ≤ 1048576) : PuG Tryz.prog 21 [S s,S k,S w] G (· = Bo (okV s k w)):=by
 unfold okV
 cases hg : givenV s k w with
 | none =>
  have cx_gi0:=c_given0 (G:=G) h hg
  refine jB (Post:=fun v G' L'=>G' = G ∧ L' = [] ∧ _) [(0,_),(1,_),(2,_)] Tryz.func21 Tryz.ntmps21 fun B hok hB hW=>?_
  repeat' (first | (refine jR ?_) | (refine jo ?_;first | refine jL fun _=>?_ | refine jC rfl rfl rfl ?_ | (refine c_fns rfl rfl rfl cx_gi0 rfl ?_;rintro _ G hle ⟨p1,a1,b1,c1,rfl⟩;skip)))
  all_goals refine Nx.base hok hB ?_
  all_goals refine jY (vs:=[_]) ?_
  all_goals rfl
 | some u =>
  obtain ⟨ts,hs,hki,hvo,hto,hwf⟩:=given_some hg
  have cx_gi1:=c_given1 (G:=G) h hs hki hvo
  refine jB (Post:=fun v G' L'=>G' = G ∧ L' = [] ∧ _) [(0,_),(1,_),(2,_)] Tryz.func21 Tryz.ntmps21 fun B hok hB hW=>?_
  repeat' (first | (refine jR ?_) | (refine jo ?_;first | refine jL fun _=>?_ | refine jC rfl rfl rfl ?_ | (refine c_fns rfl rfl rfl cx_gi1 rfl ?_;rintro _ G hle ⟨bg,qg,cv,rfl,hTg,hRg,hrv⟩;skip)))
  all_goals refine Nx.base hok hB ?_
  all_goals refine jY (vs:=[_]) ?_
  all_goals rfl
theorem c_ValueOkS {s k w : List UInt8} (h : s.length ≤ 1048576 ∧ k.length ≤ 1048576 ∧ w.length ≤ 1048576) : PuG Tryz.prog 27 [S s,S k,S w] G (· = Bo (okV s k w)):=by
 unfold okV
 cases hg : givenV s k w with
 | none =>
  have cx_l40:=c_l4Of0 (G:=G) h hg
  refine jB (Post:=fun v G' L'=>G' = G ∧ L' = [] ∧ _) [(0,_),(1,_),(2,_)] Tryz.func27 Tryz.ntmps27 fun B hok hB hW=>?_
  repeat' (first | (refine jR ?_) | (refine jo ?_;(refine c_fns rfl rfl rfl cx_l40 rfl ?_;rintro _ G hle ⟨uu,q1,rfl⟩;skip)))
  all_goals refine Nx.base hok hB ?_
  all_goals refine jY (vs:=[_]) ?_
  all_goals rfl
 | some u =>
  obtain ⟨ts,hs,hki,hvo,hto,hwf⟩:=given_some hg
  have cx_l4:=c_l4Of1 (G:=G) h hs hki hvo
  refine jB (Post:=fun v G' L'=>G' = G ∧ L' = [] ∧ _) [(0,_),(1,_),(2,_)] Tryz.func27 Tryz.ntmps27 fun B hok hB hW=>?_
  repeat' (first | (refine jR ?_) | (refine jo ?_;(refine c_fns rfl rfl rfl cx_l4 rfl ?_;rintro _ G hle ⟨uu,q1,rfl,hyes⟩;skip)))
  all_goals refine Nx.base hok hB ?_
  all_goals refine jY (vs:=[_]) ?_
  all_goals rfl
end Go.E
namespace Go.E
set_option maxRecDepth 20000
set_option maxHeartbeats 2000000
open Go.Proofs
def stepsOf : List (List UInt8) → Option (List Int)
 | []=>some []
 | x :: xs=>match numOf x 999999 with
  | none=>none
  | some n=>(stepsOf xs).map (n :: ·)
def pathOf (s : List UInt8) : Option (List Int):=if s = [] then some [] else match stepsOf (cut 47 s) with
 | some p=>if p.length ≤ 8 then some p else none
 | none=>none
theorem stepsOf_len : ∀ {xs : List (List UInt8)} {p : List Int},stepsOf xs = some p → p.length = xs.length ∧ ∀ n ∈ p,0 ≤ n ∧ n ≤ 999999
 | [],p,h=>by simp only [stepsOf,Option.some.injEq] at h;subst h;simp
 | x :: xs,p,h=>by
  unfold stepsOf at h
  cases hn : numOf x 999999 with
  | none=>rw [hn] at h;cases h
  | some n =>
   rw [hn] at h
   dsimp only at h
   cases hs : stepsOf xs with
   | none=>rw [hs] at h;cases h
   | some q =>
    rw [hs] at h
    simp only [Option.map_some,Option.some.injEq] at h
    subst h
    obtain ⟨h1,h2⟩:=stepsOf_len hs
    refine ⟨by simp [h1],fun m hm=>?_⟩
    rcases List.mem_cons.1 hm with rfl | hm
    ·exact ⟨numOf_nn hn,(numOf_le hn).1⟩
    ·exact h2 m hm
def standV (ts : List Ty) (f : Fld) : V:=(valOf ts f.kind (standF ts f)).getD default
def toldV (f : Fld) : List V → Option V
 | []=>none
 | x :: r=>if x.tag = f.tag then some (nth x.kids 0) else toldV f r
def getV (ts : List Ty) (v : V) (f : Fld) : V:=(toldV f v.kids).getD (standV ts f)
def stepV (ts : List Ty) (k : List UInt8) (v : V) (n : Int) : Option (List UInt8 × V):=match k with
 | []=>none
 | c :: r=>if c.toNat = 91 ∨ c.toNat = 63 then (if n < (v.kids.length : Nat) then some (r,nth v.kids n.toNat) else none)
  else match refT ts (c :: r) with
   | none=>none
   | some t=>match fldT t.fields n with
    | none=>none
    | some f=>if t.sort = 69 then none else if t.sort = 82 then some (f.kind,getV ts v f) else if v.tag = n then some (f.kind,nth v.kids 0) else none
def followV (ts : List Ty) : List UInt8 → V → List Int → Option (List UInt8 × V)
 | k,v,[]=>some (k,v)
 | k,v,n :: p=>match stepV ts k v n with
  | none=>none
  | some (k',v')=>followV ts k' v' p
theorem standV_ok {ts : List Ty} (hw : SchW ts) {t : Ty} (ht : t ∈ ts) (hs : t.sort ≠ 69) {d : Fld} (hd : d ∈ t.fields) : OfK ts d.kind (standV ts d) ∧ valOf ts d.kind (standF ts d) = some (standV ts d) ∧ (standV ts d).out = standF ts d:=by
 obtain ⟨u,h1,h2,h3,h4⟩:=standF_val hw ht hs hd
 have h5:=valOf_in hw h1 h4 h3
 rw [h2] at h5
 have h6 : standV ts d = u:=by unfold standV;rw [h5];rfl
 rw [h6]
 exact ⟨h1,h5,h2⟩
theorem toldV_of {ts : List Ty} {t : Ty} (hw : TyW t) {f : Fld} (hf : f ∈ t.fields) : ∀ {fs : List (Fld × V)} {u : V},(∀ p ∈ fs,p.1 ∈ t.fields ∧ OfK ts p.1.kind p.2) → toldV f (fs.map fldV) = some u → OfK ts f.kind u ∧ ∃ p ∈ fs,p.1 = f ∧ p.2 = u
 | [],u,_,h=>by simp [toldV] at h
 | p :: fs,u,hp,h=>by
  simp only [List.map_cons,toldV] at h
  split at h
  ·rename_i he
   simp only [Option.some.injEq] at h
   have h1 : p.2 = u:=h
   have h2:=fld_tag hw (hp p (by simp)).1 hf he
   subst h1
   exact ⟨by rw [← h2];exact (hp p (by simp)).2,p,by simp,h2,rfl⟩
  ·obtain ⟨h1,q,h2,h3⟩:=toldV_of hw hf (fun q hq=>hp q (by simp [hq])) h
   exact ⟨h1,q,by simp [h2],h3⟩
theorem getV_ok {ts : List Ty} (hw : SchW ts) {t : Ty} (ht : t ∈ ts) (hs : t.sort = 82) {f : Fld} (hf : f ∈ t.fields) {fs : List (Fld × V)} (hp : ∀ p ∈ fs,p.1 ∈ t.fields ∧ OfK ts p.1.kind p.2) : OfK ts f.kind (getV ts (.nd 82 [] 0 (fs.map fldV)) f):=by
 unfold getV
 cases h : toldV f (V.kids (.nd 82 [] 0 (fs.map fldV))) with
 | none=>exact (standV_ok hw ht oM hf).1
 | some u=>exact (toldV_of (hw.ty t ht) hf hp h).1
theorem stepV_ok {ts : List Ty} (hw : SchW ts) {k : List UInt8} {v : V} (h : OfK ts k v) (hk : kindIn ts k = true) {n : Int} (hn : 0 ≤ n) {k' : List UInt8} {v' : V} (e : stepV ts k v n = some (k',v')) : OfK ts k' v' ∧ kindIn ts k' = true:=by
 obtain ⟨c,r,rfl⟩:=kind_ne hk
 unfold stepV at e
 dsimp only at e
 split at e
 ·rename_i hc
  split at e
  ·rename_i hlt
   simp only [Option.some.injEq,Prod.mk.injEq] at e
   obtain ⟨rfl,rfl⟩:=e
   refine ⟨?_,kindIn_tail hc hk⟩
   rcases ofK_inv_c h oM with ⟨h1,_⟩ | ⟨h1,_⟩ | ⟨h1,_⟩ | ⟨h1,ks,_,h3,rfl⟩ | ⟨h1,rfl | ⟨u,h3,rfl⟩⟩
   ·omega
   ·omega
   ·omega
   ·rw [V.kids] at hlt ⊢
    have : n.toNat < ks.length:=oM
    rw [nth_eq this];exact h3 _ (List.getElem_mem this)
   ·simp [V.kids] at hlt;omega
   ·simp [V.kids] at hlt
    have : n.toNat = 0:=oM
    rw [this];exact h3
  ·cases e
 ·split at e
  ·cases e
  ·rename_i t hr
   have ht:=refT_mem hr
   split at e
   ·cases e
   ·rename_i f hf
    have hfm:=List.mem_of_find?_eq_some hf
    split at e
    ·cases e
    ·rename_i h69
     have hki:=kind_in hw ht h69 hfm
     split at e
     ·rename_i h82
      simp only [Option.some.injEq,Prod.mk.injEq] at e
      obtain ⟨rfl,rfl⟩:=e
      rcases ofK_inv_t h hr with ⟨_,fs,rfl,g3,g4,_,_⟩ | ⟨h1,_⟩ | ⟨h1,_⟩
      ·exact ⟨getV_ok hw ht h82 hfm fun p hp=>⟨g3 p hp,g4 p hp⟩,hki⟩
      ·omega
      ·omega
     ·rename_i h82
      split at e
      ·rename_i htg
       simp only [Option.some.injEq,Prod.mk.injEq] at e
       obtain ⟨rfl,rfl⟩:=e
       rcases ofK_inv_t h hr with ⟨h1,_⟩ | ⟨h1,_⟩ | ⟨_,_,d,u,rfl,g4,g5⟩
       ·omega
       ·omega
       ·have h7 : f.tag = n:=by have:=List.find?_some hf;simpa using this
        have h8:=fld_tag (hw.ty t ht) g4 hfm (by rw [h7];exact htg)
        rw [V.kids]
        exact ⟨by rw [← h8];exact g5,hki⟩
      ·cases e
theorem followV_ok {ts : List Ty} (hw : SchW ts) : ∀ {p : List Int} {k : List UInt8} {v : V} {k' : List UInt8} {v' : V},OfK ts k v → kindIn ts k = true → (∀ n ∈ p,0 ≤ n) → followV ts k v p = some (k',v') → OfK ts k' v' ∧ kindIn ts k' = true
 | [],k,v,k',v',h,hk,_,e=>by
  simp only [followV,Option.some.injEq,Prod.mk.injEq] at e
  obtain ⟨rfl,rfl⟩:=e
  exact ⟨h,hk⟩
 | n :: p,k,v,k',v',h,hk,hp,e=>by
  unfold followV at e
  cases hs : stepV ts k v n with
  | none=>rw [hs] at e;cases e
  | some x =>
   rw [hs] at e
   obtain ⟨k1,v1⟩:=x
   obtain ⟨h1,h2⟩:=stepV_ok hw h hk (hp n (by simp)) hs
   exact followV_ok hw h1 h2 (fun m hm=>hp m (by simp [hm])) e
def putF (ts : List Ty) (f : Fld) (x : V) : List V → List V
 | []=>if x.out = standF ts f then [] else [.nd 61 [] f.tag [x]]
 | y :: r=>if y.tag < f.tag then y :: putF ts f x r
  else (if x.out = standF ts f then [] else [.nd 61 [] f.tag [x]]) ++ (if y.tag = f.tag then r else y :: r)
def changeV (ts : List Ty) : List UInt8 → V → List Int → V → V
 | _,_,[],x=>x
 | k,v,n :: p,x=>match stepV ts k v n with
  | none=>v
  | some (k',v')=>if v.what = 82 then (match refT ts k with
    | some t=>(match fldT t.fields n with
     | some f=>.nd 82 [] 0 (putF ts f (changeV ts k' v' p x) v.kids)
     | none=>v)
    | none=>v)
   else .nd v.what [] v.tag (if v.what = 91 then v.kids.set n.toNat (changeV ts k' v' p x) else [changeV ts k' v' p x])
theorem putF_ok {ts : List Ty} {t : Ty} (hw : TyW t) {f : Fld} (hf : f ∈ t.fields) {x : V} (hx : OfK ts f.kind x) : ∀ {fs : List (Fld × V)},(∀ p ∈ fs,p.1 ∈ t.fields ∧ OfK ts p.1.kind p.2 ∧ p.2.out ≠ standF ts p.1) → fs.Pairwise (fun a b=>a.1.tag < b.1.tag) →
  ∃ gs : List (Fld × V),putF ts f x (fs.map fldV) = gs.map fldV ∧ (∀ p ∈ gs,(p.1 ∈ t.fields ∧ OfK ts p.1.kind p.2 ∧ p.2.out ≠ standF ts p.1) ∧ (p ∈ fs ∨ p.1 = f)) ∧ gs.Pairwise (fun a b=>a.1.tag < b.1.tag)
 | [],_,_=>by
  simp only [List.map_nil,putF]
  split
  ·exact ⟨[],rfl,by simp,by simp⟩
  ·rename_i hne
   exact ⟨[(f,x)],rfl,fun p hp=>by simp only [List.mem_singleton] at hp;subst hp;exact ⟨⟨hf,hx,hne⟩,.inr rfl⟩,by simp⟩
 | q :: fs,hp,hpw=>by
  rw [List.pairwise_cons] at hpw
  simp only [List.map_cons,putF]
  show ∃ gs : List (Fld × V),(if q.1.tag < f.tag then fldV q :: putF ts f x (fs.map fldV) else (if x.out = standF ts f then [] else [.nd 61 [] f.tag [x]]) ++ (if q.1.tag = f.tag then fs.map fldV else fldV q :: fs.map fldV)) = gs.map fldV ∧ _
  by_cases hlt : q.1.tag < f.tag
  ·rw [if_pos hlt]
   obtain ⟨gs,e1,e2,e3⟩:=putF_ok hw hf hx (fun p h=>hp p (by simp [h])) hpw.2
   refine ⟨q :: gs,by rw [e1];rfl,fun p h=>?_,?_⟩
   ·rcases List.mem_cons.1 h with rfl | h
    ·exact ⟨hp _ (by simp),.inl (by simp)⟩
    ·exact ⟨(e2 p h).1,(e2 p h).2.imp (fun h=>by simp [h]) id⟩
   ·rw [List.pairwise_cons]
    refine ⟨fun p h=>?_,e3⟩
    rcases (e2 p h).2 with h1 | h1
    ·exact hpw.1 p h1
    ·rw [h1];exact hlt
  ·rw [if_neg hlt]
   have hB : ∃ gs : List (Fld × V),(if q.1.tag = f.tag then fs.map fldV else fldV q :: fs.map fldV) = gs.map fldV ∧ (∀ p ∈ gs,(p.1 ∈ t.fields ∧ OfK ts p.1.kind p.2 ∧ p.2.out ≠ standF ts p.1) ∧ p ∈ q :: fs ∧ f.tag < p.1.tag) ∧ gs.Pairwise (fun a b=>a.1.tag < b.1.tag):=by
    split
    ·rename_i he
     exact ⟨fs,rfl,fun p h=>⟨hp p (by simp [h]),by simp [h],by have:=hpw.1 p h;omega⟩,hpw.2⟩
    ·rename_i he
     refine ⟨q :: fs,rfl,fun p h=>⟨hp p h,h,?_⟩,by rw [List.pairwise_cons];exact hpw⟩
     rcases List.mem_cons.1 h with rfl | h
     ·omega
     ·have:=hpw.1 p h;omega
   obtain ⟨gs,e1,e2,e3⟩:=hB
   rw [e1]
   split
   ·exact ⟨gs,rfl,fun p h=>⟨(e2 p h).1,.inl (e2 p h).2.1⟩,e3⟩
   ·rename_i hne
    refine ⟨(f,x) :: gs,rfl,fun p h=>?_,?_⟩
    ·rcases List.mem_cons.1 h with rfl | h
     ·exact ⟨⟨hf,hx,hne⟩,.inr rfl⟩
     ·exact ⟨(e2 p h).1,.inl (e2 p h).2.1⟩
    ·rw [List.pairwise_cons]
     exact ⟨fun p h=>(e2 p h).2.2,e3⟩
theorem changeV_ok {ts : List Ty} (hw : SchW ts) : ∀ {p : List Int} {k : List UInt8} {v x : V} {k' : List UInt8} {v' : V},OfK ts k v → kindIn ts k = true → (∀ n ∈ p,0 ≤ n) → followV ts k v p = some (k',v') → OfK ts k' x → OfK ts k (changeV ts k v p x)
 | [],k,v,x,k',v',h,hk,_,e,hx=>by
  simp only [followV,Option.some.injEq,Prod.mk.injEq] at e
  obtain ⟨rfl,rfl⟩:=e
  exact hx
 | n :: p,k,v,x,k',v',h,hk,hp,e,hx=>by
  unfold followV at e
  cases hs : stepV ts k v n with
  | none=>rw [hs] at e;cases e
  | some y =>
   rw [hs] at e
   obtain ⟨k1,v1⟩:=y
   obtain ⟨h1,h2⟩:=stepV_ok hw h hk (hp n (by simp)) hs
   have ih:=changeV_ok hw h1 h2 (fun m hm=>hp m (by simp [hm])) e hx
   have hn:=hp n (by simp)
   unfold changeV
   rw [hs]
   dsimp only
   obtain ⟨c,r,rfl⟩:=kind_ne hk
   unfold stepV at hs
   dsimp only at hs
   split at hs
   ·rename_i hc
    split at hs
    ·rename_i hlt
     simp only [Option.some.injEq,Prod.mk.injEq] at hs
     obtain ⟨rfl,rfl⟩:=hs
     rcases ofK_inv_c h oM with ⟨g1,_⟩ | ⟨g1,_⟩ | ⟨g1,_⟩ | ⟨g1,ks,g2,g3,rfl⟩ | ⟨g1,rfl | ⟨u,g3,rfl⟩⟩
     ·omega
     ·omega
     ·omega
     ·rw [V.what,if_neg dC,if_pos rfl]
      obtain rfl:=u8_eq g1 dC
      refine .lst _ _ (by rw [List.length_set];exact g2) fun u hu=>?_
      rcases List.mem_or_eq_of_mem_set hu with hu | rfl
      ·exact g3 u hu
      ·exact ih
     ·simp [V.kids] at hlt;omega
     ·rw [V.what,if_neg dC,if_neg dC]
      obtain rfl:=u8_eq g1 dC
      exact .opt _ _ ih
    ·cases hs
   ·split at hs
    ·cases hs
    ·rename_i t hr
     have ht:=refT_mem hr
     split at hs
     ·cases hs
     ·rename_i f hf
      have hfm:=List.mem_of_find?_eq_some hf
      split at hs
      ·cases hs
      ·rename_i h69
       split at hs
       ·rename_i h82
        simp only [Option.some.injEq,Prod.mk.injEq] at hs
        obtain ⟨rfl,rfl⟩:=hs
        rcases ofK_inv_t h hr with ⟨_,fs,rfl,g3,g4,g5,g6⟩ | ⟨g1,_⟩ | ⟨g1,_⟩
        ·rw [V.what,if_pos rfl,hr]
         dsimp only
         rw [hf]
         dsimp only
         rw [V.kids]
         obtain ⟨gs,e1,e2,e3⟩:=putF_ok (hw.ty t ht) hfm ih (fun p hp=>⟨g3 p hp,g4 p hp,g5 p hp⟩) g6
         rw [e1]
         exact .recd _ t gs hr h82 (fun p hp=>(e2 p hp).1.1) (fun p hp=>(e2 p hp).1.2.1) (fun p hp=>(e2 p hp).1.2.2) e3
        ·omega
        ·omega
       ·rename_i h82
        split at hs
        ·rename_i htg
         simp only [Option.some.injEq,Prod.mk.injEq] at hs
         obtain ⟨rfl,rfl⟩:=hs
         rcases ofK_inv_t h hr with ⟨g1,_⟩ | ⟨g1,_⟩ | ⟨_,_,d,u,rfl,g4,g5⟩
         ·omega
         ·omega
         ·have h7 : f.tag = n:=by have:=List.find?_some hf;simpa using this
          have h8:=fld_tag (hw.ty t ht) g4 hfm (by rw [h7];exact htg)
          rw [V.what,if_neg dC,if_neg dC]
          exact .uni _ t d _ hr h82 h69 g4 (by rw [h8];exact ih)
        ·cases hs
end Go.E
namespace Go.E
set_option maxRecDepth 20000
set_option maxHeartbeats 2000000
open Go.Proofs
variable {G : Gh}
theorem stepsOf_snoc {x : List UInt8} : ∀ {xs : List (List UInt8)} {ps : List Int},stepsOf xs = some ps → stepsOf (xs ++ [x]) = (numOf x 999999).map fun n=>ps ++ [n]
 | [],ps,h=>by
  simp only [stepsOf,Option.some.injEq] at h;subst h
  simp only [List.nil_append,stepsOf]
  cases numOf x 999999 <;> rfl
 | y :: ys,ps,h=>by
  unfold stepsOf at h
  cases hn : numOf y 999999 with
  | none=>rw [hn] at h;cases h
  | some n =>
   rw [hn] at h
   dsimp only at h
   cases hs : stepsOf ys with
   | none=>rw [hs] at h;cases h
   | some q =>
    rw [hs] at h
    simp only [Option.map_some,Option.some.injEq] at h
    subst h
    rw [List.cons_append]
    unfold stepsOf
    rw [hn]
    dsimp only
    rw [stepsOf_snoc hs]
    cases numOf x 999999 <;> rfl
theorem stepsOf_no {x : List UInt8} {ys : List (List UInt8)} (h : numOf x 999999 = none) : ∀ {xs : List (List UInt8)},stepsOf (xs ++ x :: ys) = none
 | []=>by simp only [List.nil_append,stepsOf,h]
 | y :: xs=>by
  rw [List.cons_append]
  unfold stepsOf
  cases numOf y 999999 with
  | none=>rfl
  | some n=>dsimp only;rw [stepsOf_no h];rfl
abbrev tIntP : TypeId:=3
def StepsP (s : List UInt8) (v : Value) (G : Gh) : Prop:=∃ a c n,v = Tu [.slice a n c,Bo (pathOf s).isSome] ∧ ∀ p,pathOf s = some p → n = p.length ∧ SlV G (.slice a n c) 1 p.length (rows inR p)
theorem pathOf_ne {s : List UInt8} (h : s ≠ []) : pathOf s = match stepsOf (cut 47 s) with
  | some p=>if p.length ≤ 8 then some p else none
  | none=>none:=by
 unfold pathOf;rw [if_neg h]
 all_goals (cases stepsOf (cut 47 s) <;> rfl)
theorem pathOf_bad {s : List UInt8} (h : s ≠ []) {i : Nat} (hi : i < (cut 47 s).length) (hn : numOf (nth (cut 47 s) i) 999999 = none) : pathOf s = none:=by
 rw [pathOf_ne h]
 have e : cut 47 s = (cut 47 s).take i ++ nth (cut 47 s) i :: (cut 47 s).drop (i + 1):=by
  rw [nth_eq hi,List.getElem_cons_drop,List.take_append_drop]
 rw [e,stepsOf_no hn]
theorem c_stepsS {s : List UInt8} (h : s.length ≤ 1048576) : FnS Tryz.prog 38 [S s] G (StepsP s):=by
 by_cases h0 : s = []
 ·subst h0
  refine jB [(0,_)] Tryz.func38 Tryz.ntmps38 fun B hok hB hW=>?_
  repeat' (first | (refine jR ?_) | (refine jo ?_;(refine jF fun _=>?_)) | (refine k_tt rfl rfl ?_))
  rename_i x
  refine Nx.blkAcc (m:=0) (sz:=1) .here rfl ?_
  refine Nx.sealS (v:=.slice (some ⟨x,0,none⟩) 0 0) fun G2 hG2 hsl=>?_
  refine jZ (vs:=[_,_]) rfl ⟨rfl,rfl,trivial⟩ rfl ⟨hG2,rfl,?_⟩
  exact ⟨_,_,_,rfl,fun p hp=>by
   obtain rfl : p = []:=by unfold pathOf at hp;simpa using hp.symm
   exact ⟨rfl,hsl⟩⟩
 have cx_cutS : FnS Tryz.prog 65 [S s,U8 47] G (fun v G'=>SlV G' v 1 (cut 47 s).length (rows strF (cut 47 s))):=c_l3CutS (k:=47) oM
 have hcl:=cut_count (k:=47) (s:=s)
 have hbad:=fun {i : Nat}=>pathOf_bad h0 (i:=i)
 have hpo:=pathOf_ne h0
 have hxl : ∀ i,i < (cut 47 s).length → (nth (cut 47 s) i).length ≤ 100000000:=fun i hi=>by
  have:=cut_len (nth_mem hi)
  omega
 generalize cut 47 s = xs at *
 refine jB [(0,_)] Tryz.func38 Tryz.ntmps38 fun B hok hB hW=>?_
 repeat' (first | (refine jR ?_) | (refine jo ?_;first | refine jF fun _=>?_ | (refine c_fns rfl rfl rfl cx_cutS rfl ?_;rintro _ G hle hcut;skip)) | (refine k_ff rfl (dFf ‹_›) ?_))
 rename_i x _
 obtain ⟨la,lc,rfl⟩:=hcut.sl
 refine Nx.blkAcc (m:=0) (sz:=1) .here rfl ?_
 refine k_loop (ι:=List Int × Option Addr × Nat × Nat) (fun j=>(j.1.length = j.2.2.2 ∧ j.2.2.2 ≤ xs.length) ∧ stepsOf (xs.take j.2.2.2) = some j.1) (fun j=>[(4,.slice j.2.1 j.1.length j.2.2.1),(5,.slice la xs.length lc),(6,I j.2.2.2)]) (fun _=>G) (fun j=>[.acc (.slice j.2.1 j.1.length j.2.2.1) tIntP 1 j.1.length (rows inR j.1)]) (fun j=>xs.length - j.2.2.2) ([],some ⟨x,0,none⟩,0,0) ?_ tU rfl sRr (fun j Hj=>?_)
 ·exact ⟨⟨rfl,Nat.zero_le _⟩,rfl⟩
 obtain ⟨ps,a,c,i⟩:=j
 dsimp only at Hj ⊢
 obtain ⟨⟨hpl,hi0⟩,hst⟩:=Hj
 by_cases hi : i < xs.length
 ·obtain ⟨bl,ol,cl,e,hsx⟩:=hcut.expl oM
  simp only [Value.slice.injEq] at e
  obtain ⟨rfl,-,rfl⟩:=e
  have hxl1:=hxl i hi
  cases hn : numOf (nth xs i) 999999 with
  | none =>
   have hno:=hbad hi hn
   have hns : (!(numOf (nth xs i) 999999).isSome) = true:=by rw [hn];rfl
   repeat' (first | (refine jR ?_) | (refine jo ?_;first | refine jV (g_lenL rfl) ?_ | (refine jV (g_iaddrN rfl rfl oM) ?_) | (refine jV (g_ldRS rfl rfl aS ?_) ?_;(focus ((omega);done))) | (refine c_pu rfl rfl rfl (c_l3Num oM) rfl ?_;rintro _ ⟨n,rfl,hnum⟩)) | (refine k_tt rfl (by first | assumption | (refine decide_eq_true ?_;(omega))) ?_))
   all_goals refine jZ (vs:=[_,_]) rfl ⟨rfl,rfl,trivial⟩ rfl ⟨hle,rfl,?_⟩
   all_goals exact ⟨_,_,_,by rw [hno];rfl,fun p hp=>by rw [hno] at hp;cases hp⟩
  | some m =>
   have hns : (!(numOf (nth xs i) 999999).isSome) = false:=by rw [hn];rfl
   repeat' (first | refine jM ?_ | (refine jo ?_;first | refine jF fun _=>?_ | refine jV (g_lenL rfl) ?_ | (refine jV (g_iaddrN rfl rfl oM) ?_) | (refine jV (g_ldRS rfl rfl aS ?_) ?_;(focus ((omega);done))) | (refine c_apX rfl rfl rfl rfl rfl rfl rfl rfl rfl oM fun _ _=>?_) | (refine c_pu rfl rfl rfl (c_l3Num oM) rfl ?_;rintro _ ⟨n,rfl,hnum⟩)) | (refine k_tt rfl (dTt oM) ?_) | (refine k_ff rfl ‹_› ?_))
   rename_i y1 yc
   have hmn:=hnum m hn
   subst hmn
   have hst2 : stepsOf (xs.take (i + 1)) = some (ps ++ [n]):=by rw [take_nth hi,stepsOf_snoc hst,hn];rfl
   have hl1 : (ps ++ [n]).length = ps.length + 1:=by simp
   rw [show rows inR ps ++ [I n] = rows inR (ps ++ [n]) from (rows_snoc inR ps n).symm]
   exact k_rd (ps ++ [n],some ⟨y1,0,none⟩,yc,i + 1) ⟨⟨by dsimp only;omega,by dsimp only;omega⟩,hst2⟩ (by dsimp only;omega) (by rw [hl1];repeat (first | exact trivial | refine ⟨rfl,?_⟩)) rfl (by rw [hl1];repeat (first | exact List.nil_sublist _ | apply List.Sublist.cons_cons))
 ·rw [List.take_of_length_le oM] at hst
  rw [hst] at hpo
  dsimp only at hpo
  repeat' (first | (refine jR ?_) | (refine jo ?_;(refine jV (g_lenL rfl) ?_)) | (refine k_ff rfl (dFf oM) ?_))
  refine Nx.sealS (v:=.slice a ps.length c) fun G2 hG2 hsl=>?_
  refine jZ (vs:=[_,_]) rfl ⟨rfl,rfl,trivial⟩ rfl ⟨hle.trans hG2,rfl,?_⟩
  have e8 : decide (((xs.length : Nat) : Int) ≤ 8) = (pathOf s).isSome:=by
   rw [hpo]
   by_cases h8 : ps.length ≤ 8
   ·rw [if_pos h8];exact decide_eq_true oM
   ·rw [if_neg h8];exact decide_eq_false oM
  refine ⟨_,_,_,by rw [e8];rfl,fun p hp=>?_⟩
  rw [hpo] at hp
  split at hp
  ·simp only [Option.some.injEq] at hp;subst hp;exact ⟨rfl,hsl⟩
  ·cases hp
theorem refT_p {ts : List Ty} {c : UInt8} {r : List UInt8} (h : c.toNat ≠ 64) : refT ts (c :: r) = none:=by
 cases h2 : refT ts (c :: r) with
 | none=>rfl
 | some t=>exact (refT_no h2 rfl h).elim
theorem first_at {p : Nat → Prop} {n : Nat} (h : ∃ j,j < n ∧ p j) : ∃ j,j < n ∧ p j ∧ ∀ i,i < j → ¬ p i:=by
 obtain ⟨j,hj,hp⟩:=h
 induction j using Nat.strongRecOn with
 | _ j ih =>
  by_cases hc : ∃ i,i < j ∧ p i
  ·obtain ⟨i,hi,hpi⟩:=hc
   exact ih i hi oM hpi
  ·exact ⟨j,hj,hp,fun i hi hpi=>hc ⟨i,hi,hpi⟩⟩
theorem toldV_at {f : Fld} : ∀ {fs : List (Fld × V)} {j : Nat},j < fs.length → (nth fs j).1.tag = f.tag → (∀ i,i < j → (nth fs i).1.tag ≠ f.tag) → toldV f (fs.map fldV) = some (nth fs j).2
 | [],j,hj,_,_=>by simp at hj
 | p :: fs,0,_,ht,_=>by
  rw [List.map_cons,toldV,if_pos (show (fldV p).tag = f.tag from ht)];rfl
 | p :: fs,j + 1,hj,ht,hno=>by
  rw [List.map_cons,toldV,if_neg (show ¬ (fldV p).tag = f.tag from hno 0 oM)]
  exact toldV_at (fs:=fs) (j:=j) (by simpa using hj) ht fun i hi=>hno (i + 1) oM
theorem toldV_no {f : Fld} : ∀ {fs : List (Fld × V)},(∀ i,i < fs.length → (nth fs i).1.tag ≠ f.tag) → toldV f (fs.map fldV) = none
 | [],_=>rfl
 | p :: fs,h=>by
  rw [List.map_cons,toldV,if_neg (show ¬ (fldV p).tag = f.tag from h 0 (by simp))]
  exact toldV_no fun i hi=>h (i + 1) (by simpa using hi)
theorem valOf_rd {ts : List Ty} {k w : List UInt8} {v : V} (h : valOf ts k w = some v) : rd ts 12 k w = some (v,[]) ∧ w.length ≤ 400:=by
 unfold valOf at h
 split at h
 ·rename_i hl
  split at h
  ·rename_i v' hv;rw [hv];exact ⟨congrArg (fun x=>some (x,[])) (Option.some.inj h),hl⟩
  ·cases h
 ·cases h
theorem c_atY {b j : Nat} {k : List UInt8} {tg : List Int} {bs : List Nat} {a a2 : Option Addr} {c c2 : Nat} {n : Int} (hl : bs.length = tg.length) (h9 : tg.length ≤ 100000) (hs : Seg G b 0 [S k,S [82],.slice a tg.length c,.slice a2 tg.length c2]) (h1 : SlV G (.slice a tg.length c) 1 tg.length (rows inR tg)) (h2 : SlV G (.slice a2 tg.length c2) 1 tg.length (rows ptR bs)) (hj : j < tg.length) (hjn : nth tg j = n) (hno : ∀ i,i < j → nth tg i ≠ n) :
  PuG Tryz.prog 100 [Pt b 0,I n] G (· = Tu [Pt (nth bs j) 0,Bo true]):=by
 obtain ⟨xb,xo,xc,e,hs1⟩:=h1.expl oM
 simp only [Value.slice.injEq] at e
 obtain ⟨rfl,-,rfl⟩:=e
 obtain ⟨zb,zo,zc,e,hs2⟩:=h2.expl oM
 simp only [Value.slice.injEq] at e
 obtain ⟨rfl,-,rfl⟩:=e
 refine jE [(0,_),(1,_)] Tryz.func100 Tryz.ntmps100 fun B hB=>?_
 repeat' (refine jR ?_)
 refine k_loop (ι:=Nat) (fun i=>i ≤ j) (fun i=>[(0,Pt b 0),(1,I n),(6,I i)]) (fun _=>G) (fun i=>[]) (fun i=>j - i) 0 ?_ tU rfl sRr (fun i Hi=>?_)
 ·exact Nat.zero_le _
 have hxi : nth bs i = nth bs i:=rfl
 have hti : nth tg i = nth tg i:=rfl
 by_cases hij : i = j
 ·subst hij
  repeat' (first | (refine jR ?_) | (refine jo ?_;first | refine jV (g_ldS rfl rfl aS rfl rfl) ?_ | (refine jV (g_ldR1x rfl rfl aS ?_ aS rfl) ?_;(focus ((omega);done))) | refine jV (g_lenL rfl) ?_ | (refine jAt rfl ?_) | (refine jV (g_iaddrN rfl rfl oM) ?_)) | (refine k_gt rfl rfl (dTt oM) ?_) | (refine k_tt rfl (by first | rfl | (refine decide_eq_true ?_;(rfl))) ?_))
  all_goals refine jY (vs:=[_,_]) ?_
  all_goals rfl
 ·have h3:=hno i oM
  repeat' (first | refine jM ?_ | (refine jo ?_;first | refine jV (g_ldS rfl rfl aS rfl rfl) ?_ | (refine jV (g_ldR1x rfl rfl aS ?_ aS rfl) ?_;(focus ((omega);done))) | refine jV (g_lenL rfl) ?_ | (refine jAt rfl ?_) | (refine jV (g_iaddrN rfl rfl oM) ?_)) | (refine k_gt rfl rfl (dTt oM) ?_) | (refine k_tt rfl rfl ?_) | (refine k_ff rfl (dFf ‹_›) ?_))
  exact k_rd (i + 1) (show i + 1 ≤ j by have : i ≤ j:=Hi;omega) (by have : i ≤ j:=Hi;omega) tU rfl sRr
theorem c_atN {b : Nat} {k : List UInt8} {tg : List Int} {a a2 : Option Addr} {c c2 : Nat} {n : Int} (h9 : tg.length ≤ 100000) (hs : Seg G b 0 [S k,S [82],.slice a tg.length c,.slice a2 tg.length c2]) (h1 : SlV G (.slice a tg.length c) 1 tg.length (rows inR tg)) (hno : ∀ i,i < tg.length → nth tg i ≠ n) :
  PuG Tryz.prog 100 [Pt b 0,I n] G (· = Tu [.pointer none,Bo false]):=by
 refine jE [(0,_),(1,_)] Tryz.func100 Tryz.ntmps100 fun B hB=>?_
 repeat' (refine jR ?_)
 refine k_loop (ι:=Nat) (fun i=>i ≤ tg.length) (fun i=>[(0,Pt b 0),(1,I n),(6,I i)]) (fun _=>G) (fun i=>[]) (fun i=>tg.length - i) 0 ?_ tU rfl sRr (fun i Hi=>?_)
 ·exact Nat.zero_le _
 by_cases hi : i < tg.length
 ·obtain ⟨xb,xo,xc,e,hs1⟩:=h1.expl oM
  simp only [Value.slice.injEq] at e
  obtain ⟨rfl,-,rfl⟩:=e
  have h3:=hno i hi
  have hti : nth tg i = nth tg i:=rfl
  repeat' (first | refine jM ?_ | (refine jo ?_;first | refine jV (g_ldS rfl rfl aS rfl rfl) ?_ | (refine jV (g_ldR1x rfl rfl aS ?_ aS rfl) ?_;(focus ((omega);done))) | refine jV (g_lenL rfl) ?_ | (refine jAt rfl ?_) | (refine jV (g_iaddrN rfl rfl oM) ?_)) | (refine k_gt rfl rfl (dTt oM) ?_) | (refine k_tt rfl rfl ?_) | (refine k_ff rfl (dFf ‹_›) ?_))
  exact k_rd (i + 1) oM oM tU rfl sRr
 ·repeat' (first | (refine jR ?_) | (refine jo ?_;first | refine jV (g_ldS rfl rfl aS rfl rfl) ?_ | refine jV (g_lenL rfl) ?_ | (refine jAf rfl ?_)) | (refine k_gf rfl rfl (dFf oM) ?_) | (refine k_ff rfl rfl ?_))
  all_goals refine jY (vs:=[_,_]) ?_
  all_goals rfl
theorem c_l4Record {u : Value} {x : TyX} {k : List UInt8} {n : Int} (hu : u.oneCell' = true) (hf : SlV G (slX x) 4 x.2.fields.length (rows fldF x.2.fields)) (hl : x.2.fields.length ≤ 1000) (cx_rf : PuG Tryz.prog 116 [u,S k] G (· = Tu [Ag [U8 x.2.sort,S x.2.name,slX x],Bo true])) (hso : x.2.sort = 82) :
  PuG Tryz.prog 86 [u,S k,I n] G (· = Tu [Ag (fldF ((fldT x.2.fields n).getD zF)),Bo (fldT x.2.fields n).isSome]):=by
 have cx_fld:=c_fieldS (tag:=n) hf hl
 obtain ⟨⟨a,ca⟩,⟨so,nm,fs⟩⟩:=x
 dsimp only at hso cx_fld cx_rf ⊢
 subst hso
 dsimp only [slX] at cx_fld cx_rf ⊢
 cases hg : fldT fs n with
 | none =>
  rw [hg] at cx_fld
  simp only [Option.getD_none,Option.isSome_none] at cx_fld ⊢
  refine jE [(0,_),(1,_),(2,_)] Tryz.func86 Tryz.ntmps86 fun B hB=>?_
  repeat' (first | (refine jR ?_) | (refine jo ?_;first | refine jL fun _=>?_ | refine jC rfl rfl rfl ?_ | refine jAm rfl ?_ | (refine c_rt rfl rfl rfl cx_rf rfl ?_) | (refine c_rt rfl rfl rfl cx_fld rfl ?_)) | (refine k_any (s_anyD (id:=3) (tt:=6) rfl mixed ?_);refine jW 10 [1,2] (bts 12 6) ?_;(try (refine Nx.re (d:=26) (v':=Bo true) rfl (congrArg Value.bool rfl) ?_));refine jW 9 [3] (bts 12 14) ?_;(refine jG (bts 12 15) 0 rfl (g_ldA rfl rfl rfl rfl) ?_);((refine jG (bts 12 31) 4 rfl (g_pickT rfl rfl ?_) ?_;(focus ((rfl);done))));refine jW 6 [5] (bts 12 63) ?_;(try (refine Nx.re (d:=29) (v':=Bo false) rfl (congrArg Value.bool rfl) ?_));refine jW 5 [6] (bts 12 127) ?_;(refine jN (bts 12 255) 7 rfl ?_);refine jW 3 [8] (bts 12 511) ?_;((refine jG (bts 12 1023) 9 rfl (g_pickF rfl rfl ?_) ?_;(focus ((rfl);done))));refine jA 10 rfl ?_;(refine jC rfl rfl rfl ?_);refine jK (bts 12 2047) ?_;refine jW 0 [11] (bts 12 4095) ?_;refine jQ ?_))
  all_goals refine jZ (vs:=[_,_]) rfl ⟨rc_A rfl rfl rfl rfl,rfl,trivial⟩ rfl ⟨rfl,rfl,?_⟩
  all_goals rfl
 | some f =>
  rw [hg] at cx_fld
  simp only [Option.getD_some,Option.isSome_some] at cx_fld ⊢
  refine jE [(0,_),(1,_),(2,_)] Tryz.func86 Tryz.ntmps86 fun B hB=>?_
  repeat' (first | (refine jR ?_) | (refine jo ?_;first | refine jL fun _=>?_ | refine jC rfl rfl rfl ?_ | refine jAm rfl ?_ | (refine c_rt rfl rfl rfl cx_rf rfl ?_) | (refine c_rt rfl rfl rfl cx_fld rfl ?_)) | (refine k_any (s_anyD (id:=3) (tt:=6) rfl mixed ?_);refine jW 10 [1,2] (bts 12 6) ?_;(try (refine Nx.re (d:=26) (v':=Bo true) rfl (congrArg Value.bool rfl) ?_));refine jW 9 [3] (bts 12 14) ?_;(refine jG (bts 12 15) 0 rfl (g_ldA rfl rfl rfl rfl) ?_);((refine jG (bts 12 31) 4 rfl (g_pickT rfl rfl ?_) ?_;(focus ((rfl);done))));refine jW 6 [5] (bts 12 63) ?_;(try (refine Nx.re (d:=29) (v':=Bo true) rfl (congrArg Value.bool rfl) ?_));refine jW 5 [6] (bts 12 127) ?_;(refine jG (bts 12 255) 7 rfl (g_ld rfl rfl rfl) ?_);refine jW 3 [8] (bts 12 511) ?_;((refine jG (bts 12 1023) 9 rfl (g_pickT rfl rfl ?_) ?_;(focus ((rfl);done))));refine jA 10 rfl ?_;(refine jC rfl rfl rfl ?_);refine jK (bts 12 2047) ?_;refine jW 0 [11] (bts 12 4095) ?_;refine jQ ?_))
  all_goals refine jZ (vs:=[_,_]) rfl ⟨rc_A rfl rfl rfl rfl,rfl,trivial⟩ rfl ⟨rfl,rfl,?_⟩
  all_goals rfl
def StepP (ts : List Ty) (o : Option (List UInt8 × V)) (r : Value) (G' : Gh) : Prop:=(o = none ∧ ∃ q,r = Tu [.pointer q,Bo false]) ∨ ∃ k' v' b',o = some (k',v') ∧ r = Tu [Pt b' 0,Bo true] ∧ RepR G' ts v' k' b'
theorem StepP.no {f : FuncId} {args : List Value} {ts : List Ty} {o : Option (List UInt8 × V)} (h : FnS Tryz.prog f args G (StepP ts o)) (e : o = none) : FnS Tryz.prog f args G (fun r _=>∃ q,r = Tu [.pointer q,Bo false]):=by
 refine h.mono ?_
 rintro v G' L' ⟨h1,h2,⟨_,h3⟩ | ⟨k',v',b',h3,_⟩⟩
 ·exact ⟨h1,h2,h3⟩
 ·rw [e] at h3;cases h3
theorem StepP.yes {f : FuncId} {args : List Value} {ts : List Ty} {o : Option (List UInt8 × V)} {k' : List UInt8} {v' : V} (h : FnS Tryz.prog f args G (StepP ts o)) (e : o = some (k',v')) : FnS Tryz.prog f args G (fun r G'=>∃ b',r = Tu [Pt b' 0,Bo true] ∧ RepR G' ts v' k' b'):=by
 refine h.mono ?_
 rintro v G' L' ⟨h1,h2,⟨h3,_⟩ | ⟨k2,v2,b',h3,h4,h5⟩⟩
 ·rw [e] at h3;cases h3
 ·rw [e] at h3
  simp only [Option.some.injEq,Prod.mk.injEq] at h3
  obtain ⟨rfl,rfl⟩:=h3
  exact ⟨h1,h2,b',h4,h5⟩
theorem stepV_plain {ts : List Ty} {c : UInt8} {r : List UInt8} {v : V} {n : Int} (h1 : c.toNat ≠ 91) (h2 : c.toNat ≠ 63) (h3 : c.toNat ≠ 64) : stepV ts (c :: r) v n = none:=by
 unfold stepV;dsimp only;rw [if_neg (fun h=>by rcases h with h | h;exact h1 h;exact h2 h),refT_p h3]
theorem stepV_kid {ts : List Ty} {c : UInt8} {r : List UInt8} {v : V} {n : Int} (h : c.toNat = 91 ∨ c.toNat = 63) : stepV ts (c :: r) v n = if n < (v.kids.length : Nat) then some (r,nth v.kids n.toNat) else none:=by
 unfold stepV;dsimp only;rw [if_pos h]
theorem stepV_typ {ts : List Ty} {k : List UInt8} {v : V} {n : Int} {t : Ty} (h : refT ts k = some t) : stepV ts k v n = match fldT t.fields n with
  | none=>none
  | some f=>if t.sort = 69 then none else if t.sort = 82 then some (f.kind,getV ts v f) else if v.tag = n then some (f.kind,nth v.kids 0) else none:=by
 obtain ⟨r,rfl⟩:=refT_64 h
 unfold stepV;dsimp only;rw [if_neg dC,h]
 all_goals rfl
theorem c_stepS {u : Value} {vs : List TyX} (h : SchR G u vs) (hw : SchW (tys vs)) {k : List UInt8} {v : V} {b : Nat} (hr : RepR G (tys vs) v k b) (ho : OfK (tys vs) k v) (hki : kindIn (tys vs) k = true) {n : Int} (hn : 0 ≤ n ∧ n ≤ 999999) (htt : v.tot ≤ 1000000) :
  FnS Tryz.prog 63 [u,Pt b 0,I n] G (StepP (tys vs) (stepV (tys vs) k v n)):=by
 have hu:=h.sl.one
 obtain ⟨ua,uc,rfl⟩:=h.sl.sl
 cases hr with
 | leaf w x k tx b h1 h2 =>
  have hn82 : ¬ tx = [82]:=by
   rcases h2 with ⟨_,_,rfl,h⟩ | ⟨_,_,rfl⟩ | ⟨_,_,rfl,h⟩
   ·rintro rfl;exact absurd (h 82 (by simp)) dC
   ·simp
   ·rcases h with rfl | rfl <;> decide
  have hn85 : ¬ tx = [85]:=by
   rcases h2 with ⟨_,_,rfl,h⟩ | ⟨_,_,rfl⟩ | ⟨_,_,rfl,h⟩
   ·rintro rfl;exact absurd (h 85 (by simp)) dC
   ·simp
   ·rcases h with rfl | rfl <;> decide
  have hno : stepV (tys vs) k (.nd w x 0 []) n = none:=by
   rcases h2 with ⟨_,rfl,_⟩ | ⟨_,rfl,_⟩ | ⟨_,rfl,_⟩
   all_goals exact stepV_plain dC dC dC
  rw [hno]
  rcases h2 with ⟨rfl,rfl,_⟩ | ⟨rfl,rfl,_⟩ | ⟨rfl,rfl,_⟩
  all_goals
   refine jB [(0,_),(1,_),(2,_)] Tryz.func63 Tryz.ntmps63 fun B hok hB hW=>?_
   repeat' (first | (refine jX ?_) | (refine jo ?_;first | refine jV (g_ldS rfl rfl aS rfl rfl) ?_ | (refine jAf rfl ?_)) | (refine k_gf rfl rfl (by first | rfl | (refine decide_eq_false ?_;(assumption))) ?_) | (refine k_ff rfl rfl ?_))
   all_goals refine jZ (vs:=[_,_]) rfl ⟨rfl,rfl,trivial⟩ rfl ⟨Gh.le.refl _,rfl,?_⟩
   all_goals exact .inl ⟨rfl,_,rfl⟩
 | lst k b ks bs a c h1 h2 h3 hk =>
  have hk0 : bt (91 :: k) (Int.toNat 0) = 91:=bt_zero 91 k
  have hkl2 : (91 :: k).length = k.length + 1:=rfl
  have hst:=stepV_kid (ts:=tys vs) (c:=91) (r:=k) (v:=.nd 91 [] 0 ks) (n:=n) (.inl rfl)
  rw [V.kids] at hst
  rw [hst]
  by_cases hn2 : n < ((ks.length : Nat) : Int)
  ·obtain ⟨i,rfl⟩ : ∃ i : Nat,n = i:=⟨n.toNat,oM⟩
   obtain ⟨kb,ko,kc,e,hs⟩:=h2.expl oM
   simp only [Value.slice.injEq] at e
   obtain ⟨rfl,-,rfl⟩:=e
   have hxi : nth bs i = nth bs i:=rfl
   rw [if_pos hn2]
   refine jB [(0,_),(1,_),(2,_)] Tryz.func63 Tryz.ntmps63 fun B hok hB hW=>?_
   repeat' (first | refine jM ?_ | (refine jo ?_;first | refine jV (g_ldS rfl rfl aS rfl rfl) ?_ | (refine jV (g_ldR1x rfl rfl aS ?_ aS rfl) ?_;(focus ((omega);done))) | (refine jAt rfl ?_) | refine jV (g_lenL rfl) ?_ | (refine jV (g_iaddrN rfl rfl oM) ?_)) | (refine k_gt rfl rfl rfl ?_) | (refine k_tt rfl rfl ?_) | (refine k_ff rfl (dFf oM) ?_))
   all_goals refine jZ (vs:=[_,_]) rfl ⟨rfl,rfl,trivial⟩ rfl ⟨Gh.le.refl _,rfl,?_⟩
   all_goals exact .inr ⟨_,_,nth bs i,rfl,rfl,hk i oM⟩
  ·rw [if_neg hn2]
   refine jB [(0,_),(1,_),(2,_)] Tryz.func63 Tryz.ntmps63 fun B hok hB hW=>?_
   repeat' (first | refine jM ?_ | (refine jo ?_;first | refine jV (g_ldS rfl rfl aS rfl rfl) ?_ | (refine jAt rfl ?_) | refine jV (g_lenL rfl) ?_) | (refine k_gt rfl rfl rfl ?_) | (refine k_tt rfl (by first | rfl | (refine decide_eq_true ?_;(omega))) ?_))
   all_goals refine jZ (vs:=[_,_]) rfl ⟨rfl,rfl,trivial⟩ rfl ⟨Gh.le.refl _,rfl,?_⟩
   all_goals exact .inl ⟨rfl,_,rfl⟩
 | non k b h1 =>
  have hk0 : bt (63 :: k) (Int.toNat 0) = 63:=bt_zero 63 k
  have hkl2 : (63 :: k).length = k.length + 1:=rfl
  have hst:=stepV_kid (ts:=tys vs) (c:=63) (r:=k) (v:=.nd 63 [] 0 []) (n:=n) (.inr rfl)
  rw [V.kids,if_neg (by simp;omega)] at hst
  rw [hst]
  refine jB [(0,_),(1,_),(2,_)] Tryz.func63 Tryz.ntmps63 fun B hok hB hW=>?_
  repeat' (first | refine jM ?_ | (refine jo ?_;first | refine jV (g_ldS rfl rfl aS rfl rfl) ?_ | (refine jAf rfl ?_) | refine jV (g_lenL rfl) ?_) | (refine k_gf rfl rfl rfl ?_) | (refine k_tt rfl (by first | rfl | (refine decide_eq_true ?_;(omega))) ?_))
  all_goals refine jZ (vs:=[_,_]) rfl ⟨rfl,rfl,trivial⟩ rfl ⟨Gh.le.refl _,rfl,?_⟩
  all_goals exact .inl ⟨rfl,_,rfl⟩
 | opt k b kb b' cc w h0 h1 h2 h3 =>
  have hk0 : bt (63 :: k) (Int.toNat 0) = 63:=bt_zero 63 k
  have hkl2 : (63 :: k).length = k.length + 1:=rfl
  have hst:=stepV_kid (ts:=tys vs) (c:=63) (r:=k) (v:=.nd 63 [] 0 [w]) (n:=n) (.inr rfl)
  rw [V.kids] at hst
  rw [hst]
  by_cases hn2 : n = 0
  ·subst hn2
   rw [if_pos (by simp)]
   refine jB [(0,_),(1,_),(2,_)] Tryz.func63 Tryz.ntmps63 fun B hok hB hW=>?_
   repeat' (first | refine jM ?_ | (refine jo ?_;first | refine jV (g_ldS rfl rfl aS rfl rfl) ?_ | (refine jAf rfl ?_) | refine jV (g_lenL rfl) ?_ | (refine jV (g_iaddr rfl rfl oM) ?_)) | (refine k_gf rfl rfl rfl ?_) | (refine k_tt rfl rfl ?_) | (refine k_ff rfl rfl ?_))
   all_goals refine jZ (vs:=[_,_]) rfl ⟨rfl,rfl,trivial⟩ rfl ⟨Gh.le.refl _,rfl,?_⟩
   all_goals exact .inr ⟨_,_,b',rfl,rfl,h3⟩
  ·rw [if_neg (by simp;omega)]
   refine jB [(0,_),(1,_),(2,_)] Tryz.func63 Tryz.ntmps63 fun B hok hB hW=>?_
   repeat' (first | refine jM ?_ | (refine jo ?_;first | refine jV (g_ldS rfl rfl aS rfl rfl) ?_ | (refine jAf rfl ?_) | refine jV (g_lenL rfl) ?_) | (refine k_gf rfl rfl rfl ?_) | (refine k_tt rfl (by first | rfl | (refine decide_eq_true ?_;(omega))) ?_))
   all_goals refine jZ (vs:=[_,_]) rfl ⟨rfl,rfl,trivial⟩ rfl ⟨Gh.le.refl _,rfl,?_⟩
   all_goals exact .inl ⟨rfl,_,rfl⟩
 | enm k b tgb t d h0 h1 h2 h3 =>
  have hst:=stepV_typ (v:=.nd 69 [] d.tag []) (n:=n) h0.1
  have hno : stepV (tys vs) k (.nd 69 [] d.tag []) n = none:=by
   rw [hst]
   cases fldT t.fields n with
   | none=>rfl
   | some f=>dsimp only;rw [if_pos h0.2]
  rw [hno]
  obtain ⟨r,rfl⟩:=refT_64 h0.1
  have hk0 : bt (64 :: r) (Int.toNat 0) = 64:=bt_zero 64 r
  have hkl2 : (64 :: r).length = r.length + 1:=rfl
  refine jB [(0,_),(1,_),(2,_)] Tryz.func63 Tryz.ntmps63 fun B hok hB hW=>?_
  repeat' (first | refine jM ?_ | (refine jo ?_;first | refine jV (g_ldS rfl rfl aS rfl rfl) ?_ | (refine jAf rfl ?_)) | (refine k_gf rfl rfl rfl ?_) | (refine k_ff rfl rfl ?_))
  all_goals refine jZ (vs:=[_,_]) rfl ⟨rfl,rfl,trivial⟩ rfl ⟨Gh.le.refl _,rfl,?_⟩
  all_goals exact .inl ⟨rfl,_,rfl⟩
 | uni k b tgb kb b' cc t d w hcc h0 h1 h2 h3 h4 hk =>
  have hst:=stepV_typ (v:=.nd 85 [] d.tag [w]) (n:=n) h0.1
  have hTW:=hw.ty _ (refT_mem h0.1)
  have hso:=h0.2
  obtain ⟨r,rfl⟩:=refT_64 h0.1
  have hk0 : bt (64 :: r) (Int.toNat 0) = 64:=bt_zero 64 r
  have hkl2 : (64 :: r).length = r.length + 1:=rfl
  by_cases hdn : d.tag = n
  ·have hyes : stepV (tys vs) (64 :: r) (.nd 85 [] d.tag [w]) n = some (d.kind,w):=by
    rw [hst,← hdn,fldT_mem hTW h1]
    dsimp only
    rw [if_neg oM,if_neg oM,if_pos (show V.tag (.nd 85 [] d.tag [w]) = d.tag from rfl)];rfl
   rw [hyes]
   refine jB [(0,_),(1,_),(2,_)] Tryz.func63 Tryz.ntmps63 fun B hok hB hW=>?_
   repeat' (first | refine jM ?_ | (refine jo ?_;first | refine jV (g_ldS rfl rfl aS rfl rfl) ?_ | (refine jAt rfl ?_) | (refine jAf rfl ?_)) | (refine k_gt rfl rfl rfl ?_) | (refine k_gf rfl rfl rfl ?_) | (refine k_tt rfl rfl ?_) | (refine k_ff rfl rfl ?_))
   (refine k_any (s_any (id:=6) _ (fun _ h=>h) mixed ?_);refine jT 9 [0,1,2,6,7,8,12] (bts 16 4551) ?_;(refine jG (bts 16 4559) 3 rfl (g_ldS rfl rfl aS rfl rfl) ?_);(refine jG (bts 16 4575) 4 rfl (g_iaddr rfl rfl oM) ?_);(refine jG (bts 16 4607) 5 rfl (g_ldS rfl rfl aS rfl rfl) ?_);refine jT 5 [14] (bts 16 20991) ?_;(refine jG (bts 16 21503) 9 rfl (g_ldS rfl rfl aS rfl rfl) ?_);(refine jG (bts 16 22527) 10 rfl (g_iaddr rfl rfl oM) ?_);(refine jG (bts 16 24575) 11 rfl (g_ldS rfl rfl aS rfl rfl) ?_);refine jT 0 [13,15] (bts 16 65535) ?_;refine jQ ?_)
   all_goals repeat' (refine jR ?_)
   all_goals refine jZ (vs:=[_,_]) rfl ⟨rfl,rfl,trivial⟩ rfl ⟨Gh.le.refl _,rfl,?_⟩
   all_goals (try rw [decide_eq_true hdn])
   all_goals exact .inr ⟨_,_,b',rfl,rfl,hk⟩
  ·have hno : stepV (tys vs) (64 :: r) (.nd 85 [] d.tag [w]) n = none:=by
    rw [hst]
    cases fldT t.fields n with
    | none=>rfl
    | some f =>
     dsimp only
     rw [if_neg oM,if_neg oM,if_neg (show ¬ V.tag (.nd 85 [] d.tag [w]) = n from hdn)]
   rw [hno]
   refine jB [(0,_),(1,_),(2,_)] Tryz.func63 Tryz.ntmps63 fun B hok hB hW=>?_
   repeat' (first | refine jM ?_ | (refine jo ?_;first | refine jV (g_ldS rfl rfl aS rfl rfl) ?_ | (refine jAt rfl ?_) | (refine jAf rfl ?_)) | (refine k_gt rfl rfl rfl ?_) | (refine k_gf rfl rfl rfl ?_) | (refine k_tt rfl rfl ?_) | (refine k_ff rfl rfl ?_))
   (refine k_any (s_any (id:=6) _ (fun _ h=>h) mixed ?_);refine jT 9 [0,1,2,6,7,8,12] (bts 16 4551) ?_;(refine jG (bts 16 4559) 3 rfl (g_ldS rfl rfl aS rfl rfl) ?_);(refine jG (bts 16 4575) 4 rfl (g_iaddr rfl rfl oM) ?_);(refine jG (bts 16 4607) 5 rfl (g_ldS rfl rfl aS rfl rfl) ?_);refine jT 5 [14] (bts 16 20991) ?_;(refine jG (bts 16 21503) 9 rfl (g_ldS rfl rfl aS rfl rfl) ?_);(refine jG (bts 16 22527) 10 rfl (g_iaddr rfl rfl oM) ?_);(refine jG (bts 16 24575) 11 rfl (g_ldS rfl rfl aS rfl rfl) ?_);refine jT 0 [13,15] (bts 16 65535) ?_;refine jQ ?_)
   all_goals repeat' (refine jR ?_)
   all_goals refine jZ (vs:=[_,_]) rfl ⟨rfl,rfl,trivial⟩ rfl ⟨Gh.le.refl _,rfl,?_⟩
   all_goals (try rw [decide_eq_false hdn])
   all_goals exact .inl ⟨rfl,_,rfl⟩
 | recd k b t fs bs a a2 c c2 h0 h1 h2 h3 h4 h5 hk =>
  have hst:=stepV_typ (v:=.nd 82 [] 0 (fs.map fldV)) (n:=n) h0.1
  have hTW:=hw.ty _ (refT_mem h0.1)
  have hso:=h0.2
  have hkk:=kindOk_kOk (kindIn_ok hki)
  obtain ⟨r,rfl⟩:=refT_64 h0.1
  have hk0 : bt (64 :: r) (Int.toNat 0) = 64:=bt_zero 64 r
  have hkl2 : (64 :: r).length = r.length + 1:=rfl
  have hvl : vs.length ≤ 8:=by have:=hw.len;unfold tys at this;simpa using this
  have href:=refV_ty vs (64 :: r)
  have cx_rf:=c_ref (k:=64 :: r) h oM hkk.1 oM
  rcases hrv : refV vs (64 :: r) with _ | x
  ·rw [hrv,h0.1] at href;cases href
  rw [hrv] at href cx_rf
  have htx : x.2 = t:=by rw [h0.1] at href;exact Option.some.inj href
  subst htx
  have hxm:=refV_mem hrv
  have hfl:=hTW.len
  have cx_rec:=c_l4Record (n:=n) hu (h.fl x hxm) oM cx_rf hso
  cases hg : fldT x.2.fields n with
  | none =>
   rw [hg] at hst cx_rec
   have hno : stepV (tys vs) (64 :: r) (.nd 82 [] 0 (fs.map fldV)) n = none:=hst
   rw [show (fs.map fun p=>V.nd 61 [] p.1.tag [p.2]) = fs.map fldV from rfl,hno]
   refine jB [(0,_),(1,_),(2,_)] Tryz.func63 Tryz.ntmps63 fun B hok hB hW=>?_
   repeat' (first | refine jM ?_ | (refine jo ?_;first | refine jV (g_ldS rfl rfl aS rfl rfl) ?_ | (refine jAt rfl ?_) | (refine jAf rfl ?_) | refine jL fun _=>?_ | refine jC rfl rfl rfl ?_ | (refine c_rt rfl rfl rfl cx_rec rfl ?_)) | (refine k_gt rfl rfl rfl ?_) | (refine k_gf rfl rfl rfl ?_) | (refine k_tt rfl rfl ?_) | (refine k_ff rfl rfl ?_))
   all_goals refine jZ (vs:=[_,_]) rfl ⟨rfl,rfl,trivial⟩ rfl ⟨Gh.le.refl _,rfl,?_⟩
   all_goals exact .inl ⟨rfl,_,rfl⟩
  | some f =>
   rw [hg] at hst cx_rec
   simp only [Option.getD_some,Option.isSome_some] at cx_rec
   have hfm:=List.mem_of_find?_eq_some hg
   have hft : f.tag = n:=by have:=List.find?_some hg;simpa using this
   have hyes : stepV (tys vs) (64 :: r) (.nd 82 [] 0 (fs.map fldV)) n = some (f.kind,getV (tys vs) (.nd 82 [] 0 (fs.map fldV)) f):=by
    rw [hst];dsimp only;rw [if_neg oM,if_pos hso]
   rw [show (fs.map fun p=>V.nd 61 [] p.1.tag [p.2]) = fs.map fldV from rfl,hyes]
   have hfs9 : fs.length ≤ 100000:=by
    have h7:=tots_len (fs.map fldV)
    rw [nd_tot] at htt
    have e1 : (fs.map fldV).length = fs.length:=by simp
    have e2 : (fs.map fun p=>V.nd 61 [] p.1.tag [p.2]) = fs.map fldV:=rfl
    rw [e2] at htt
    omega
   have htn : ∀ i,i < fs.length → nth (fs.map fun p : Fld × V=>p.1.tag) i = (nth fs i).1.tag:=fun i hi=>by rw [nth_eq (by simpa using hi),nth_eq hi];simp
   have htl : (fs.map fun p : Fld × V=>p.1.tag).length = fs.length:=by simp
   by_cases hex : ∃ j,j < fs.length ∧ (nth fs j).1.tag = n
   ·obtain ⟨j,hj,hjn,hjf⟩:=first_at hex
    have hget : getV (tys vs) (.nd 82 [] 0 (fs.map fldV)) f = (nth fs j).2:=by
     unfold getV
     rw [V.kids,toldV_at hj (by rw [hjn,hft]) (fun i hi=>by rw [hft];exact hjf i hi)];rfl
    have hkd : (nth fs j).1 = f:=fld_tag hTW (h5 j hj) hfm (by rw [hjn,hft])
    rw [hget]
    have cx_at:=c_atY (tg:=fs.map fun p : Fld × V=>p.1.tag) (n:=n) (by rw [h4,htl]) oM (by rw [htl];exact h1) (by rw [htl];exact h2) (by rw [htl];exact h3) (by rw [htl];exact hj) (by rw [htn j hj];exact hjn) (fun i hi=>by rw [htn i oM];exact hjf i hi)
    have hrj:=hk j hj
    rw [hkd] at hrj
    refine jB [(0,_),(1,_),(2,_)] Tryz.func63 Tryz.ntmps63 fun B hok hB hW=>?_
    repeat' (first | refine jM ?_ | (refine jo ?_;first | refine jV (g_ldS rfl rfl aS rfl rfl) ?_ | (refine jAt rfl ?_) | (refine jAf rfl ?_) | refine jL fun _=>?_ | refine jC rfl rfl rfl ?_ | (refine c_rt rfl rfl rfl cx_rec rfl ?_) | (refine c_rt rfl rfl rfl cx_at rfl ?_)) | (refine k_gt rfl rfl rfl ?_) | (refine k_gf rfl rfl rfl ?_) | (refine k_tt rfl rfl ?_) | (refine k_ff rfl rfl ?_))
    all_goals refine jZ (vs:=[_,_]) rfl ⟨rfl,rfl,trivial⟩ rfl ⟨Gh.le.refl _,rfl,?_⟩
    all_goals exact .inr ⟨_,_,nth bs j,rfl,rfl,hrj⟩
   ·have hjno : ∀ i,i < fs.length → (nth fs i).1.tag ≠ n:=fun i hi e=>hex ⟨i,hi,e⟩
    have hget : getV (tys vs) (.nd 82 [] 0 (fs.map fldV)) f = standV (tys vs) f:=by
     unfold getV
     rw [V.kids,toldV_no fun i hi=>by rw [hft];exact hjno i hi];rfl
    rw [hget]
    obtain ⟨g1,g2,g3⟩:=standV_ok hw (refT_mem h0.1) oM hfm
    obtain ⟨g4,g5⟩:=valOf_rd g2
    have hdk : kindIn (tys vs) f.kind = true:=kind_in hw (refT_mem h0.1) oM hfm
    have cx_at:=c_atN (tg:=fs.map fun p : Fld × V=>p.1.tag) (n:=n) oM (by rw [htl];exact h1) (by rw [htl];exact h2) (fun i hi=>by rw [htn i oM];exact hjno i oM)
    have cx_sta:=c_standS (f:=f) h hw hdk
    have cx_rd:=readC_all (u:=.slice ua vs.length uc) (vs:=vs) hw 12 oM G f.kind (standF (tys vs) f) h hdk oM
    rw [g4] at cx_rd
    refine jB [(0,_),(1,_),(2,_)] Tryz.func63 Tryz.ntmps63 fun B hok hB hW=>?_
    repeat' (first | refine jM ?_ | (refine jo ?_;first | refine jV (g_ldS rfl rfl aS rfl rfl) ?_ | (refine jAt rfl ?_) | (refine jAf rfl ?_) | refine jL fun _=>?_ | refine jC rfl rfl rfl ?_ | (refine c_rt rfl rfl rfl cx_rec rfl ?_) | (refine c_rt rfl rfl rfl cx_at rfl ?_)) | (refine k_gt rfl rfl rfl ?_) | (refine k_gf rfl rfl rfl ?_) | (refine k_tt rfl rfl ?_) | (refine k_ff rfl rfl ?_))
    (refine k_any (s_any (id:=14) _ (fun _ h=>h) mixed ?_);refine jT 12 [0,2,5] (bts 15 37) ?_;(refine jG (bts 15 39) 1 rfl (g_bld rfl rfl) ?_);(refine jG (bts 15 47) 3 rfl (g_ldA rfl rfl rfl rfl) ?_);(refine jG (bts 15 111) 6 rfl (g_ld rfl rfl rfl) ?_);refine jA 4 rfl ?_;(refine c_rt rfl rfl rfl cx_sta rfl ?_);refine jS (bts 15 127) ?_;refine jA 7 rfl ?_;(refine c_fns rfl rfl rfl cx_rd rfl ?_;rintro _ G hle ⟨q1,r1,ok1,rfl,hyes,hno⟩;skip);refine jS (bts 15 255) ?_;refine jT 0 [8,9,10,11,12,13,14] (bts 15 32767) ?_;refine jQ ?_)
    all_goals
     cases ok1 with
     | false=>cases hno rfl
     | true =>
      obtain ⟨w,wb,rfl,hf,hrep⟩:=hyes rfl
      simp only [Option.some.injEq,Prod.mk.injEq] at hf
      obtain ⟨rfl,rfl⟩:=hf
      repeat' (first | (refine jR ?_) | (refine jo ?_;(refine jAt rfl ?_)) | (refine k_gt rfl rfl rfl ?_))
      all_goals refine jZ (vs:=[_,_]) rfl ⟨rfl,rfl,trivial⟩ rfl ⟨hle,rfl,?_⟩
      all_goals exact .inr ⟨_,_,wb,rfl,rfl,hrep⟩
theorem standV_tot {ts : List Ty} (hw : SchW ts) {t : Ty} (ht : t ∈ ts) (hs : t.sort ≠ 69) {d : Fld} (hd : d ∈ t.fields) : (standV ts d).tot ≤ 40000:=by
 obtain ⟨g4,g5⟩:=valOf_rd (standV_ok hw ht hs hd).2.1
 have:=rd_tot _ _ _ _ g4
 dsimp only at this
 simp only [List.length_nil] at this
 omega
theorem stepV_tot {ts : List Ty} (hw : SchW ts) {k : List UInt8} {v : V} (h : OfK ts k v) (hk : kindIn ts k = true) {n : Int} (hn : 0 ≤ n) {k' : List UInt8} {v' : V} (e : stepV ts k v n = some (k',v')) {N : Nat} (hv : v.tot ≤ N) (hN : 40000 ≤ N) : v'.tot ≤ N:=by
 obtain ⟨c,r,rfl⟩:=kind_ne hk
 unfold stepV at e
 dsimp only at e
 split at e
 ·rename_i hc
  split at e
  ·rename_i hlt
   simp only [Option.some.injEq,Prod.mk.injEq] at e
   obtain ⟨rfl,rfl⟩:=e
   have h1:=tot_nth (ks:=v.kids) (i:=n.toNat) oM
   obtain ⟨w,x,t,ks⟩:=v
   rw [nd_tot] at hv
   rw [V.kids] at h1 ⊢
   omega
  ·cases e
 ·split at e
  ·cases e
  ·rename_i t hr
   have ht:=refT_mem hr
   split at e
   ·cases e
   ·rename_i f hf
    have hfm:=List.mem_of_find?_eq_some hf
    split at e
    ·cases e
    ·rename_i h69
     split at e
     ·rename_i h82
      simp only [Option.some.injEq,Prod.mk.injEq] at e
      obtain ⟨rfl,rfl⟩:=e
      rcases ofK_inv_t h hr with ⟨_,fs,rfl,g3,g4,_,_⟩ | ⟨h1,_⟩ | ⟨h1,_⟩
      ·unfold getV
       rw [V.kids]
       cases hto : toldV f (fs.map fldV) with
       | none =>
        have:=standV_tot hw ht h69 hfm
        show (standV ts f).tot ≤ N
        omega
       | some u =>
        obtain ⟨_,p,hp,_,rfl⟩:=toldV_of (hw.ty t ht) hfm (fun p hp=>⟨g3 p hp,g4 p hp⟩) hto
        have h2:=tots_mem (List.mem_map_of_mem (f:=fldV) hp)
        rw [nd_tot] at hv
        simp only [fldV,nd_tot,V.tots] at h2
        show p.2.tot ≤ N
        omega
      ·omega
      ·omega
     ·rename_i h82
      split at e
      ·simp only [Option.some.injEq,Prod.mk.injEq] at e
       obtain ⟨rfl,rfl⟩:=e
       rcases ofK_inv_t h hr with ⟨h1,_⟩ | ⟨h1,_⟩ | ⟨_,_,d,u,rfl,g4,g5⟩
       ·omega
       ·omega
       ·simp only [nd_tot,V.tots] at hv
        show u.tot ≤ N
        omega
      ·cases e
theorem followV_tot {ts : List Ty} (hw : SchW ts) : ∀ {p : List Int} {k : List UInt8} {v : V} {k' : List UInt8} {v' : V},OfK ts k v → kindIn ts k = true → (∀ n ∈ p,0 ≤ n) → followV ts k v p = some (k',v') → ∀ {N : Nat},v.tot ≤ N → 40000 ≤ N → v'.tot ≤ N
 | [],k,v,k',v',h,hk,_,e,N,hv,hN=>by
  simp only [followV,Option.some.injEq,Prod.mk.injEq] at e
  obtain ⟨rfl,rfl⟩:=e
  exact hv
 | n :: p,k,v,k',v',h,hk,hp,e,N,hv,hN=>by
  unfold followV at e
  cases hs : stepV ts k v n with
  | none=>rw [hs] at e;cases e
  | some x =>
   rw [hs] at e
   obtain ⟨k1,v1⟩:=x
   obtain ⟨h1,h2⟩:=stepV_ok hw h hk (hp n (by simp)) hs
   exact followV_tot hw h1 h2 (fun m hm=>hp m (by simp [hm])) e (stepV_tot hw h hk (hp n (by simp)) hs hv hN) hN
theorem followV_drop {ts : List Ty} {p : List Int} {i : Nat} (hi : i < p.length) {k : List UInt8} {v : V} : followV ts k v (p.drop i) = match stepV ts k v (nth p i) with
  | none=>none
  | some (k',v')=>followV ts k' v' (p.drop (i + 1)):=by
 rw [List.drop_eq_getElem_cons hi,nth_eq hi,followV]
 all_goals (cases stepV ts k v p[i] <;> rfl)
theorem repR_seg {ts : List Ty} {v : V} {k : List UInt8} {b : Nat} (h : RepR G ts v k b) : ∃ x y z,Seg G b 0 [S k,x,y,z]:=by
 cases h with
 | leaf w x k tx b h1 h2=>exact ⟨_,_,_,h1⟩
 | lst k b ks bs a c h1 h2 h3 hk=>exact ⟨_,_,_,h1⟩
 | non k b h1=>exact ⟨_,_,_,h1⟩
 | opt k b kb b' cc w h0 h1 h2 h3=>exact ⟨_,_,_,h1⟩
 | recd k b t fs bs a a2 c c2 h0 h1 h2 h3 h4 h5 hk=>exact ⟨_,_,_,h1⟩
 | enm k b tgb t d h0 h1 h2 h3=>exact ⟨_,_,_,h2⟩
 | uni k b tgb kb b' cc t d w hcc h0 h1 h2 h3 h4 hk=>exact ⟨_,_,_,h2⟩
theorem c_walkS {u : Value} {vs : List TyX} (h : SchR G u vs) (hw : SchW (tys vs)) {p : List Int} {pv : Value} (hp : SlV G pv 1 p.length (rows inR p)) (hpn : ∀ n ∈ p,0 ≤ n ∧ n ≤ 999999) (hpl : p.length ≤ 1000) {k : List UInt8} {v : V} {b : Nat} (hr : RepR G (tys vs) v k b) (ho : OfK (tys vs) k v) (hki : kindIn (tys vs) k = true) (htt : v.tot ≤ 1000000) :
  FnS Tryz.prog 48 [u,Pt b 0,pv] G (StepP (tys vs) (followV (tys vs) k v p)):=by
 have hu:=h.sl.one
 obtain ⟨pa,pc,rfl⟩:=hp.sl
 refine jB [(0,_),(1,_),(2,_)] Tryz.func48 Tryz.ntmps48 fun B hok hB hW=>?_
 repeat' (refine jR ?_)
 refine k_loop (ι:=List UInt8 × V × Nat × Nat × Gh) (fun j=>((RepR j.2.2.2.2 (tys vs) j.2.1 j.1 j.2.2.1 ∧ OfK (tys vs) j.1 j.2.1) ∧ (kindIn (tys vs) j.1 = true ∧ j.2.1.tot ≤ 1000000)) ∧ (Gh.le G j.2.2.2.2 ∧ j.2.2.2.1 ≤ p.length) ∧ followV (tys vs) k v p = followV (tys vs) j.1 j.2.1 (p.drop j.2.2.2.1)) (fun j=>[(0,u),(1,Pt j.2.2.1 0),(2,.slice pa p.length pc),(8,I j.2.2.2.1)]) (fun j=>j.2.2.2.2) (fun j=>[]) (fun j=>p.length - j.2.2.2.1) (k,v,b,0,G) ?_ tU rfl sRr (fun j Hj=>?_)
 ·exact ⟨⟨⟨hr,ho⟩,hki,htt⟩,⟨Gh.le.refl _,Nat.zero_le _⟩,rfl⟩
 obtain ⟨k0,v0,b0,i,Gq⟩:=j
 dsimp only at Hj ⊢
 obtain ⟨⟨⟨hr0,ho0⟩,hk0,ht0⟩,⟨hgq,hi0⟩,he⟩:=Hj
 by_cases hi : i < p.length
 ·obtain ⟨xb,xo,xc,e,hs1⟩:=(hp.mono hgq).expl oM
  simp only [Value.slice.injEq] at e
  obtain ⟨rfl,-,rfl⟩:=e
  have hni:=hpn _ (nth_mem hi)
  have hti : nth p i = nth p i:=rfl
  have hstp:=c_stepS (h.mono hgq) hw hr0 ho0 hk0 hni ht0
  rw [followV_drop hi] at he
  cases hsv : stepV (tys vs) k0 v0 (nth p i) with
  | none =>
   have cx_stn:=StepP.no hstp hsv
   rw [hsv] at he
   repeat' (first | (refine jR ?_) | (refine jo ?_;first | refine jV (g_lenL rfl) ?_ | (refine jV (g_iaddrN rfl rfl oM) ?_) | (refine jV (g_ldR1x rfl rfl aS ?_ aS rfl) ?_;(focus ((omega);done))) | (refine c_fns rfl rfl rfl cx_stn rfl ?_;rintro _ G hle ⟨q1,rfl⟩;skip)) | (refine k_tt rfl (by first | rfl | (refine decide_eq_true ?_;(omega))) ?_))
   all_goals refine jZ (vs:=[_,_]) rfl ⟨rfl,rfl,trivial⟩ rfl ⟨hgq.trans hle,rfl,?_⟩
   all_goals exact .inl ⟨he,_,rfl⟩
  | some y =>
   obtain ⟨k1,v1⟩:=y
   have cx_sty:=StepP.yes hstp hsv
   rw [hsv] at he
   obtain ⟨g1,g2⟩:=stepV_ok hw ho0 hk0 hni.1 hsv
   have g3:=stepV_tot hw ho0 hk0 hni.1 hsv ht0 oM
   repeat' (first | refine jM ?_ | (refine jo ?_;first | refine jV (g_lenL rfl) ?_ | (refine jV (g_iaddrN rfl rfl oM) ?_) | (refine jV (g_ldR1x rfl rfl aS ?_ aS rfl) ?_;(focus ((omega);done))) | (refine c_fns rfl rfl rfl cx_sty rfl ?_;rintro _ G hle ⟨b1,rfl,hrep1⟩;skip)) | (refine k_tt rfl (dTt oM) ?_) | (refine k_ff rfl rfl ?_))
   exact k_rd (k1,v1,b1,i + 1,G) ⟨⟨⟨hrep1,g1⟩,g2,g3⟩,⟨hgq.trans hle,by dsimp only;omega⟩,he⟩ (by dsimp only;omega) tU rfl sRr
 ·have hd : p.drop i = []:=List.drop_eq_nil_of_le oM
  rw [hd] at he
  repeat' (first | (refine jR ?_) | (refine jo ?_;(refine jV (g_lenL rfl) ?_)) | (refine k_ff rfl (dFf oM) ?_))
  all_goals refine jZ (vs:=[_,_]) rfl ⟨rfl,rfl,trivial⟩ rfl ⟨hgq,rfl,?_⟩
  all_goals exact .inr ⟨_,_,b0,he,rfl,hr0⟩
theorem c_l4OfX {s k w : List UInt8} {v : V} {ts : List Ty} (h : s.length ≤ 1048576 ∧ k.length ≤ 1048576 ∧ w.length ≤ 1048576) (hs : schemaOf s = some ts) (hki : kindIn ts k = true) (hvo : valOf ts k w = some v) :
  FnS Tryz.prog 36 [S s,S k,S w] G (fun r G'=>∃ a c vs b,r = Tu [.slice a vs.length c,Pt b 0,Bo true] ∧ SchR G' (.slice a vs.length c) vs ∧ tys vs = ts ∧ RepR G' ts v k b):=by
 have hw:=schemaOf_w hs
 have hk : kindS s k = true:=by unfold kindS;rw [hs];exact hki
 obtain ⟨h12,hl⟩:=valOf_rd hvo
 have cx_lka : ∀ G,FnS Tryz.prog 60 [S s,S k] G (fun v G'=>∃ a c vs,v = Tu [.slice a vs.length c,Bo true] ∧ SchR G' (.slice a vs.length c) vs ∧ tys vs = ts):=fun G=>by
  refine (c_l3Kind (G:=G) (s:=s) (k:=k) oM oM).mono ?_
  rintro v G' L' ⟨h1,h2,u,vs,rfl,h4,_,h6⟩
  obtain ⟨_,⟨rfl,h0⟩ | ⟨b,o,cap,rfl,_,_⟩⟩:=h4.sl
  ·exact ⟨h1,h2,none,0,vs,by rw [hk,h0],by rw [h0];exact h4,h6 ts hs hki⟩
  ·exact ⟨h1,h2,_,cap,vs,by rw [hk],h4,h6 ts hs hki⟩
 refine jB [(0,_),(1,_),(2,_)] Tryz.func36 Tryz.ntmps36 fun B hok hB hW=>?_
 repeat' (first | (refine jR ?_) | (refine jo ?_;first | (refine jAf rfl ?_) | refine jV (g_bld rfl rfl) ?_ | (refine c_fns rfl rfl rfl (cx_lka _) rfl ?_;rintro _ G hle ⟨av1,cv1,vs1,rfl,hR1,hT1⟩;skip)) | (refine k_gf rfl rfl rfl ?_) | (refine k_ff rfl (dFf oM) ?_))
 subst hT1
 have cx_rd : FnS Tryz.prog 50 [Ag [.slice av1 vs1.length cv1],S w,S k,I (12 : Nat)] G (fun r G'=>∃ b,r = Tu [Pt b 0,S [],Bo true] ∧ RepR G' (tys vs1) v k b):=by
  refine (readC_all (u:=.slice av1 vs1.length cv1) (vs:=vs1) hw 12 oM G k w hR1 hki oM).mono ?_
  rintro r G' L' ⟨h1,h2,q,rest,ok,rfl,h3,h4⟩
  cases ok with
  | false=>rw [h12] at h4;cases h4 rfl
  | true =>
   obtain ⟨v',b,rfl,h5,h6⟩:=h3 rfl
   rw [h12] at h5
   simp only [Option.some.injEq,Prod.mk.injEq] at h5
   obtain ⟨rfl,rfl⟩:=h5
   exact ⟨h1,h2,b,rfl,h6⟩
 refine jo ?_
 refine c_fns rfl rfl rfl cx_rd rfl ?_
 rintro _ G2 hle2 ⟨b,rfl,hrep⟩
 repeat' (first | (refine jR ?_) | (refine jo ?_;(refine jAt rfl ?_)) | (refine k_gt rfl rfl rfl ?_))
 refine jZ (vs:=[_,_,_]) rfl ⟨rfl,rfl,rfl,trivial⟩ rfl ⟨(Gh.le.trans hle hle2),rfl,?_⟩
 exact ⟨_,_,_,b,rfl,hR1.mono hle2,rfl,hrep⟩
def pathGetV (s k w p : List UInt8) : Option (List UInt8 × List UInt8):=match schemaOf s,givenV s k w,pathOf p with
 | some ts,some u,some q=>(followV ts k u q).map fun x=>(x.1,x.2.out)
 | _,_,_=>none
theorem pgv_none {s k : List UInt8} {o : Option (List Int)} : (match schemaOf s,(none : Option V),o with
 | some ts,some u,some q=>(followV ts k u q).map fun x=>(x.1,x.2.out)
 | _,_,_=>none) = none:=by cases schemaOf s <;> rfl
def pgR (o : Option (List UInt8 × List UInt8)) : Value:=Tu [S ((o.map (·.1)).getD []),S ((o.map (·.2)).getD []),Bo o.isSome]
theorem steps_no {s : List UInt8} (h : s.length ≤ 1048576) (hp : pathOf s = none) : ∀ G,FnS Tryz.prog 38 [S s] G (fun v _=>∃ a c n,v = Tu [.slice a n c,Bo false] ∧ True):=fun G=>by
 refine (c_stepsS (G:=G) h).mono ?_
 rintro v G' L' ⟨h1,h2,a,c,n,rfl,_⟩
 exact ⟨h1,h2,a,c,n,by rw [hp];rfl,trivial⟩
theorem steps_yes {s : List UInt8} {p : List Int} (h : s.length ≤ 1048576) (hp : pathOf s = some p) : ∀ G,FnS Tryz.prog 38 [S s] G (fun v G'=>∃ a c n,v = Tu [.slice a n c,Bo true] ∧ n = p.length ∧ SlV G' (.slice a n c) 1 p.length (rows inR p)):=fun G=>by
 refine (c_stepsS (G:=G) h).mono ?_
 rintro v G' L' ⟨h1,h2,a,c,n,rfl,h3⟩
 exact ⟨h1,h2,a,c,n,by rw [hp];rfl,h3 p hp⟩
theorem pathOf_le {s : List UInt8} {p : List Int} (h : pathOf s = some p) : p.length ≤ 8 ∧ ∀ n ∈ p,0 ≤ n ∧ n ≤ 999999:=by
 unfold pathOf at h
 split at h
 ·simp only [Option.some.injEq] at h;subst h;simp
 ·split at h
  ·rename_i q hq
   split at h
   ·rename_i h8
    simp only [Option.some.injEq] at h;subst h
    exact ⟨h8,(stepsOf_len hq).2⟩
   ·cases h
  ·cases h
theorem c_PathGetS {s k w p : List UInt8} (h1 : s.length ≤ 1048576 ∧ k.length ≤ 1048576 ∧ w.length ≤ 1048576 ∧ p.length ≤ 1048576) : PuG Tryz.prog 28 [S s,S k,S w,S p] G (· = pgR (pathGetV s k w p)):=by
 unfold pathGetV
 cases hg : givenV s k w with
 | none =>
  rw [pgv_none]
  have cx_la0:=fun G=>c_l4Of0 (G:=G) (s:=s) (k:=k) (w:=w) oM hg
  cases hpo : pathOf p with
  | none =>
   have cx_sp:=steps_no h1.2.2.2 hpo
   refine jB (Post:=fun v G' L'=>G' = G ∧ L' = [] ∧ _) [(0,_),(1,_),(2,_),(3,_)] Tryz.func28 Tryz.ntmps28 fun B hok hB hW=>?_
   repeat' (first | (refine jR ?_) | (refine jo ?_;first | (refine jAt rfl ?_) | (refine c_fns rfl rfl rfl (cx_la0 _) rfl ?_;rintro _ G hle ⟨ua,qa,rfl⟩;skip) | (refine c_fns rfl rfl rfl (cx_sp _) rfl ?_;rintro _ G hle ⟨sa,sc,sn,rfl,hsp⟩;skip)) | (refine k_gt rfl rfl rfl ?_) | (refine k_tt rfl rfl ?_))
   all_goals refine Nx.base hok hB ?_
   all_goals refine jY (vs:=[_,_,_]) ?_
   all_goals rfl
  | some q =>
   have cx_sp:=steps_yes h1.2.2.2 hpo
   refine jB (Post:=fun v G' L'=>G' = G ∧ L' = [] ∧ _) [(0,_),(1,_),(2,_),(3,_)] Tryz.func28 Tryz.ntmps28 fun B hok hB hW=>?_
   repeat' (first | (refine jR ?_) | (refine jo ?_;first | (refine jAt rfl ?_) | (refine c_fns rfl rfl rfl (cx_la0 _) rfl ?_;rintro _ G hle ⟨ua,qa,rfl⟩;skip) | (refine c_fns rfl rfl rfl (cx_sp _) rfl ?_;rintro _ G hle ⟨sa,sc,sn,rfl,hsp⟩;skip)) | (refine k_gt rfl rfl rfl ?_) | (refine k_tt rfl rfl ?_))
   all_goals refine Nx.base hok hB ?_
   all_goals refine jY (vs:=[_,_,_]) ?_
   all_goals rfl
 | some u =>
  obtain ⟨ts,hs,hki,hvo,hto,hwf⟩:=given_some hg
  have cx_l4x:=c_l4OfX (G:=G) (s:=s) (k:=k) (w:=w) oM hs hki hvo
  rw [hs]
  cases hpo : pathOf p with
  | none =>
   have cx_sp:=steps_no h1.2.2.2 hpo
   refine jB (Post:=fun v G' L'=>G' = G ∧ L' = [] ∧ _) [(0,_),(1,_),(2,_),(3,_)] Tryz.func28 Tryz.ntmps28 fun B hok hB hW=>?_
   repeat' (first | (refine jR ?_) | (refine jo ?_;first | (refine jAf rfl ?_) | (refine c_fns rfl rfl rfl cx_l4x rfl ?_;rintro _ G hle ⟨av1,cv1,vs1,b1,rfl,hR1,hT1,hrep⟩;skip) | (refine c_fns rfl rfl rfl (cx_sp _) rfl ?_;rintro _ G hle ⟨sa,sc,sn,rfl,hsp⟩;skip)) | (refine k_gf rfl rfl rfl ?_) | (refine k_tt rfl rfl ?_))
   all_goals refine Nx.base hok hB ?_
   all_goals refine jY (vs:=[_,_,_]) ?_
   all_goals rfl
  | some q =>
   have cx_sp:=steps_yes h1.2.2.2 hpo
   obtain ⟨hq8,hqn⟩:=pathOf_le hpo
   have hof:=valOf_of_k hvo
   have hw:=schemaOf_w hs
   dsimp only
   refine jB (Post:=fun v G' L'=>G' = G ∧ L' = [] ∧ _) [(0,_),(1,_),(2,_),(3,_)] Tryz.func28 Tryz.ntmps28 fun B hok hB hW=>?_
   repeat' (first | (refine jR ?_) | (refine jo ?_;first | (refine jAf rfl ?_) | (refine c_fns rfl rfl rfl cx_l4x rfl ?_;rintro _ G hle ⟨av1,cv1,vs1,b1,rfl,hR1,hT1,hrep⟩;(try have hrep:=RepR.mono hle hrep);(try have hR1:=SchR.mono hR1 hle)) | (refine c_fns rfl rfl rfl (cx_sp _) rfl ?_;rintro _ G hle ⟨sa,sc,sn,rfl,hsp⟩;(try have hrep:=RepR.mono hle hrep);(try have hR1:=SchR.mono hR1 hle))) | (refine k_gf rfl rfl rfl ?_) | (refine k_ff rfl rfl ?_))
   obtain ⟨rfl,hsp⟩:=hsp
   subst hT1
   have hwk:=c_walkS hR1 hw hsp hqn oM hrep hof hki oM
   cases hfo : followV (tys vs1) k u q with
   | none =>
    have cx_wan:=StepP.no hwk hfo
    repeat' (first | (refine jR ?_) | (refine jo ?_;(refine c_fns rfl rfl rfl cx_wan rfl ?_;rintro _ G hle ⟨q1,rfl⟩;(try have hrep:=RepR.mono hle hrep);(try have hR1:=SchR.mono hR1 hle))) | (refine k_tt rfl rfl ?_))
    all_goals refine Nx.base hok hB ?_
    all_goals refine jY (vs:=[_,_,_]) ?_
    all_goals rfl
   | some y =>
    obtain ⟨k1,v1⟩:=y
    have cx_way:=StepP.yes hwk hfo
    have g3:=followV_tot hw hof hki (fun n hn=>(hqn n hn).1) hfo (N:=1000000) oM oM
    repeat' (first | (refine jR ?_) | (refine jo ?_;(refine c_fns rfl rfl rfl cx_way rfl ?_;rintro _ G hle ⟨b1,rfl,hrep1⟩;(try have hrep:=RepR.mono hle hrep);(try have hR1:=SchR.mono hR1 hle))) | (refine k_ff rfl rfl ?_))
    have cx_out:=c_outS hw hrep1 oM
    obtain ⟨q1,q2,q3,hsg1⟩:=repR_seg hrep1
    repeat' (first | (refine jR ?_) | (refine k_any (s_any (id:=8) _ (fun _ h=>h) mixed ?_);refine jT 5 [0,1,2,4] (bts 9 23) ?_;(refine jG (bts 9 31) 3 rfl (g_ldS rfl rfl aS rfl rfl) ?_);refine jA 5 rfl ?_;(refine c_rt rfl rfl rfl cx_out rfl ?_);refine jS (bts 9 63) ?_;refine jT 0 [6,7,8] (bts 9 511) ?_;refine jQ ?_))
    all_goals refine Nx.base hok hB ?_
    all_goals refine jY (vs:=[_,_,_]) ?_
    all_goals rfl
abbrev tIntQ : TypeId:=3
theorem c_readPath {s : List UInt8} (h : s.length ≤ 1048576) : FnS Tryz.prog 53 [S s] G (StepsP s):=by
 by_cases h0 : s = []
 ·subst h0
  refine jB [(0,_)] Tryz.func53 Tryz.ntmps53 fun B hok hB hW=>?_
  repeat' (first | (refine jR ?_) | (refine k_tt rfl rfl ?_))
  refine jZ (vs:=[_,_]) rfl ⟨rfl,rfl,trivial⟩ rfl ⟨Gh.le.refl _,rfl,?_⟩
  exact ⟨_,_,_,rfl,fun p hp=>by
   obtain rfl : p = []:=by unfold pathOf at hp;simpa using hp.symm
   exact ⟨rfl,SlV.nil0⟩⟩
 have cx_split : FnS Tryz.prog 89 [S s,S [47]] G (fun v G'=>∃ b o cap,v = .slice (some ⟨b,o,none⟩) (cut 47 s).length cap ∧ Seg G' b o (rows strF (cut 47 s))):=by
  refine (c_Split (c:=47) oM).mono ?_
  rintro v G' L' ⟨h1,h2,h3⟩
  have hp : 0 < (cut 47 s).length:=cut_pos
  exact ⟨h1,h2,h3.expl hp⟩
 have hcl:=cut_count (k:=47) (s:=s)
 have hbad:=fun {i : Nat}=>pathOf_bad h0 (i:=i)
 have hpo:=pathOf_ne h0
 have hxl : ∀ i,i < (cut 47 s).length → (nth (cut 47 s) i).length ≤ 100000000:=fun i hi=>by
  have:=cut_len (nth_mem hi)
  omega
 generalize cut 47 s = xs at *
 refine jB [(0,_)] Tryz.func53 Tryz.ntmps53 fun B hok hB hW=>?_
 repeat' (first | (refine jR ?_) | (refine jo ?_;first | refine jV (g_lenL rfl) ?_ | (refine c_fns rfl rfl rfl cx_split rfl ?_;rintro _ G hle ⟨b1,o1,cap1,rfl,hseg⟩;skip)) | (refine k_ff rfl (dFf ‹_›) ?_))
 refine Nx.addNil tIntQ 1 ?_
 refine k_loop (ι:=List Int × Option Addr × Nat × Nat) (fun j=>(j.1.length = j.2.2.2 ∧ j.2.2.2 ≤ xs.length ∧ j.2.2.2 ≤ 8) ∧ stepsOf (xs.take j.2.2.2) = some j.1) (fun j=>[(4,.slice j.2.1 j.1.length j.2.2.1),(12,.slice (some ⟨b1,o1,none⟩) xs.length cap1),(13,I xs.length),(14,I j.2.2.2)]) (fun _=>G) (fun j=>[.acc (.slice j.2.1 j.1.length j.2.2.1) tIntQ 1 j.1.length (rows inR j.1)]) (fun j=>xs.length - j.2.2.2) ([],none,0,0) ?_ tU rfl sRr (fun j Hj=>?_)
 ·exact ⟨⟨rfl,Nat.zero_le _,Nat.zero_le _⟩,rfl⟩
 obtain ⟨ps,a,c,i⟩:=j
 dsimp only at Hj ⊢
 obtain ⟨⟨hpl,hi0,hi8⟩,hst⟩:=Hj
 by_cases hi : i < xs.length
 ·have hxl1:=hxl i hi
  cases hn : numOf (nth xs i) 999999 with
  | none =>
   have hno:=hbad hi hn
   have hns : (!(numOf (nth xs i) 999999).isSome) = true:=by rw [hn];rfl
   repeat' (first | (refine jR ?_) | (refine jo ?_;first | (refine jV (g_iaddrN rfl rfl oM) ?_) | (refine jV (g_ldRS rfl rfl aS ?_) ?_;(focus ((omega);done))) | (refine jAt rfl ?_) | (refine c_pu rfl rfl rfl (c_plainNumber oM) rfl ?_;rintro _ ⟨n,rfl,hnum⟩)) | (refine k_gt rfl rfl ‹_› ?_) | (refine k_tt rfl (by first | rfl | (refine decide_eq_true ?_;(omega))) ?_))
   all_goals refine jZ (vs:=[_,_]) rfl ⟨rfl,rfl,trivial⟩ rfl ⟨hle,rfl,?_⟩
   all_goals exact ⟨_,_,_,by rw [hno];rfl,fun p hp=>by rw [hno] at hp;cases hp⟩
  | some m =>
   have hns : (!(numOf (nth xs i) 999999).isSome) = false:=by rw [hn];rfl
   by_cases h8 : i = 8
   ·subst h8
    have hno : pathOf s = none:=by
     rw [hpo]
     cases hso : stepsOf xs with
     | none=>rfl
     | some q =>
      have:=(stepsOf_len hso).1
      dsimp only
      rw [if_neg oM]
    have h88 : ((ps.length : Nat) : Int) = 8:=oM
    repeat' (first | (refine jR ?_) | (refine jo ?_;first | refine jV (g_lenL rfl) ?_ | (refine jV (g_iaddrN rfl rfl oM) ?_) | (refine jV (g_ldRS rfl rfl aS ?_) ?_;(focus ((omega);done))) | (refine jAf rfl ?_) | (refine c_pu rfl rfl rfl (c_plainNumber oM) rfl ?_;rintro _ ⟨n,rfl,hnum⟩)) | (refine k_gf rfl rfl ‹_› ?_) | (refine k_tt rfl (by refine decide_eq_true ?_;first | assumption | omega) ?_))
    all_goals refine jZ (vs:=[_,_]) rfl ⟨rfl,rfl,trivial⟩ rfl ⟨hle,rfl,?_⟩
    all_goals exact ⟨_,_,_,by rw [hno];rfl,fun p hp=>by rw [hno] at hp;cases hp⟩
   ·have h88 : ¬ ((ps.length : Nat) : Int) = 8:=oM
    repeat' (first | refine jM ?_ | (refine jo ?_;first | refine jV (g_lenL rfl) ?_ | (refine jV (g_iaddrN rfl rfl oM) ?_) | (refine jV (g_ldRS rfl rfl aS ?_) ?_;(focus ((omega);done))) | (refine jAf rfl ?_) | refine jF fun _=>?_ | (refine c_apX rfl rfl rfl rfl rfl rfl rfl rfl rfl oM fun _ _=>?_) | (refine c_pu rfl rfl rfl (c_plainNumber oM) rfl ?_;rintro _ ⟨n,rfl,hnum⟩)) | (refine k_gf rfl rfl ‹_› ?_) | (refine k_tt rfl (dTt oM) ?_) | (refine k_ff rfl (dFf ‹_›) ?_))
    rename_i y1 yc
    have hmn:=hnum m hn
    subst hmn
    have hst2 : stepsOf (xs.take (i + 1)) = some (ps ++ [n]):=by rw [take_nth hi,stepsOf_snoc hst,hn];rfl
    have hl1 : (ps ++ [n]).length = ps.length + 1:=by simp
    rw [show rows inR ps ++ [I n] = rows inR (ps ++ [n]) from (rows_snoc inR ps n).symm]
    exact k_rd (ps ++ [n],some ⟨y1,0,none⟩,yc,i + 1) ⟨⟨by dsimp only;omega,by dsimp only;omega,by dsimp only;omega⟩,hst2⟩ (by dsimp only;omega) (by rw [hl1];repeat (first | exact trivial | refine ⟨rfl,?_⟩)) rfl (by rw [hl1];repeat (first | exact List.nil_sublist _ | apply List.Sublist.cons_cons))
 ·rw [List.take_of_length_le oM] at hst
  rw [hst] at hpo
  dsimp only at hpo
  rw [if_pos oM] at hpo
  repeat' (first | (refine jR ?_) | (refine k_ff rfl (dFf oM) ?_))
  refine Nx.sealS (v:=.slice a ps.length c) fun G2 hG2 hsl=>?_
  refine jZ (vs:=[_,_]) rfl ⟨rfl,rfl,trivial⟩ rfl ⟨hle.trans hG2,rfl,?_⟩
  refine ⟨_,_,_,by rw [hpo];rfl,fun p hp=>?_⟩
  rw [hpo] at hp
  simp only [Option.some.injEq] at hp;subst hp;exact ⟨rfl,hsl⟩
theorem sg_core : ∀ k : List UInt8,sg k ++ core k = k
 | []=>rfl
 | c :: r=>by
  by_cases h : c.toNat = 91 ∨ c.toNat = 63
  ·rw [sg_cons h,core,if_pos h,List.cons_append,sg_core r]
  ·rw [sg_none h,core_self h];rfl
theorem kind_text {k : List UInt8} (h : kindOk k = true) : (bs k = [64] → sg k ++ [64] ++ nm k ++ [59] = k) ∧ (bs k ≠ [64] → sg k ++ bs k = k):=by
 have hk:=core_kOk (kindOk_kOk h).1
 have hsc:=sg_core k
 refine ⟨fun h64=>?_,fun hne=>?_⟩
 ·have hr:=(bs_at h).1 h64
  cases hc : core k with
  | nil=>rw [hc] at hk;cases hk
  | cons c r =>
   rw [hc] at hr hk hsc
   have h64' : c.toNat = 64:=by
    by_cases h64' : c.toNat = 64
    ·exact h64'
    ·simp [refN,h64'] at hr
   have hn : nm k = r.take (r.length - 1):=by unfold nm;rw [hc];simp [refN,h64']
   rw [kOk,if_neg oM,if_pos h64'] at hk
   simp only [Bool.and_eq_true,decide_eq_true_eq] at hk
   obtain ⟨h59,hnm⟩:=hk
   have hrl : 1 ≤ r.length:=by
    cases r with
    | nil=>simp [isNm] at hnm
    | cons=>simp
   obtain ⟨m,hm⟩ : ∃ m,r.length = m + 1:=⟨r.length - 1,oM⟩
   rw [hm,bt_succ] at h59
   have e3 : r = r.take m ++ [59]:=by
    have e1 : r.take (m + 1) = r:=List.take_of_length_le oM
    have e2:=take_nth (cs:=r) (i:=m) oM
    rw [e1] at e2
    have e4 : nth r m = 59:=by
     rw [nth_eq oM]
     have : bt r m = (r[m]'oM).toNat:=by simp [bt,List.getD,List.getElem?_eq_getElem (show m < r.length by omega)]
     exact UInt8.toNat_inj.1 (by rw [← this];show bt r m = 59;omega)
    rw [e4] at e2;exact e2
   have hc64 : c = 64:=UInt8.toNat_inj.1 h64'
   have e5 : sg k ++ 64 :: (r.take m ++ [59]) = k:=by rw [← e3,← hc64];exact hsc
   rw [hn,hm,Nat.add_sub_cancel]
   refine Eq.trans ?_ e5
   simp
 ·have hr : refN (core k) = none:=by
   cases hr : refN (core k) with
   | none=>rfl
   | some x=>exact absurd ((bs_at h).2 (by rw [hr];rfl)) hne
  have e : bs k = core k:=by
   unfold bs
   cases hc : core k with
   | nil=>rfl
   | cons c r =>
    rw [hc] at hr
    have h64 : ¬ c.toNat = 64:=by intro h64;simp [refN,h64] at hr
    simp [bsT,h64]
  rw [e];exact hsc
theorem c_textI {k : List UInt8} (h : kindOk k = true) : PuG Tryz.prog 55 [Ag (kdF k)] G (· = S k):=by
 obtain ⟨h1,h2⟩:=kind_text h
 have hl:=(kindOk_kOk h).2
 have hsl : (sg k).length ≤ 12:=by
  have:=congrArg List.length (sg_core k)
  simp only [List.length_append] at this
  omega
 unfold kdF
 by_cases h64 : bs k = [64]
 ·have e:=h1 h64
  have hnl:=congrArg List.length e
  simp only [List.length_append,List.length_cons,List.length_nil] at hnl
  rw [h64]
  refine jE [(0,_)] Tryz.func55 Tryz.ntmps55 fun B hB=>?_
  repeat' (first | (refine jX ?_) | (refine jo ?_;first | refine jO fun _=>?_ | refine jAl rfl ?_) | (refine k_tt rfl rfl ?_))
  all_goals refine jY (vs:=[_]) ?_
  all_goals (rw [oneOf_one,e])
 ·have e:=h2 h64
  have hnl:=congrArg List.length e
  simp only [List.length_append] at hnl
  refine jE [(0,_)] Tryz.func55 Tryz.ntmps55 fun B hB=>?_
  repeat' (first | refine jM ?_ | (refine jo ?_;first | refine jO fun _=>?_ | refine jAl rfl ?_) | (refine k_ff rfl (dFf ‹_›) ?_))
  all_goals refine jY (vs:=[_]) ?_
  all_goals (rw [oneOf_one,e])
theorem c_must {b : Nat} {qs : List TyP} {k s : List UInt8} {u : V} (hS : ScI G b qs) (hw : SchW (tyq qs)) (hk : kindIn (tyq qs) k = true) (hvo : valOf (tyq qs) k s = some u) :
  FnS Tryz.prog 106 [Pt b 0,Ag (kdF k),S s] G (fun r G'=>∃ c,r = Ag (vcF c) ∧ V.rep G' u c):=by
 have hl:=(valOf_rd hvo).2
 have cx_ris : FnS Tryz.prog 57 [Pt b 0,Ag [S (sg k),S (bs k),S (nm k)],S s] G (fun v G'=>∃ cv,v = Tu [Ag (vcF cv),Bo true] ∧ V.rep G' u cv):=by
  refine (c_readI (G:=G) (b:=b) (s:=s) hS hw hk oM).mono ?_
  rintro v G' L' ⟨h1,h2,⟨h4,_⟩ | ⟨u',c,h4,rfl,h5⟩⟩
  ·rw [hvo] at h4;cases h4
  ·rw [hvo] at h4;obtain rfl:=Option.some.inj h4;exact ⟨h1,h2,c,rfl,h5⟩
 unfold kdF
 refine jB [(0,_),(1,_),(2,_)] Tryz.func106 Tryz.ntmps106 fun B hok hB hW=>?_
 repeat' (first | (refine jR ?_) | (refine jo ?_;first | refine jO fun _=>?_ | refine jL fun _=>?_ | refine jAm rfl ?_ | refine jC rfl rfl rfl ?_ | (refine c_fns rfl rfl rfl cx_ris rfl ?_;rintro _ G hle ⟨cv,rfl,hrv⟩;skip)))
 all_goals refine jZ (vs:=[_]) rfl ⟨rc_A rfl rfl rfl rfl,trivial⟩ rfl ⟨hle,rfl,?_⟩
 all_goals exact ⟨cv,rfl,hrv⟩
end Go.E
namespace Go.E
set_option maxRecDepth 20000
set_option maxHeartbeats 2000000
open Go.Proofs
variable {G : Gh}
theorem getV_told {ts : List Ty} {f : Fld} {fs : List (Fld × V)} {j : Nat} (hj : j < fs.length) (hjn : (nth fs j).1.tag = f.tag) (hno : ∀ i,i < j → (nth fs i).1.tag ≠ f.tag) : getV ts (.nd 82 [] 0 (fs.map fldV)) f = (nth fs j).2:=by
 unfold getV
 rw [V.kids,toldV_at hj hjn hno];rfl
theorem getV_untold {ts : List Ty} {f : Fld} {fs : List (Fld × V)} (hno : ∀ i,i < fs.length → (nth fs i).1.tag ≠ f.tag) : getV ts (.nd 82 [] 0 (fs.map fldV)) f = standV ts f:=by
 unfold getV
 rw [V.kids,toldV_no hno];rfl
theorem c_getI {b bf of j : Nat} {qs : List TyP} {t : Ty} {fs : List (Fld × V)} {c : VC} (hS : ScI G b qs) (hw : SchW (tyq qs)) (ht : t ∈ tyq qs) (hso : t.sort = 82) (hsf : Seg G bf of (rows fiF t.fields)) (hj : j < t.fields.length) (hrep : V.rep G (.nd 82 [] 0 (fs.map fldV)) c) (h9 : fs.length ≤ 1000000) :
  FnS Tryz.prog 74 [Pt b 0,Ag (vcF c),Pt bf (of + j * 6)] G (fun r G'=>∃ c',r = Ag (vcF c') ∧ V.rep G' (getV (tyq qs) (.nd 82 [] 0 (fs.map fldV)) (nth t.fields j)) c'):=by
 obtain ⟨a,k,cs,rfl,_,_,_,hcl,hsl,hrs⟩:=rep_inv hrep
 have hml : (fs.map fldV).length = fs.length:=by simp
 rw [hml] at hcl hsl
 have hfm : nth t.fields j ∈ t.fields:=nth_mem hj
 have hdk : kindIn (tyq qs) (nth t.fields j).kind = true:=kind_in hw ht oM hfm
 obtain ⟨g1,g2,g3⟩:=standV_ok hw ht oM hfm
 have cx_of:=c_ofI hS hw hsf hj hdk
 have hnt : ∀ i,i < fs.length → nth (fs.map fldV) i = fldV (nth fs i):=fun i hi=>by rw [nth_eq (by simpa using hi),nth_eq hi];simp
 have hrn : ∀ i,i < fs.length → V.rep G (fldV (nth fs i)) (nth cs i):=fun i hi=>by
  have:=reps_nth hrs i oM
  rwa [hnt i hi] at this
 have e0 : vcF ⟨82,[],0,a,(fs.map fldV).length,k⟩ = [U8 (82 : Nat),S [],I 0,.slice a fs.length k]:=by rw [← hml];rfl
 rw [e0]
 refine jB [(0,_),(1,_),(2,_)] Tryz.func74 Tryz.ntmps74 fun B hok hB hW=>?_
 repeat' (first | (refine jR ?_) | (refine jo ?_;first | refine jO fun _=>?_ | refine jL fun _=>?_ | refine jAl rfl ?_ | refine jV (g_lenL rfl) ?_))
 rename_i y4 y6
 refine k_loop (ι:=Nat) (fun i=>i ≤ fs.length ∧ ∀ l,l < i → (nth fs l).1.tag ≠ (nth t.fields j).tag) (fun i=>[(0,Pt b 0),(2,Pt bf (of + j * 6)),(6,Pt y6 0),(10,.slice a fs.length k),(11,I fs.length),(12,I i)]) (fun _=>G) (fun i=>[.blk y6 (.cells (List.toArray [U8 0,S [],I 0,nilS]) tVal (0,0))]) (fun i=>fs.length - i) 0 ?_ tU rfl sB (fun i Hi=>?_)
 ·exact ⟨Nat.zero_le _,fun l hl=>absurd hl oM⟩
 obtain ⟨hi0,hno⟩:=Hi
 by_cases hi : i < fs.length
 ·obtain ⟨xb,xo,xc,e,hsx⟩:=hsl.expl oM
  simp only [Value.slice.injEq] at e
  obtain ⟨rfl,-,rfl⟩:=e
  obtain ⟨a1,k1,cs1,hci,_,_,_,hcl1,hsl1,hrs1⟩:=rep_inv (hrn i hi)
  rw [V.reps] at hrs1
  obtain ⟨c1,cs2,rfl,hr1,hr2⟩:=hrs1
  rw [V.reps] at hr2
  subst hr2
  have hci : nth cs i = ⟨61,[],(nth fs i).1.tag,a1,1,k1⟩:=hci
  have hsl1 : SlV G (.slice a1 1 k1) 4 ([c1] : List VC).length (rows vcF [c1]):=hsl1
  obtain ⟨zb,zo,zc,e,hsz⟩:=hsl1.expl oM
  simp only [Value.slice.injEq] at e
  obtain ⟨rfl,-,rfl⟩:=e
  by_cases ht2 : (nth fs i).1.tag = (nth t.fields j).tag
  ·have hget:=getV_told (ts:=tyq qs) hi ht2 hno
   rw [hget]
   repeat' (first | (refine jR ?_) | (refine jo ?_;first | refine jL fun _=>?_ | refine jAl rfl ?_ | (refine jV (g_ldRx rfl rfl aS ?_ aS) ?_;(focus ((omega);done))) | (refine jV (g_iaddrN rfl rfl oM) ?_) | refine jC rfl rfl rfl ?_) | (refine k_tt rfl (by refine decide_eq_true ?_;first | assumption | omega) ?_) | (refine k_any (s_any (id:=4) _ (fun _ h=>h) mixed ?_);refine jT 3 [0,2,3,4] (bts 7 29) ?_;(refine jG (bts 7 31) 1 rfl (g_ld rfl rfl rfl) ?_);((refine jG (bts 7 63) 5 rfl (g_ldRF rfl rfl aS ?_ rfl rfl) ?_;(focus ((omega);done))));refine jT 0 [6] (bts 7 127) ?_;refine jQ ?_))
   dsimp only [vcF,VC.sl]
   repeat' (first | (refine jR ?_) | (refine jo ?_;first | (refine jV (g_ldR rfl rfl aS ?_) ?_;(focus ((omega);done))) | (refine jV (g_iaddr rfl rfl oM) ?_) | refine jC rfl rfl rfl ?_))
   all_goals refine jZ (vs:=[_]) rfl ⟨rc_A rfl rfl rfl rfl,trivial⟩ rfl ⟨Gh.le.refl _,rfl,?_⟩
   all_goals exact ⟨c1,rfl,hr1⟩
  ·repeat' (first | refine jM ?_ | (refine jo ?_;first | refine jL fun _=>?_ | (refine jV (g_ldRx rfl rfl aS ?_ aS) ?_;(focus ((omega);done))) | (refine jV (g_iaddrN rfl rfl oM) ?_) | refine jC rfl rfl rfl ?_) | (refine k_tt rfl (dTt oM) ?_) | (refine k_ff rfl (dFf ‹_›) ?_) | (refine k_any (s_any (id:=4) _ (fun _ h=>h) mixed ?_);refine jT 3 [0,2,3,4] (bts 7 29) ?_;(refine jG (bts 7 31) 1 rfl (g_ld rfl rfl rfl) ?_);((refine jG (bts 7 63) 5 rfl (g_ldRF rfl rfl aS ?_ rfl rfl) ?_;(focus ((omega);done))));refine jT 0 [6] (bts 7 127) ?_;refine jQ ?_))
   exact k_rd (i + 1) ⟨oM,fun l hl=>(by
    rcases Nat.lt_or_ge l i with h | h
    ·exact hno l h
    ·have : l = i:=oM
     subst this;exact ht2)⟩ oM tU rfl sB
 ·have hget:=getV_untold (ts:=tyq qs) (f:=nth t.fields j) (fs:=fs) fun l hl=>hno l oM
  rw [hget]
  have cx_mu:=c_must hS hw hdk g2
  unfold kdF at cx_mu
  repeat' (first | (refine jR ?_) | (refine k_ff rfl (dFf oM) ?_) | (refine k_any (s_anyD (id:=7) (tt:=6) rfl mixed ?_);refine jW 4 [0,1,2,3,5,6] (bts 10 111) ?_;((refine jG (bts 10 127) 4 rfl (g_ldRA rfl rfl aS ?_ rfl rfl) ?_;(focus ((omega);done))));refine jA 7 rfl ?_;(refine c_rt rfl rfl rfl cx_of rfl ?_);refine jK (bts 10 255) ?_;refine jA 8 rfl ?_;(refine c_fns rfl rfl rfl cx_mu rfl ?_;rintro _ G hle ⟨cv,rfl,hrv⟩;skip);refine jK (bts 10 511) ?_;refine jA 9 rfl ?_;(refine jC rfl rfl rfl ?_);refine jK (bts 10 1023) ?_;refine jQ ?_))
  all_goals refine jZ (vs:=[_]) rfl ⟨rc_A rfl rfl rfl rfl,trivial⟩ rfl ⟨hle,rfl,?_⟩
  all_goals exact ⟨cv,rfl,hrv⟩
def StepPI (ts : List Ty) (o : Option (List UInt8 × V)) (r : Value) (G' : Gh) : Prop:=(o = none ∧ r = Tu [Ag [S [],S [],S []],zP,Bo false]) ∨ ∃ k' v' c',o = some (k',v') ∧ r = Tu [Ag (kdF k'),Ag (vcF c'),Bo true] ∧ V.rep G' v' c'
theorem StepPI.no {f : FuncId} {args : List Value} {ts : List Ty} {o : Option (List UInt8 × V)} (h : FnS Tryz.prog f args G (StepPI ts o)) (e : o = none) : FnS Tryz.prog f args G (fun r _=>r = Tu [Ag [S [],S [],S []],zP,Bo false]):=by
 refine h.mono ?_
 rintro v G' L' ⟨h1,h2,⟨_,h3⟩ | ⟨k',v',b',h3,_⟩⟩
 ·exact ⟨h1,h2,h3⟩
 ·rw [e] at h3;cases h3
theorem StepPI.yes {f : FuncId} {args : List Value} {ts : List Ty} {o : Option (List UInt8 × V)} {k' : List UInt8} {v' : V} (h : FnS Tryz.prog f args G (StepPI ts o)) (e : o = some (k',v')) : FnS Tryz.prog f args G (fun r G'=>∃ c',r = Tu [Ag [S (sg k'),S (bs k'),S (nm k')],Ag (vcF c'),Bo true] ∧ V.rep G' v' c'):=by
 refine h.mono ?_
 rintro v G' L' ⟨h1,h2,⟨h3,_⟩ | ⟨k2,v2,b',h3,h4,h5⟩⟩
 ·rw [e] at h3;cases h3
 ·rw [e] at h3
  simp only [Option.some.injEq,Prod.mk.injEq] at h3
  obtain ⟨rfl,rfl⟩:=h3
  exact ⟨h1,h2,b',h4,h5⟩
theorem c_stepL {b : Nat} {k : List UInt8} {ts : List Ty} {ks : List V} {c : VC} {n : Int} (hr : V.rep G (.nd 91 [] 0 ks) c) (hn : 0 ≤ n ∧ n ≤ 999999) (hkl : ks.length ≤ 1000000) :
  FnS Tryz.prog 91 [Pt b 0,Ag (kdF (91 :: k)),Ag (vcF c),I n] G (StepPI ts (stepV ts (91 :: k) (.nd 91 [] 0 ks) n)):=by
 obtain ⟨e1,e2,e3,_⟩:=kdF_cons (c:=91) (k:=k) (.inl rfl)
 have cx_sign:=@c_sign1 G 91 (sg k) (bs k) (nm k)
 have cx_pt:=@c_part G 91 (sg k) (bs k) (nm k)
 obtain ⟨a,kc,cs,rfl,_,_,_,hcl,hsl,hrs⟩:=rep_inv hr
 have hst:=stepV_kid (ts:=ts) (c:=91) (r:=k) (v:=.nd 91 [] 0 ks) (n:=n) (.inl rfl)
 rw [V.kids] at hst
 rw [hst]
 unfold kdF
 rw [e1,e2,e3]
 have e0 : vcF ⟨91,[],0,a,ks.length,kc⟩ = [U8 (91 : Nat),S [],I 0,.slice a ks.length kc]:=rfl
 rw [e0]
 by_cases hn2 : n < ((ks.length : Nat) : Int)
 ·obtain ⟨i,rfl⟩ : ∃ i : Nat,n = i:=⟨n.toNat,oM⟩
  obtain ⟨xb,xo,xc,e,hsx⟩:=hsl.expl oM
  simp only [Value.slice.injEq] at e
  obtain ⟨rfl,-,rfl⟩:=e
  have hri:=reps_nth hrs i oM
  obtain ⟨d,hxi⟩ : ∃ d,nth cs i = d:=⟨_,rfl⟩
  rw [hxi] at hri
  rw [if_pos hn2]
  refine jB [(0,_),(1,_),(2,_),(3,_)] Tryz.func91 Tryz.ntmps91 fun B hok hB hW=>?_
  repeat' (first | (refine jR ?_) | (refine jo ?_;first | refine jO fun _=>?_ | refine jL fun _=>?_ | refine jAl rfl ?_ | refine jAm rfl ?_ | refine jV (g_lenL rfl) ?_ | (refine c_rt rfl rfl rfl cx_sign rfl ?_)) | (refine k_tt rfl rfl ?_) | (refine k_ff rfl (dFf oM) ?_))
  rename_i y5 y6 y8 y9
  (refine k_any (s_any (id:=5) [.blk y6 (.cells (List.toArray [U8 (91 : Nat),S [],I 0,.slice (some ⟨xb,xo,none⟩) ks.length kc]) tVal (0,0)),.blk y5 (.cells (List.toArray [S (91 :: sg k),S (bs k),S (nm k)]) tKnd (0,0))] (by intro y hy;simp only [List.mem_cons,List.not_mem_nil,or_false] at hy ⊢;rcases hy with hy | hy <;> simp [hy]) mixed ?_);refine jW 8 [2,4] (bts 10 20) ?_;(refine jG (bts 10 21) 0 rfl (g_ldA rfl rfl rfl rfl) ?_);(refine jG (bts 10 29) 3 rfl (g_ld rfl rfl rfl) ?_);((refine jG (bts 10 61) 5 rfl (g_iaddrN rfl rfl ?_) ?_;(focus ((omega);done))));((refine jG (bts 10 125) 6 rfl (g_ldRx rfl rfl aS ?_ aS) ?_;(focus ((omega);done))));refine jA 1 rfl ?_;(refine c_rt rfl rfl rfl cx_pt rfl ?_);refine jK (bts 10 127) ?_;refine jA 7 rfl ?_;(refine jC rfl rfl rfl ?_);refine jK (bts 10 255) ?_;refine jA 8 rfl ?_;(refine jC rfl rfl rfl ?_);refine jK (bts 10 511) ?_;refine jW 0 [9] (bts 10 1023) ?_;refine jQ ?_)
  all_goals repeat' (refine jR ?_)
  all_goals refine jZ (vs:=[_,_,_]) rfl ⟨rc_A rfl rfl rfl rfl,rc_A rfl rfl rfl rfl,rfl,trivial⟩ rfl ⟨Gh.le.refl _,rfl,?_⟩
  all_goals exact .inr ⟨k,nth ks i,d,rfl,rfl,hri⟩
 ·rw [if_neg hn2]
  refine jB [(0,_),(1,_),(2,_),(3,_)] Tryz.func91 Tryz.ntmps91 fun B hok hB hW=>?_
  repeat' (first | (refine jR ?_) | (refine jo ?_;first | refine jO fun _=>?_ | refine jL fun _=>?_ | refine jAl rfl ?_ | refine jAm rfl ?_ | refine jV (g_lenL rfl) ?_ | refine jV (g_bld rfl rfl) ?_ | refine jC rfl rfl rfl ?_ | (refine c_rt rfl rfl rfl cx_sign rfl ?_)) | (refine k_tt rfl (by first | rfl | (refine decide_eq_true ?_;(omega))) ?_))
  all_goals refine jZ (vs:=[_,_,_]) rfl ⟨rc_A rfl rfl rfl rfl,rc_A rfl rfl rfl rfl,rfl,trivial⟩ rfl ⟨Gh.le.refl _,rfl,?_⟩
  all_goals exact .inl ⟨rfl,rfl⟩
theorem c_stepO {b : Nat} {k : List UInt8} {ts : List Ty} {ks : List V} {c : VC} {n : Int} (hks : ks = [] ∨ ∃ w,ks = [w]) (hr : V.rep G (.nd 63 [] 0 ks) c) (hn : 0 ≤ n ∧ n ≤ 999999) :
  FnS Tryz.prog 91 [Pt b 0,Ag (kdF (63 :: k)),Ag (vcF c),I n] G (StepPI ts (stepV ts (63 :: k) (.nd 63 [] 0 ks) n)):=by
 obtain ⟨e1,e2,e3,_⟩:=kdF_cons (c:=63) (k:=k) (.inr rfl)
 have cx_sign:=@c_sign1 G 63 (sg k) (bs k) (nm k)
 have cx_pt:=@c_part G 63 (sg k) (bs k) (nm k)
 obtain ⟨a,kc,cs,rfl,_,_,_,hcl,hsl,hrs⟩:=rep_inv hr
 have hst:=stepV_kid (ts:=ts) (c:=63) (r:=k) (v:=.nd 63 [] 0 ks) (n:=n) (.inr rfl)
 rw [V.kids] at hst
 rw [hst]
 unfold kdF
 rw [e1,e2,e3]
 have e0 : vcF ⟨63,[],0,a,ks.length,kc⟩ = [U8 (63 : Nat),S [],I 0,.slice a ks.length kc]:=rfl
 rw [e0]
 rcases hks with rfl | ⟨w,rfl⟩
 ·rw [if_neg (by simp;omega)]
  by_cases hn0 : n = 0
  all_goals
   refine jB [(0,_),(1,_),(2,_),(3,_)] Tryz.func91 Tryz.ntmps91 fun B hok hB hW=>?_
   repeat' (first | (refine jR ?_) | (refine jo ?_;first | refine jO fun _=>?_ | refine jL fun _=>?_ | refine jAl rfl ?_ | refine jAm rfl ?_ | refine jV (g_lenL rfl) ?_ | refine jV (g_bld rfl rfl) ?_ | refine jC rfl rfl rfl ?_ | (refine jAt rfl ?_) | (refine jAf rfl ?_) | (refine c_rt rfl rfl rfl cx_sign rfl ?_)) | (refine k_gt rfl rfl (dTt ‹_›) ?_) | (refine k_gf rfl rfl (dFf oM) ?_) | (refine k_tt rfl rfl ?_) | (refine k_ff rfl rfl ?_))
   all_goals refine jZ (vs:=[_,_,_]) rfl ⟨rc_A rfl rfl rfl rfl,rc_A rfl rfl rfl rfl,rfl,trivial⟩ rfl ⟨Gh.le.refl _,rfl,?_⟩
   all_goals exact .inl ⟨rfl,rfl⟩
 ·rw [V.reps] at hrs
  obtain ⟨d,cs2,rfl,hri,hr2⟩:=hrs
  rw [V.reps] at hr2
  subst hr2
  have hsl : SlV G (.slice a 1 kc) 4 ([d] : List VC).length (rows vcF [d]):=hsl
  obtain ⟨xb,xo,xc,e,hsx⟩:=hsl.expl (by simp)
  simp only [Value.slice.injEq] at e
  obtain ⟨rfl,-,rfl⟩:=e
  have hxi : nth [d] (Int.toNat 0) = d:=rfl
  show FnS _ _ [Pt b 0,Ag [S (63 :: sg k),S (bs k),S (nm k)],Ag [U8 (63 : Nat),S [],I 0,.slice (some ⟨xb,xo,none⟩) 1 kc],I n] G _
  by_cases hn0 : n = 0
  ·subst hn0
   rw [if_pos (by simp)]
   refine jB [(0,_),(1,_),(2,_),(3,_)] Tryz.func91 Tryz.ntmps91 fun B hok hB hW=>?_
   repeat' (first | (refine jR ?_) | (refine jo ?_;first | refine jO fun _=>?_ | refine jL fun _=>?_ | refine jAl rfl ?_ | refine jAm rfl ?_ | refine jV (g_lenL rfl) ?_ | (refine jAf rfl ?_) | (refine c_rt rfl rfl rfl cx_sign rfl ?_)) | (refine k_gf rfl rfl rfl ?_) | (refine k_tt rfl rfl ?_) | (refine k_ff rfl rfl ?_))
   rename_i y5 y6 y8 y9
   (refine k_any (s_any (id:=9) [.blk y6 (.cells (List.toArray [U8 (63 : Nat),S [],I 0,.slice (some ⟨xb,xo,none⟩) 1 kc]) tVal (0,0)),.blk y5 (.cells (List.toArray [S (63 :: sg k),S (bs k),S (nm k)]) tKnd (0,0))] (by intro y hy;simp only [List.mem_cons,List.not_mem_nil,or_false] at hy ⊢;rcases hy with hy | hy <;> simp [hy]) mixed ?_);refine jW 8 [2] (bts 9 4) ?_;(refine jG (bts 9 5) 0 rfl (g_ldA rfl rfl rfl rfl) ?_);(refine jG (bts 9 13) 3 rfl (g_ld rfl rfl rfl) ?_);((refine jG (bts 9 29) 4 rfl (g_iaddr rfl rfl ?_) ?_;(focus ((omega);done))));((refine jG (bts 9 61) 5 rfl (g_ldRx rfl rfl aS ?_ aS) ?_;(focus ((simp only [List.length_append,List.length_cons,List.length_nil,List.length_take];omega);done))));refine jA 1 rfl ?_;(refine c_rt rfl rfl rfl cx_pt rfl ?_);refine jK (bts 9 63) ?_;refine jA 6 rfl ?_;(refine jC rfl rfl rfl ?_);refine jK (bts 9 127) ?_;refine jA 7 rfl ?_;(refine jC rfl rfl rfl ?_);refine jK (bts 9 255) ?_;refine jW 0 [8] (bts 9 511) ?_;refine jQ ?_)
   all_goals repeat' (refine jR ?_)
   all_goals refine jZ (vs:=[_,_,_]) rfl ⟨rc_A rfl rfl rfl rfl,rc_A rfl rfl rfl rfl,rfl,trivial⟩ rfl ⟨Gh.le.refl _,rfl,?_⟩
   all_goals exact .inr ⟨k,w,d,rfl,rfl,hri⟩
  ·rw [if_neg (show ¬ n < (([w].length : Nat) : Int) by show ¬ n < ((1 : Nat) : Int);omega)]
   refine jB [(0,_),(1,_),(2,_),(3,_)] Tryz.func91 Tryz.ntmps91 fun B hok hB hW=>?_
   repeat' (first | (refine jR ?_) | (refine jo ?_;first | refine jO fun _=>?_ | refine jL fun _=>?_ | refine jAm rfl ?_ | refine jV (g_bld rfl rfl) ?_ | refine jC rfl rfl rfl ?_ | (refine jAt rfl ?_) | (refine c_rt rfl rfl rfl cx_sign rfl ?_)) | (refine k_gt rfl rfl (dTt ‹_›) ?_) | (refine k_tt rfl rfl ?_) | (refine k_ff rfl rfl ?_))
   all_goals refine jZ (vs:=[_,_,_]) rfl ⟨rc_A rfl rfl rfl rfl,rc_A rfl rfl rfl rfl,rfl,trivial⟩ rfl ⟨Gh.le.refl _,rfl,?_⟩
   all_goals exact .inl ⟨rfl,rfl⟩
theorem c_stepP {b : Nat} {x : List UInt8} {ts : List Ty} {v : V} {c : VC} {n : Int} (hx : x = [110] ∨ x = [116] ∨ x = [102]) :
  FnS Tryz.prog 91 [Pt b 0,Ag (kdF x),Ag (vcF c),I n] G (StepPI ts (stepV ts x v n)):=by
 have hno : stepV ts x v n = none:=by
  rcases hx with rfl | rfl | rfl
  all_goals exact stepV_plain dC dC dC
 rw [hno]
 obtain ⟨w,tx,tg,a,m,kc⟩:=c
 have e0 : vcF ⟨w,tx,tg,a,m,kc⟩ = [U8 (w : Nat),S tx,I tg,.slice a m kc]:=rfl
 rw [e0]
 have e1 : kdF x = [S [],S x,S []]:=by rcases hx with rfl | rfl | rfl <;> rfl
 rw [e1]
 have cx_sign:=@c_sign0 G x []
 have hx64 : ¬ x = [64]:=by rcases hx with rfl | rfl | rfl <;> decide
 refine jB [(0,_),(1,_),(2,_),(3,_)] Tryz.func91 Tryz.ntmps91 fun B hok hB hW=>?_
 repeat' (first | (refine jR ?_) | (refine jo ?_;first | refine jO fun _=>?_ | refine jL fun _=>?_ | refine jAl rfl ?_ | refine jAm rfl ?_ | refine jV (g_bld rfl rfl) ?_ | refine jC rfl rfl rfl ?_ | (refine c_rt rfl rfl rfl cx_sign rfl ?_)) | (refine k_tt rfl (dTt ‹_›) ?_) | (refine k_ff rfl rfl ?_))
 all_goals refine jZ (vs:=[_,_,_]) rfl ⟨rc_A rfl rfl rfl rfl,rc_A rfl rfl rfl rfl,rfl,trivial⟩ rfl ⟨Gh.le.refl _,rfl,?_⟩
 all_goals exact .inl ⟨rfl,rfl⟩
theorem kind_typ {qs : List TyP} {k : List UInt8} {t : Ty} (hki : kindIn (tyq qs) k = true) (hrf : refT (tyq qs) k = some t) : kdF k = [S [],S [64],S (nm k)] ∧ ∃ p,findQ qs (nm k) = some (p,t) ∧ (p,t) ∈ qs:=by
 obtain ⟨r,rfl⟩:=refT_64 hrf
 have h91 : ¬ ((64 : UInt8).toNat = 91 ∨ (64 : UInt8).toNat = 63):=by decide
 have hsg:=sg_none (r:=r) h91
 have hcs:=core_self (r:=r) h91
 have hrn : (refN (core (64 :: r))).isSome = true:=by rw [hcs];rfl
 have hbs : bs (64 :: r) = [64]:=(bs_at (kindIn_ok hki)).2 hrn
 have hnm : refN (64 :: r) = some (nm (64 :: r)):=by unfold nm;rw [hcs];rfl
 have hft : findT (tyq qs) (nm (64 :: r)) = some t:=by unfold refT at hrf;rw [hnm] at hrf;exact hrf
 rw [← findQ_ty] at hft
 rcases hfq : findQ qs (nm (64 :: r)) with _ | ⟨p,t'⟩
 ·rw [hfq] at hft;cases hft
 rw [hfq] at hft
 obtain rfl : t' = t:=Option.some.inj hft
 exact ⟨by unfold kdF;rw [hsg,hbs],p,rfl,findQ_mem hfq⟩
theorem c_stepT {b : Nat} {qs : List TyP} {k : List UInt8} {t : Ty} {v : V} {c : VC} {n : Int} (hS : ScI G b qs) (hw : SchW (tyq qs)) (hki : kindIn (tyq qs) k = true) (hrf : refT (tyq qs) k = some t) (ho : OfK (tyq qs) k v) (hr : V.rep G v c) (hn : 0 ≤ n ∧ n ≤ 999999) (htt : v.tot ≤ 1000000) :
  FnS Tryz.prog 91 [Pt b 0,Ag (kdF k),Ag (vcF c),I n] G (StepPI (tyq qs) (stepV (tyq qs) k v n)):=by
 obtain ⟨hkd,p,hfq,hqm⟩:=kind_typ hki hrf
 have hst:=stepV_typ (v:=v) (n:=n) hrf
 have htm:=refT_mem hrf
 have hW:=hw.ty t htm
 obtain ⟨fv,ln,hsg,hfv⟩:=hS.ty _ hqm
 dsimp only at hsg hfv
 have hkv:=kvF_find qs (nm k)
 rw [hfq] at hkv
 dsimp only [Option.map_some] at hkv
 obtain ⟨u,m,g1,g2,g3⟩:=hS.at'
 have hfl:=hW.len
 have cx_sign:=@c_sign0 G [64] (nm k)
 rw [hkd]
 cases hg : fldT t.fields n with
 | none =>
  rw [hg] at hst
  dsimp only at hst
  rw [hst]
  have cx_fld:=c_fieldI0 (tag:=n) hsg hfv oM hg
  obtain ⟨w,tx,tg,a,mm,kc⟩:=c
  have e0 : vcF ⟨w,tx,tg,a,mm,kc⟩ = [U8 (w : Nat),S tx,I tg,.slice a mm kc]:=rfl
  rw [e0]
  refine jB [(0,_),(1,_),(2,_),(3,_)] Tryz.func91 Tryz.ntmps91 fun B hok hB hW=>?_
  repeat' (first | (refine jR ?_) | (refine jo ?_;first | refine jO fun _=>?_ | refine jL fun _=>?_ | refine jAl rfl ?_ | refine jAm rfl ?_ | (refine c_rt rfl rfl rfl cx_sign rfl ?_)) | (refine k_ff rfl rfl ?_))
  rename_i y5 y6 y8 y9
  (refine k_any (s_any (id:=12) [.blk y9 (.cells (List.toArray [U8 0,S [],I 0,nilS]) tVal (0,0)),.blk y8 (.cells (List.toArray [S [],S [],S []]) tKnd (0,0)),.blk y6 (.cells (List.toArray [U8 (w : Nat),S tx,I tg,.slice a mm kc]) tVal (0,0)),.blk y5 (.cells (List.toArray [S [],S [64],S (nm k)]) tKnd (0,0))] (by intro y hy;simp only [List.mem_cons,List.not_mem_nil,or_false] at hy ⊢;rcases hy with hy | hy | hy | hy <;> simp [hy]) mixed ?_);refine jT 4 [0,1,2,4] (bts 8 23) ?_;(refine jG (bts 8 31) 3 rfl (g_ldS rfl rfl aS rfl rfl) ?_);(refine jG (bts 8 63) 5 rfl (g_ld rfl rfl rfl) ?_);((refine jG (bts 8 127) 6 rfl (g_lookupX rfl rfl (map_G aS) aS rfl) ?_));refine jT 0 [7] (bts 8 255) ?_;refine jQ ?_)
  all_goals repeat' (first | (refine jR ?_) | (refine jo ?_;first | refine jV (g_bld rfl rfl) ?_ | refine jC rfl rfl rfl ?_ | (refine jAt rfl ?_) | refine jV (g_peq0 rfl rfl) ?_ | (refine c_rt rfl rfl rfl cx_fld rfl ?_)) | (refine k_gt rfl rfl rfl ?_) | (refine k_tt rfl rfl ?_))
  all_goals refine jZ (vs:=[_,_,_]) rfl ⟨rc_A rfl rfl rfl rfl,rc_A rfl rfl rfl rfl,rfl,trivial⟩ rfl ⟨Gh.le.refl _,rfl,?_⟩
  all_goals exact .inl ⟨rfl,rfl⟩
 | some f =>
  rw [hg] at hst
  dsimp only at hst
  obtain ⟨j,hj,hjf,hjn,hjx⟩:=fldT_some hg
  obtain ⟨bf,of,cf,rfl,hsf⟩:=hfv.expl oM
  have cx_fld:=c_fieldI1 hsg hsf oM hj hjf hjn
  subst hjx
  rcases hW.sort with hso | hso | hso
  ·rw [if_neg oM,if_pos hso] at hst
   rw [hst]
   rcases ofK_inv_t ho hrf with ⟨_,fs,rfl,g4,g5,_,_⟩ | ⟨h1,_⟩ | ⟨h1,_⟩
   ·have h9 : fs.length ≤ 1000000:=by
     have h7:=tots_len (fs.map fldV)
     rw [nd_tot] at htt
     have e1 : (fs.map fldV).length = fs.length:=by simp
     omega
    have cx_ge:=c_getI hS hw htm hso hsf hj hr h9
    obtain ⟨a,kc,cs,rfl,_,_,_,hcl,hsl,hrs⟩:=rep_inv hr
    have hml : (fs.map fldV).length = fs.length:=by simp
    have e0 : vcF ⟨82,[],0,a,(fs.map fldV).length,kc⟩ = [U8 (82 : Nat),S [],I 0,.slice a fs.length kc]:=by rw [← hml];rfl
    rw [e0] at cx_ge ⊢
    refine jB [(0,_),(1,_),(2,_),(3,_)] Tryz.func91 Tryz.ntmps91 fun B hok hB hW=>?_
    repeat' (first | (refine jR ?_) | (refine jo ?_;first | refine jO fun _=>?_ | refine jL fun _=>?_ | refine jAl rfl ?_ | refine jAm rfl ?_ | (refine c_rt rfl rfl rfl cx_sign rfl ?_)) | (refine k_ff rfl rfl ?_))
    rename_i y5 y6 y8 y9
    (refine k_any (s_any (id:=12) [.blk y9 (.cells (List.toArray [U8 0,S [],I 0,nilS]) tVal (0,0)),.blk y8 (.cells (List.toArray [S [],S [],S []]) tKnd (0,0)),.blk y6 (.cells (List.toArray [U8 (82 : Nat),S [],I 0,.slice a fs.length kc]) tVal (0,0)),.blk y5 (.cells (List.toArray [S [],S [64],S (nm k)]) tKnd (0,0))] (by intro y hy;simp only [List.mem_cons,List.not_mem_nil,or_false] at hy ⊢;rcases hy with hy | hy | hy | hy <;> simp [hy]) mixed ?_);refine jT 4 [0,1,2,4] (bts 8 23) ?_;(refine jG (bts 8 31) 3 rfl (g_ldS rfl rfl aS rfl rfl) ?_);(refine jG (bts 8 63) 5 rfl (g_ld rfl rfl rfl) ?_);((refine jG (bts 8 127) 6 rfl (g_lookupX rfl rfl (map_G aS) aS rfl) ?_));refine jT 0 [7] (bts 8 255) ?_;refine jQ ?_)
    all_goals repeat' (first | (refine jR ?_) | (refine jo ?_;first | refine jV (g_ldS rfl rfl aS rfl rfl) ?_ | (refine jAf rfl ?_) | refine jV (g_peq0 rfl rfl) ?_ | (refine c_rt rfl rfl rfl cx_fld rfl ?_)) | (refine k_gf rfl rfl (by first | rfl | (refine decide_eq_false ?_;(omega))) ?_) | (refine k_ff rfl (by first | rfl | (refine decide_eq_false ?_;(omega))) ?_))
    all_goals (refine k_any (s_any (id:=18) [.blk y6 (.cells (List.toArray [U8 (82 : Nat),S [],I 0,.slice a fs.length kc]) tVal (0,0)),.blk y5 (.cells (List.toArray [S [],S [64],S (nm k)]) tKnd (0,0))] (by intro y hy;simp only [List.mem_cons,List.not_mem_nil,or_false] at hy ⊢;rcases hy with hy | hy <;> simp [hy]) mixed ?_);refine jW 6 [0,1,2,4,6] (bts 11 87) ?_;((refine jG (bts 11 95) 3 rfl (g_ldRA rfl rfl aS ?_ rfl rfl) ?_;(focus ((omega);done))));(refine jG (bts 11 127) 5 rfl (g_ldA rfl rfl rfl rfl) ?_);refine jA 7 rfl ?_;(refine c_fns rfl rfl rfl cx_ge rfl ?_;rintro _ G hle ⟨cv,rfl,hrv⟩;skip);refine jK (bts 11 255) ?_;refine jA 8 rfl ?_;(refine jC rfl rfl rfl ?_);refine jK (bts 11 511) ?_;refine jA 9 rfl ?_;(refine jC rfl rfl rfl ?_);refine jK (bts 11 1023) ?_;refine jW 0 [10] (bts 11 2047) ?_;refine jQ ?_)
    all_goals repeat' (refine jR ?_)
    all_goals refine jZ (vs:=[_,_,_]) rfl ⟨rc_A rfl rfl rfl rfl,rc_A rfl rfl rfl rfl,rfl,trivial⟩ rfl ⟨hle,rfl,?_⟩
    all_goals exact .inr ⟨_,_,cv,rfl,rfl,hrv⟩
   ·omega
   ·omega
  ·rw [if_neg oM,if_neg oM] at hst
   rcases ofK_inv_t ho hrf with ⟨h1,_⟩ | ⟨h1,_⟩ | ⟨_,_,d,w,rfl,g4,g5⟩
   ·omega
   ·omega
   ·obtain ⟨a,kc,cs,rfl,_,_,_,hcl,hsl,hrs⟩:=rep_inv hr
    rw [V.reps] at hrs
    obtain ⟨c1,cs2,rfl,hri,hr2⟩:=hrs
    rw [V.reps] at hr2
    subst hr2
    have hsl : SlV G (.slice a 1 kc) 4 ([c1] : List VC).length (rows vcF [c1]):=hsl
    obtain ⟨xb,xo,xc,e,hsx⟩:=hsl.expl (by simp)
    simp only [Value.slice.injEq] at e
    obtain ⟨rfl,-,rfl⟩:=e
    have hxi : nth [c1] (Int.toNat 0) = c1:=rfl
    show FnS _ _ [Pt b 0,Ag [S [],S [64],S (nm k)],Ag [U8 (85 : Nat),S [],I d.tag,.slice (some ⟨xb,xo,none⟩) 1 kc],I n] G _
    by_cases hdn : d.tag = n
    ·rw [if_pos (show V.tag (.nd 85 [] d.tag [w]) = n from hdn)] at hst
     rw [hst]
     refine jB [(0,_),(1,_),(2,_),(3,_)] Tryz.func91 Tryz.ntmps91 fun B hok hB hW=>?_
     repeat' (first | (refine jR ?_) | (refine jo ?_;first | refine jO fun _=>?_ | refine jL fun _=>?_ | refine jAl rfl ?_ | refine jAm rfl ?_ | (refine c_rt rfl rfl rfl cx_sign rfl ?_)) | (refine k_ff rfl rfl ?_))
     rename_i y5 y6 y8 y9
     (refine k_any (s_any (id:=12) [.blk y9 (.cells (List.toArray [U8 0,S [],I 0,nilS]) tVal (0,0)),.blk y8 (.cells (List.toArray [S [],S [],S []]) tKnd (0,0)),.blk y6 (.cells (List.toArray [U8 (85 : Nat),S [],I d.tag,.slice (some ⟨xb,xo,none⟩) 1 kc]) tVal (0,0)),.blk y5 (.cells (List.toArray [S [],S [64],S (nm k)]) tKnd (0,0))] (by intro y hy;simp only [List.mem_cons,List.not_mem_nil,or_false] at hy ⊢;rcases hy with hy | hy | hy | hy <;> simp [hy]) mixed ?_);refine jT 4 [0,1,2,4] (bts 8 23) ?_;(refine jG (bts 8 31) 3 rfl (g_ldS rfl rfl aS rfl rfl) ?_);(refine jG (bts 8 63) 5 rfl (g_ld rfl rfl rfl) ?_);((refine jG (bts 8 127) 6 rfl (g_lookupX rfl rfl (map_G aS) aS rfl) ?_));refine jT 0 [7] (bts 8 255) ?_;refine jQ ?_)
     all_goals repeat' (first | (refine jR ?_) | (refine jo ?_;first | refine jAl rfl ?_ | refine jV (g_ldS rfl rfl aS rfl rfl) ?_ | (refine jAt rfl ?_) | (refine jAf rfl ?_) | refine jV (g_peq0 rfl rfl) ?_ | (refine c_rt rfl rfl rfl cx_fld rfl ?_)) | (refine k_gt rfl rfl (dTt oM) ?_) | (refine k_gf rfl rfl (by first | rfl | (refine decide_eq_false ?_;(omega))) ?_) | (refine k_tt rfl (dTt oM) ?_) | (refine k_ff rfl (dFf oM) ?_))
     all_goals (refine k_any (s_any (id:=17) [.blk y6 (.cells (List.toArray [U8 (85 : Nat),S [],I d.tag,.slice (some ⟨xb,xo,none⟩) 1 kc]) tVal (0,0)),.blk y5 (.cells (List.toArray [S [],S [64],S (nm k)]) tKnd (0,0))] (by intro y hy;simp only [List.mem_cons,List.not_mem_nil,or_false] at hy ⊢;rcases hy with hy | hy <;> simp [hy]) mixed ?_);refine jW 7 [0,1,2,4] (bts 11 23) ?_;((refine jG (bts 11 31) 3 rfl (g_ldRA rfl rfl aS ?_ rfl rfl) ?_;(focus ((omega);done))));(refine jG (bts 11 63) 5 rfl (g_ld rfl rfl rfl) ?_);((refine jG (bts 11 127) 6 rfl (g_iaddr rfl rfl ?_) ?_;(focus ((omega);done))));((refine jG (bts 11 255) 7 rfl (g_ldRx rfl rfl aS ?_ aS) ?_;(focus ((simp only [List.length_append,List.length_cons,List.length_nil,List.length_take];omega);done))));refine jA 8 rfl ?_;(refine jC rfl rfl rfl ?_);refine jK (bts 11 511) ?_;refine jA 9 rfl ?_;(refine jC rfl rfl rfl ?_);refine jK (bts 11 1023) ?_;refine jW 0 [10] (bts 11 2047) ?_;refine jQ ?_)
     all_goals repeat' (refine jR ?_)
     all_goals refine jZ (vs:=[_,_,_]) rfl ⟨rc_A rfl rfl rfl rfl,rc_A rfl rfl rfl rfl,rfl,trivial⟩ rfl ⟨Gh.le.refl _,rfl,?_⟩
     all_goals exact .inr ⟨_,w,c1,rfl,rfl,hri⟩
    ·rw [if_neg (show ¬ V.tag (.nd 85 [] d.tag [w]) = n from hdn)] at hst
     rw [hst]
     refine jB [(0,_),(1,_),(2,_),(3,_)] Tryz.func91 Tryz.ntmps91 fun B hok hB hW=>?_
     repeat' (first | (refine jR ?_) | (refine jo ?_;first | refine jO fun _=>?_ | refine jL fun _=>?_ | refine jAl rfl ?_ | refine jAm rfl ?_ | (refine c_rt rfl rfl rfl cx_sign rfl ?_)) | (refine k_ff rfl rfl ?_))
     rename_i y5 y6 y8 y9
     (refine k_any (s_any (id:=12) [.blk y9 (.cells (List.toArray [U8 0,S [],I 0,nilS]) tVal (0,0)),.blk y8 (.cells (List.toArray [S [],S [],S []]) tKnd (0,0)),.blk y6 (.cells (List.toArray [U8 (85 : Nat),S [],I d.tag,.slice (some ⟨xb,xo,none⟩) 1 kc]) tVal (0,0)),.blk y5 (.cells (List.toArray [S [],S [64],S (nm k)]) tKnd (0,0))] (by intro y hy;simp only [List.mem_cons,List.not_mem_nil,or_false] at hy ⊢;rcases hy with hy | hy | hy | hy <;> simp [hy]) mixed ?_);refine jT 4 [0,1,2,4] (bts 8 23) ?_;(refine jG (bts 8 31) 3 rfl (g_ldS rfl rfl aS rfl rfl) ?_);(refine jG (bts 8 63) 5 rfl (g_ld rfl rfl rfl) ?_);((refine jG (bts 8 127) 6 rfl (g_lookupX rfl rfl (map_G aS) aS rfl) ?_));refine jT 0 [7] (bts 8 255) ?_;refine jQ ?_)
     all_goals repeat' (first | (refine jR ?_) | (refine jo ?_;first | refine jAl rfl ?_ | refine jV (g_ldS rfl rfl aS rfl rfl) ?_ | refine jV (g_bld rfl rfl) ?_ | refine jC rfl rfl rfl ?_ | (refine jAt rfl ?_) | (refine jAf rfl ?_) | refine jV (g_peq0 rfl rfl) ?_ | (refine c_rt rfl rfl rfl cx_fld rfl ?_)) | (refine k_gt rfl rfl (dTt oM) ?_) | (refine k_gf rfl rfl (by first | rfl | (refine decide_eq_false ?_;(omega))) ?_) | (refine k_tt rfl (dTt ‹_›) ?_))
     all_goals refine jZ (vs:=[_,_,_]) rfl ⟨rc_A rfl rfl rfl rfl,rc_A rfl rfl rfl rfl,rfl,trivial⟩ rfl ⟨Gh.le.refl _,rfl,?_⟩
     all_goals exact .inl ⟨rfl,rfl⟩
  ·rw [if_pos hso] at hst
   rw [hst]
   obtain ⟨w,tx,tg,a,mm,kc⟩:=c
   have e0 : vcF ⟨w,tx,tg,a,mm,kc⟩ = [U8 (w : Nat),S tx,I tg,.slice a mm kc]:=rfl
   rw [e0]
   refine jB [(0,_),(1,_),(2,_),(3,_)] Tryz.func91 Tryz.ntmps91 fun B hok hB hW=>?_
   repeat' (first | (refine jR ?_) | (refine jo ?_;first | refine jO fun _=>?_ | refine jL fun _=>?_ | refine jAl rfl ?_ | refine jAm rfl ?_ | (refine c_rt rfl rfl rfl cx_sign rfl ?_)) | (refine k_ff rfl rfl ?_))
   rename_i y5 y6 y8 y9
   (refine k_any (s_any (id:=12) [.blk y9 (.cells (List.toArray [U8 0,S [],I 0,nilS]) tVal (0,0)),.blk y8 (.cells (List.toArray [S [],S [],S []]) tKnd (0,0)),.blk y6 (.cells (List.toArray [U8 (w : Nat),S tx,I tg,.slice a mm kc]) tVal (0,0)),.blk y5 (.cells (List.toArray [S [],S [64],S (nm k)]) tKnd (0,0))] (by intro y hy;simp only [List.mem_cons,List.not_mem_nil,or_false] at hy ⊢;rcases hy with hy | hy | hy | hy <;> simp [hy]) mixed ?_);refine jT 4 [0,1,2,4] (bts 8 23) ?_;(refine jG (bts 8 31) 3 rfl (g_ldS rfl rfl aS rfl rfl) ?_);(refine jG (bts 8 63) 5 rfl (g_ld rfl rfl rfl) ?_);((refine jG (bts 8 127) 6 rfl (g_lookupX rfl rfl (map_G aS) aS rfl) ?_));refine jT 0 [7] (bts 8 255) ?_;refine jQ ?_)
   all_goals repeat' (first | (refine jR ?_) | (refine jo ?_;first | refine jV (g_ldS rfl rfl aS rfl rfl) ?_ | refine jV (g_bld rfl rfl) ?_ | refine jC rfl rfl rfl ?_ | (refine jAt rfl ?_) | (refine jAf rfl ?_) | refine jV (g_peq0 rfl rfl) ?_ | (refine c_rt rfl rfl rfl cx_fld rfl ?_)) | (refine k_gt rfl rfl (dTt oM) ?_) | (refine k_gf rfl rfl rfl ?_) | (refine k_tt rfl rfl ?_))
   all_goals refine jZ (vs:=[_,_,_]) rfl ⟨rc_A rfl rfl rfl rfl,rc_A rfl rfl rfl rfl,rfl,trivial⟩ rfl ⟨Gh.le.refl _,rfl,?_⟩
   all_goals exact .inl ⟨rfl,rfl⟩
theorem c_stepI {b : Nat} {qs : List TyP} {k : List UInt8} {v : V} {c : VC} {n : Int} (hS : ScI G b qs) (hw : SchW (tyq qs)) (hki : kindIn (tyq qs) k = true) (ho : OfK (tyq qs) k v) (hr : V.rep G v c) (hn : 0 ≤ n ∧ n ≤ 999999) (htt : v.tot ≤ 1000000) :
  FnS Tryz.prog 91 [Pt b 0,Ag (kdF k),Ag (vcF c),I n] G (StepPI (tyq qs) (stepV (tyq qs) k v n)):=by
 cases hrf : refT (tyq qs) k with
 | some t=>exact c_stepT hS hw hki hrf ho hr hn htt
 | none =>
  obtain ⟨ch,r,rfl⟩:=kind_ne hki
  by_cases h91 : ch.toNat = 91 ∨ ch.toNat = 63
  ·rcases ofK_inv_c ho oM with ⟨h1,_⟩ | ⟨h1,_⟩ | ⟨h1,_⟩ | ⟨h1,ks,_,_,rfl⟩ | ⟨h1,h2⟩
   ·omega
   ·omega
   ·omega
   ·obtain rfl:=u8_eq h1 dC
    have:=tots_len ks
    rw [nd_tot] at htt
    exact c_stepL hr hn oM
   ·obtain rfl:=u8_eq h1 dC
    rcases h2 with rfl | ⟨w,_,rfl⟩
    ·exact c_stepO (.inl rfl) hr hn
    ·exact c_stepO (.inr ⟨w,rfl⟩) hr hn
  ·exact c_stepP (plain_kinds hki h91 hrf)
theorem c_followI {b : Nat} {qs : List TyP} (hS : ScI G b qs) (hw : SchW (tyq qs)) {p : List Int} {pv : Value} (hp : SlV G pv 1 p.length (rows inR p)) (hpn : ∀ n ∈ p,0 ≤ n ∧ n ≤ 999999) (hpl : p.length ≤ 1000) {k : List UInt8} {v : V} {c : VC} (hr : V.rep G v c) (ho : OfK (tyq qs) k v) (hki : kindIn (tyq qs) k = true) (htt : v.tot ≤ 1000000) :
  FnS Tryz.prog 54 [Pt b 0,Ag (kdF k),Ag (vcF c),pv] G (StepPI (tyq qs) (followV (tyq qs) k v p)):=by
 obtain ⟨pa,pc,rfl⟩:=hp.sl
 unfold kdF
 have e0 : vcF c = [U8 (c.what : Nat),S c.text,I c.tag,.slice c.a c.n c.c]:=rfl
 rw [e0]
 refine jB [(0,_),(1,_),(2,_),(3,_)] Tryz.func54 Tryz.ntmps54 fun B hok hB hW=>?_
 repeat' (first | (refine jR ?_) | (refine jo ?_;first | refine jO fun _=>?_ | refine jL fun _=>?_ | refine jV (g_lenL rfl) ?_))
 rename_i y5 y6 y8 y9
 refine k_loop (ι:=List UInt8 × V × VC × Nat × Gh) (fun j=>((V.rep j.2.2.2.2 j.2.1 j.2.2.1 ∧ OfK (tyq qs) j.1 j.2.1) ∧ (kindIn (tyq qs) j.1 = true ∧ j.2.1.tot ≤ 1000000)) ∧ (Gh.le G j.2.2.2.2 ∧ j.2.2.2.1 ≤ p.length) ∧ followV (tyq qs) k v p = followV (tyq qs) j.1 j.2.1 (p.drop j.2.2.2.1)) (fun j=>[(0,Pt b 0),(5,Pt y5 0),(6,Pt y6 0),(8,Pt y8 0),(9,Pt y9 0),(14,.slice pa p.length pc),(15,I p.length),(16,I j.2.2.2.1)]) (fun j=>j.2.2.2.2) (fun j=>[.blk y9 (.cells (List.toArray [U8 0,S [],I 0,nilS]) tVal (0,0)),.blk y8 (.cells (List.toArray [S [],S [],S []]) tKnd (0,0)),.blk y6 (.cells (List.toArray [U8 (j.2.2.1.what : Nat),S j.2.2.1.text,I j.2.2.1.tag,.slice j.2.2.1.a j.2.2.1.n j.2.2.1.c]) tVal (0,0)),.blk y5 (.cells (List.toArray [S (sg j.1),S (bs j.1),S (nm j.1)]) tKnd (0,0))]) (fun j=>p.length - j.2.2.2.1) (k,v,c,0,G) ?_ tU rfl sRr (fun j Hj=>?_)
 ·exact ⟨⟨⟨hr,ho⟩,hki,htt⟩,⟨Gh.le.refl _,Nat.zero_le _⟩,rfl⟩
 obtain ⟨k0,v0,c0,i,Gq⟩:=j
 dsimp only at Hj ⊢
 obtain ⟨⟨⟨hr0,ho0⟩,hk0,ht0⟩,⟨hgq,hi0⟩,he⟩:=Hj
 by_cases hi : i < p.length
 ·obtain ⟨xb,xo,xc,e,hs1⟩:=(hp.mono hgq).expl oM
  simp only [Value.slice.injEq] at e
  obtain ⟨rfl,-,rfl⟩:=e
  have hni:=hpn _ (nth_mem hi)
  have hti : nth p i = nth p i:=rfl
  have hstp:=c_stepI (hS.mono hgq) hw hk0 ho0 hr0 hni ht0
  unfold kdF at hstp
  rw [show vcF c0 = [U8 (c0.what : Nat),S c0.text,I c0.tag,.slice c0.a c0.n c0.c] from rfl] at hstp
  rw [followV_drop hi] at he
  cases hsv : stepV (tyq qs) k0 v0 (nth p i) with
  | none =>
   have cx_stn:=StepPI.no hstp hsv
   rw [hsv] at he
   repeat' (first | (refine jR ?_) | (refine jo ?_;first | (refine jV (g_iaddrN rfl rfl oM) ?_) | refine jAm rfl ?_ | (refine jV (g_ldR1x rfl rfl aS ?_ aS rfl) ?_;(focus ((omega);done))) | refine jC rfl rfl rfl ?_ | refine jV (g_bld rfl rfl) ?_ | (refine c_fns rfl rfl rfl cx_stn rfl ?_;rintro _ G hle rfl;skip)) | (refine k_tt rfl (by first | rfl | (refine decide_eq_true ?_;(omega))) ?_))
   all_goals refine jZ (vs:=[_,_,_]) rfl ⟨rc_A rfl rfl rfl rfl,rc_A rfl rfl rfl rfl,rfl,trivial⟩ rfl ⟨hgq.trans hle,rfl,?_⟩
   all_goals exact .inl ⟨he,rfl⟩
  | some y =>
   obtain ⟨k1,v1⟩:=y
   have cx_sty:=StepPI.yes hstp hsv
   rw [hsv] at he
   obtain ⟨g1,g2⟩:=stepV_ok hw ho0 hk0 hni.1 hsv
   have g3:=stepV_tot hw ho0 hk0 hni.1 hsv ht0 oM
   repeat' (first | refine jM ?_ | (refine jo ?_;first | (refine jV (g_iaddrN rfl rfl oM) ?_) | refine jAm rfl ?_ | (refine jV (g_ldR1x rfl rfl aS ?_ aS rfl) ?_;(focus ((omega);done))) | refine jC rfl rfl rfl ?_ | (refine c_fns rfl rfl rfl cx_sty rfl ?_;rintro _ G hle ⟨cv,rfl,hrv⟩;skip)) | (refine k_tt rfl (dTt oM) ?_) | (refine k_ff rfl rfl ?_))
   exact k_rd (k1,v1,cv,i + 1,G) ⟨⟨⟨hrv,g1⟩,g2,g3⟩,⟨hgq.trans hle,by dsimp only;omega⟩,he⟩ (by dsimp only;omega) tU rfl sRr
 ·have hd : p.drop i = []:=List.drop_eq_nil_of_le oM
  rw [hd] at he
  repeat' (first | (refine jR ?_) | (refine k_ff rfl (dFf oM) ?_))
  (refine k_any (s_any (id:=9) [.blk y6 (.cells (List.toArray [U8 (c0.what : Nat),S c0.text,I c0.tag,.slice c0.a c0.n c0.c]) tVal (0,0)),.blk y5 (.cells (List.toArray [S (sg k0),S (bs k0),S (nm k0)]) tKnd (0,0))] (by intro y hy;simp only [List.mem_cons,List.not_mem_nil,or_false] at hy ⊢;rcases hy with hy | hy <;> simp [hy]) mixed ?_);(refine jG (bts 5 1) 0 rfl (g_ldA rfl rfl rfl rfl) ?_);(refine jG (bts 5 3) 1 rfl (g_ldA rfl rfl rfl rfl) ?_);refine jA 2 rfl ?_;(refine jC rfl rfl rfl ?_);refine jK (bts 5 7) ?_;refine jA 3 rfl ?_;(refine jC rfl rfl rfl ?_);refine jK (bts 5 15) ?_;refine jW 0 [4] (bts 5 31) ?_;refine jQ ?_)
  all_goals repeat' (refine jR ?_)
  all_goals refine jZ (vs:=[_,_,_]) rfl ⟨rc_A rfl rfl rfl rfl,rc_A rfl rfl rfl rfl,rfl,trivial⟩ rfl ⟨hgq,rfl,?_⟩
  all_goals exact .inr ⟨_,_,c0,he,rfl,hr0⟩
theorem readPath_no {s : List UInt8} (h : s.length ≤ 1048576) (hp : pathOf s = none) : ∀ G,FnS Tryz.prog 53 [S s] G (fun v _=>∃ a c n,v = Tu [.slice a n c,Bo false] ∧ True):=fun G=>by
 refine (c_readPath (G:=G) h).mono ?_
 rintro v G' L' ⟨h1,h2,a,c,n,rfl,_⟩
 exact ⟨h1,h2,a,c,n,by rw [hp];rfl,trivial⟩
theorem readPath_yes {s : List UInt8} {p : List Int} (h : s.length ≤ 1048576) (hp : pathOf s = some p) : ∀ G,FnS Tryz.prog 53 [S s] G (fun v G'=>∃ a c n,v = Tu [.slice a n c,Bo true] ∧ n = p.length ∧ SlV G' (.slice a n c) 1 p.length (rows inR p)):=fun G=>by
 refine (c_readPath (G:=G) h).mono ?_
 rintro v G' L' ⟨h1,h2,a,c,n,rfl,h3⟩
 exact ⟨h1,h2,a,c,n,by rw [hp];rfl,h3 p hp⟩
theorem c_PathGetI {s k w p : List UInt8} (h1 : s.length ≤ 1048576 ∧ k.length ≤ 1048576 ∧ w.length ≤ 1048576 ∧ p.length ≤ 1048576) : PuG Tryz.prog 31 [S s,S k,S w,S p] G (· = pgR (pathGetV s k w p)):=by
 unfold pathGetV
 cases hg : givenV s k w with
 | none =>
  rw [pgv_none]
  have cx_gi0:=c_given0 (G:=G) (s:=s) (k:=k) (w:=w) oM hg
  cases hpo : pathOf p with
  | none =>
   have cx_sp:=readPath_no h1.2.2.2 hpo
   refine jB (Post:=fun v G' L'=>G' = G ∧ L' = [] ∧ _) [(0,_),(1,_),(2,_),(3,_)] Tryz.func31 Tryz.ntmps31 fun B hok hB hW=>?_
   repeat' (first | (refine jR ?_) | (refine jo ?_;first | refine jL fun _=>?_ | refine jC rfl rfl rfl ?_ | (refine jAt rfl ?_) | (refine c_fns rfl rfl rfl cx_gi0 rfl ?_;rintro _ G hle ⟨p1,a1,b1,c1,rfl⟩;skip) | (refine c_fns rfl rfl rfl (cx_sp _) rfl ?_;rintro _ G hle ⟨sa,sc,sn,rfl,hsp⟩;skip)) | (refine k_gt rfl rfl rfl ?_) | (refine k_tt rfl rfl ?_))
   all_goals refine Nx.base hok hB ?_
   all_goals refine jY (vs:=[_,_,_]) ?_
   all_goals rfl
  | some q =>
   have cx_sp:=readPath_yes h1.2.2.2 hpo
   refine jB (Post:=fun v G' L'=>G' = G ∧ L' = [] ∧ _) [(0,_),(1,_),(2,_),(3,_)] Tryz.func31 Tryz.ntmps31 fun B hok hB hW=>?_
   repeat' (first | (refine jR ?_) | (refine jo ?_;first | refine jL fun _=>?_ | refine jC rfl rfl rfl ?_ | (refine jAt rfl ?_) | (refine c_fns rfl rfl rfl cx_gi0 rfl ?_;rintro _ G hle ⟨p1,a1,b1,c1,rfl⟩;skip) | (refine c_fns rfl rfl rfl (cx_sp _) rfl ?_;rintro _ G hle ⟨sa,sc,sn,rfl,hsp⟩;skip)) | (refine k_gt rfl rfl rfl ?_) | (refine k_tt rfl rfl ?_))
   all_goals refine Nx.base hok hB ?_
   all_goals refine jY (vs:=[_,_,_]) ?_
   all_goals rfl
 | some u =>
  obtain ⟨ts,hs,hki,hvo,hto,hwf⟩:=given_some hg
  have cx_gi1:=c_given1 (G:=G) (s:=s) (k:=k) (w:=w) oM hs hki hvo
  rw [hs]
  cases hpo : pathOf p with
  | none =>
   have cx_sp:=readPath_no h1.2.2.2 hpo
   refine jB (Post:=fun v G' L'=>G' = G ∧ L' = [] ∧ _) [(0,_),(1,_),(2,_),(3,_)] Tryz.func31 Tryz.ntmps31 fun B hok hB hW=>?_
   repeat' (first | (refine jR ?_) | (refine jo ?_;first | refine jL fun _=>?_ | refine jC rfl rfl rfl ?_ | (refine jAf rfl ?_) | (refine c_fns rfl rfl rfl cx_gi1 rfl ?_;rintro _ G hle ⟨bg,qg,cv,rfl,hTg,hRg,hrv⟩;skip) | (refine c_fns rfl rfl rfl (cx_sp _) rfl ?_;rintro _ G hle ⟨sa,sc,sn,rfl,hsp⟩;skip)) | (refine k_gf rfl rfl rfl ?_) | (refine k_tt rfl rfl ?_))
   all_goals refine Nx.base hok hB ?_
   all_goals refine jY (vs:=[_,_,_]) ?_
   all_goals rfl
  | some q =>
   have cx_sp:=readPath_yes h1.2.2.2 hpo
   obtain ⟨hq8,hqn⟩:=pathOf_le hpo
   have hof:=valOf_of_k hvo
   have hw:=schemaOf_w hs
   dsimp only
   refine jB (Post:=fun v G' L'=>G' = G ∧ L' = [] ∧ _) [(0,_),(1,_),(2,_),(3,_)] Tryz.func31 Tryz.ntmps31 fun B hok hB hW=>?_
   repeat' (first | (refine jR ?_) | (refine jo ?_;first | refine jL fun _=>?_ | refine jC rfl rfl rfl ?_ | (refine jAf rfl ?_) | refine jAm rfl ?_ | (refine c_fns rfl rfl rfl cx_gi1 rfl ?_;rintro _ G hle ⟨bg,qg,cv,rfl,hTg,hRg,hrv⟩;(try have hrv:=rep_mono hle hrv);(try have hRg:=ScI.mono hRg hle)) | (refine c_fns rfl rfl rfl (cx_sp _) rfl ?_;rintro _ G hle ⟨sa,sc,sn,rfl,hsp⟩;(try have hrv:=rep_mono hle hrv);(try have hRg:=ScI.mono hRg hle))) | (refine k_gf rfl rfl rfl ?_) | (refine k_ff rfl rfl ?_))
   obtain ⟨rfl,hsp⟩:=hsp
   subst hTg
   have hfl:=c_followI hRg hw hsp hqn oM hrv hof hki oM
   unfold kdF at hfl
   rw [show vcF cv = [U8 (cv.what : Nat),S cv.text,I cv.tag,.slice cv.a cv.n cv.c] from rfl] at hfl
   cases hfo : followV (tyq qg) k u q with
   | none =>
    have cx_fon:=StepPI.no hfl hfo
    repeat' (first | (refine jR ?_) | (refine jo ?_;first | refine jC rfl rfl rfl ?_ | (refine c_fns rfl rfl rfl cx_fon rfl ?_;rintro _ G hle rfl;skip)) | (refine k_tt rfl rfl ?_))
    all_goals refine Nx.base hok hB ?_
    all_goals refine jY (vs:=[_,_,_]) ?_
    all_goals rfl
   | some y =>
    obtain ⟨k1,v1⟩:=y
    have cx_foy:=StepPI.yes hfl hfo
    have g3:=followV_tot hw hof hki (fun n hn=>(hqn n hn).1) hfo (N:=1000000) oM oM
    obtain ⟨_,hk1⟩:=followV_ok hw hof hki (fun n hn=>(hqn n hn).1) hfo
    repeat' (first | (refine jR ?_) | (refine jo ?_;first | refine jC rfl rfl rfl ?_ | (refine c_fns rfl rfl rfl cx_foy rfl ?_;rintro _ G hle ⟨cv,rfl,hrv⟩;skip)) | (refine k_ff rfl rfl ?_))
    have cx_txt:=c_textI (G:=G) (kindIn_ok hk1)
    have cx_pr:=c_print (G:=G) (c:=cv) v1.tot (Nat.le_refl _) g3 hrv
    unfold kdF at cx_txt
    rw [show vcF cv = [U8 (cv.what : Nat),S cv.text,I cv.tag,.slice cv.a cv.n cv.c] from rfl] at cx_pr
    rename_i y12 y13 _ _ _ _
    (refine k_any (s_any (id:=8) _ (fun _ h=>h) mixed ?_);(refine jG (bts 7 1) 0 rfl (g_ldA rfl rfl rfl rfl) ?_);(refine jG (bts 7 5) 2 rfl (g_ldA rfl rfl rfl rfl) ?_);refine jA 1 rfl ?_;(refine c_rt rfl rfl rfl cx_txt rfl ?_);refine jS (bts 7 7) ?_;refine jA 3 rfl ?_;(refine c_rt rfl rfl rfl cx_pr rfl ?_);refine jS (bts 7 15) ?_;refine jT 0 [4,5,6] (bts 7 127) ?_;refine jQ ?_)
    all_goals repeat' (refine jR ?_)
    all_goals refine Nx.base hok hB ?_
    all_goals refine jY (vs:=[_,_,_]) ?_
    all_goals rfl
end Go.E
namespace Go.E
set_option maxRecDepth 20000
set_option maxHeartbeats 2000000
open Go.Proofs
theorem out_inj {ts : List Ty} (hw : SchW ts) {k : List UInt8} {u v : V} (hu : OfK ts k u) (hv : OfK ts k v) (h : u.out = v.out) : u = v:=by
 have h1:=rd_in hw (max u.deep v.deep) hu (Nat.le_max_left _ _) [] dl_nil
 have h2:=rd_in hw (max u.deep v.deep) hv (Nat.le_max_right _ _) [] dl_nil
 rw [h,h2] at h1
 simp only [Option.some.injEq,Prod.mk.injEq,and_true] at h1
 exact h1.symm
theorem tag_nd {w : Nat} {x : List UInt8} {t : Int} {ks : List V} : V.tag (.nd w x t ks) = t:=rfl
def nf (ts : List Ty) (f : Fld) (x : V) : List V:=if x.out = standF ts f then [] else [.nd 61 [] f.tag [x]]
theorem putF_nil {ts : List Ty} {f : Fld} {x : V} : putF ts f x [] = nf ts f x:=rfl
theorem putF_cons {ts : List Ty} {f : Fld} {x y : V} {r : List V} : putF ts f x (y :: r) = if y.tag < f.tag then y :: putF ts f x r else nf ts f x ++ (if y.tag = f.tag then r else y :: r):=rfl
theorem putF_gt {ts : List Ty} {f : Fld} {x : V} : ∀ {vs : List V},(∀ v ∈ vs,f.tag < v.tag) → putF ts f x vs = nf ts f x ++ vs
 | [],_=>by rw [putF_nil,List.append_nil]
 | v :: vs,h=>by
  have:=h v (by simp)
  rw [putF_cons,if_neg oM,if_neg oM]
theorem toldV_gt {f : Fld} : ∀ {vs : List V},(∀ v ∈ vs,f.tag < v.tag) → toldV f vs = none
 | [],_=>rfl
 | v :: vs,h=>by
  have:=h v (by simp)
  rw [toldV,if_neg oM]
  exact toldV_gt fun u hu=>h u (by simp [hu])
theorem toldV_nf {ts : List Ty} {f : Fld} {x : V} {vs : List V} (h : ∀ v ∈ vs,f.tag < v.tag) : toldV f (nf ts f x ++ vs) = if x.out = standF ts f then none else some x:=by
 unfold nf
 split
 ·exact toldV_gt h
 ·rw [List.singleton_append,toldV,tag_nd,if_pos rfl];rfl
abbrev Srt (vs : List V) : Prop:=vs.Pairwise fun a b=>a.tag < b.tag
theorem toldV_put {ts : List Ty} {f : Fld} {x : V} : ∀ {vs : List V},Srt vs → toldV f (putF ts f x vs) = if x.out = standF ts f then none else some x
 | [],_=>by
  rw [putF_nil]
  have:=toldV_nf (ts:=ts) (f:=f) (x:=x) (vs:=[]) (by simp)
  rwa [List.append_nil] at this
 | v :: vs,h=>by
  replace h:=List.pairwise_cons.1 h
  rw [putF_cons]
  split
  ·rw [toldV,if_neg oM]
   exact toldV_put h.2
  ·refine toldV_nf fun u hu=>?_
   split at hu
   ·have:=h.1 u hu;omega
   ·rcases List.mem_cons.1 hu with rfl | hu
    ·omega
    ·have:=h.1 u hu;omega
theorem putF_put {ts : List Ty} {f : Fld} {x y : V} : ∀ {vs : List V},Srt vs → putF ts f y (putF ts f x vs) = putF ts f y vs
 | [],_=>by
  rw [putF_nil,putF_nil]
  unfold nf
  split
  ·exact putF_nil
  ·rw [putF_cons,tag_nd,if_neg oM,if_pos rfl,List.append_nil];rfl
 | v :: vs,h=>by
  replace h:=List.pairwise_cons.1 h
  rw [putF_cons,putF_cons (x:=y)]
  split
  ·rename_i hl
   rw [putF_cons,if_pos hl,putF_put h.2]
  ·rename_i hl
   have hB : ∀ u ∈ (if v.tag = f.tag then vs else v :: vs),f.tag < u.tag:=fun u hu=>by
    split at hu
    ·have:=h.1 u hu;omega
    ·rcases List.mem_cons.1 hu with rfl | hu
     ·omega
     ·have:=h.1 u hu;omega
   generalize (if v.tag = f.tag then vs else v :: vs) = ws at hB
   rw [show nf ts f x = if x.out = standF ts f then [] else [.nd 61 [] f.tag [x]] from rfl]
   split
   ·exact putF_gt hB
   ·rw [List.singleton_append,putF_cons,tag_nd,if_neg oM,if_pos rfl]
theorem putF_self {ts : List Ty} {t : Ty} (hw : TyW t) {f : Fld} (hf : f ∈ t.fields) {z : V} (hz : z.out = standF ts f) : ∀ {fs : List (Fld × V)},(∀ p ∈ fs,p.1 ∈ t.fields ∧ p.2.out ≠ standF ts p.1) → Srt (fs.map fldV) → putF ts f ((toldV f (fs.map fldV)).getD z) (fs.map fldV) = fs.map fldV
 | [],_,_=>by
  rw [List.map_nil,putF_nil]
  show nf ts f z = []
  unfold nf;rw [if_pos hz]
 | q :: fs,hp,h=>by
  replace h:=List.pairwise_cons.1 h
  have hq:=hp q (by simp)
  rw [List.map_cons,putF_cons,toldV]
  by_cases hl : (fldV q).tag < f.tag
  ·rw [if_pos hl,if_neg oM,putF_self hw hf hz (fun p hp'=>hp p (by simp [hp'])) h.2]
  ·rw [if_neg hl]
   by_cases he : (fldV q).tag = f.tag
   ·rw [if_pos he,if_pos he]
    have h1 : q.1 = f:=fld_tag hw hq.1 hf he
    have h2 : ((some (nth (fldV q).kids 0)).getD z) = q.2:=rfl
    rw [h2]
    unfold nf
    rw [if_neg (by rw [← h1];exact hq.2),List.singleton_append,← h1]
   ·rw [if_neg he,if_neg he,toldV_gt fun v hv=>by have:=h.1 v hv;omega]
    show nf ts f z ++ _ = _
    unfold nf;rw [if_pos hz,List.nil_append]
theorem toldV_ne {ts : List Ty} {f g : Fld} (hg : g.tag ≠ f.tag) {x : V} : ∀ {vs : List V},toldV g (putF ts f x vs) = toldV g vs
 | []=>by
  rw [putF_nil];unfold nf
  split
  ·rfl
  ·show (if V.tag (.nd 61 [] f.tag [x]) = g.tag then some (nth (V.kids (.nd 61 [] f.tag [x])) 0) else none) = none
   rw [tag_nd,if_neg oM]
 | v :: vs=>by
  rw [putF_cons]
  split
  ·rw [toldV,toldV,toldV_ne hg]
  ·have h1 : ∀ ws : List V,toldV g (nf ts f x ++ ws) = toldV g ws:=fun ws=>by
    unfold nf
    split
    ·rfl
    ·rw [List.singleton_append,toldV,tag_nd,if_neg oM]
   rw [h1]
   split
   ·rename_i he
    rw [toldV,if_neg oM]
   ·rfl
def setV (ts : List Ty) (k : List UInt8) (v : V) (n : Int) (y : V) : V:=if v.what = 82 then (match refT ts k with
  | some t=>(match fldT t.fields n with
   | some f=>.nd 82 [] 0 (putF ts f y v.kids)
   | none=>v)
  | none=>v)
 else .nd v.what [] v.tag (if v.what = 91 then v.kids.set n.toNat y else [y])
theorem changeV_cons {ts : List Ty} {k k1 : List UInt8} {v v1 x : V} {n : Int} {p : List Int} (h : stepV ts k v n = some (k1,v1)) : changeV ts k v (n :: p) x = setV ts k v n (changeV ts k1 v1 p x):=by
 rw [changeV,h];rfl
theorem followV_cons {ts : List Ty} {k k1 : List UInt8} {v v1 : V} {n : Int} {p : List Int} (h : stepV ts k v n = some (k1,v1)) : followV ts k v (n :: p) = followV ts k1 v1 p:=by
 rw [followV,h]
theorem srt_fs {fs : List (Fld × V)} (h : fs.Pairwise fun a b=>a.1.tag < b.1.tag) : Srt (fs.map fldV):=List.pairwise_map.2 h
theorem set_step {ts : List Ty} (hw : SchW ts) {k : List UInt8} {v : V} (h : OfK ts k v) (hk : kindIn ts k = true) {n : Int} (hn : 0 ≤ n) {k1 : List UInt8} {v1 : V} (hs : stepV ts k v n = some (k1,v1)) {y : V} (hy : OfK ts k1 y) :
  (stepV ts k (setV ts k v n y) n = some (k1,y) ∧ setV ts k v n v1 = v) ∧ (∀ z,setV ts k (setV ts k v n y) n z = setV ts k v n z) ∧ ∀ m,0 ≤ m → m ≠ n → stepV ts k (setV ts k v n y) m = stepV ts k v m:=by
 obtain ⟨c,r,rfl⟩:=kind_ne hk
 have hs0:=hs
 unfold stepV at hs
 dsimp only at hs
 split at hs
 ·rename_i hc
  split at hs
  ·rename_i hlt
   simp only [Option.some.injEq,Prod.mk.injEq] at hs
   obtain ⟨rfl,rfl⟩:=hs
   rcases ofK_inv_c h oM with ⟨g1,_⟩ | ⟨g1,_⟩ | ⟨g1,_⟩ | ⟨g1,ks,g2,g3,rfl⟩ | ⟨g1,rfl | ⟨u,g3,rfl⟩⟩
   ·omega
   ·omega
   ·omega
   ·rw [V.kids] at hlt ⊢
    have hi : n.toNat < ks.length:=oM
    have e : ∀ z,setV ts (c :: r) (.nd 91 [] 0 ks) n z = .nd 91 [] 0 (ks.set n.toNat z):=fun z=>by
     unfold setV;rw [V.what,if_neg dC,if_pos rfl];rfl
    refine ⟨⟨?_,?_⟩,fun z=>?_,fun m hm hne=>?_⟩
    ·rw [e]
     unfold stepV
     dsimp only
     rw [if_pos hc,V.kids,if_pos (by rw [List.length_set];exact hlt),nth_eq (by rw [List.length_set];exact hi),List.getElem_set_self]
    ·rw [e,nth_eq hi,List.set_getElem_self]
    ·rw [e,e]
     unfold setV;rw [V.what,if_neg dC,if_pos rfl,V.kids,List.set_set];rfl
    ·rw [e]
     unfold stepV
     dsimp only
     rw [if_pos hc,if_pos hc,V.kids,V.kids,List.length_set]
     split
     ·rename_i hm2
      rw [nth_eq (by rw [List.length_set];omega),nth_eq oM,List.getElem_set_ne oM]
     ·rfl
   ·simp [V.kids] at hlt;omega
   ·simp [V.kids] at hlt
    obtain rfl : n = 0:=oM
    have e : ∀ w z,setV ts (c :: r) (.nd 63 [] 0 [w]) 0 z = .nd 63 [] 0 [z]:=fun w z=>by
     unfold setV;rw [V.what,if_neg dC,if_neg dC];rfl
    refine ⟨⟨?_,?_⟩,fun z=>?_,fun m hm hne=>?_⟩
    ·rw [e]
     unfold stepV
     dsimp only
     rw [if_pos hc,V.kids,if_pos (by simp)];rfl
    ·rw [e];rfl
    ·rw [e,e,e]
    ·rw [e]
     unfold stepV
     dsimp only
     rw [if_pos hc,if_pos hc,V.kids,V.kids,if_neg (by simp;omega),if_neg (by simp;omega)]
  ·cases hs
 ·rename_i hc
  split at hs
  ·cases hs
  ·rename_i t hr
   have ht:=refT_mem hr
   split at hs
   ·cases hs
   ·rename_i f hf
    have hfm:=List.mem_of_find?_eq_some hf
    have hft : f.tag = n:=by have:=List.find?_some hf;simpa using this
    split at hs
    ·cases hs
    ·rename_i h69
     split at hs
     ·rename_i h82
      simp only [Option.some.injEq,Prod.mk.injEq] at hs
      obtain ⟨rfl,rfl⟩:=hs
      rcases ofK_inv_t h hr with ⟨_,fs,rfl,g3,g4,g5,g6⟩ | ⟨g1,_⟩ | ⟨g1,_⟩
      ·have e : ∀ vs z,setV ts (c :: r) (.nd 82 [] 0 vs) n z = .nd 82 [] 0 (putF ts f z vs):=fun vs z=>by
        unfold setV;rw [V.what,if_pos rfl,hr]
        dsimp only
        rw [hf];rfl
       have hst:=standV_ok hw ht oM hfm
       have hsrt:=srt_fs g6
       refine ⟨⟨?_,?_⟩,fun z=>?_,fun m hm hne=>?_⟩
       ·rw [e]
        unfold stepV
        dsimp only
        rw [if_neg hc,hr]
        dsimp only
        rw [hf]
        dsimp only
        rw [if_neg h69,if_pos h82]
        unfold getV
        rw [V.kids,toldV_put hsrt]
        split
        ·rename_i hso
         show some (f.kind,standV ts f) = _
         rw [out_inj hw hst.1 hy (by rw [hst.2.2,hso])]
        ·rfl
       ·rw [e]
        unfold getV
        rw [V.kids,putF_self (hw.ty t ht) hfm hst.2.2 (fun p hp=>⟨g3 p hp,g5 p hp⟩) hsrt]
       ·rw [e,e,e,putF_put hsrt]
       ·rw [e]
        unfold stepV
        dsimp only
        rw [if_neg hc,if_neg hc,hr]
        dsimp only
        cases hg : fldT t.fields m with
        | none=>rfl
        | some g =>
         have hgt : g.tag = m:=by have:=List.find?_some hg;simpa using this
         dsimp only
         rw [if_neg h69,if_neg h69,if_pos h82,if_pos h82]
         unfold getV
         rw [V.kids,V.kids,toldV_ne oM]
      ·omega
      ·omega
     ·rename_i h82
      split at hs
      ·rename_i htg
       simp only [Option.some.injEq,Prod.mk.injEq] at hs
       obtain ⟨rfl,rfl⟩:=hs
       rcases ofK_inv_t h hr with ⟨g1,_⟩ | ⟨g1,_⟩ | ⟨_,_,d,u,rfl,g4,g5⟩
       ·omega
       ·omega
       ·have e : ∀ w z,setV ts (c :: r) (.nd 85 [] d.tag [w]) n z = .nd 85 [] d.tag [z]:=fun w z=>by
         unfold setV;rw [V.what,if_neg dC,if_neg dC];rfl
        have htg2 : d.tag = n:=htg
        refine ⟨⟨?_,?_⟩,fun z=>?_,fun m hm hne=>?_⟩
        ·rw [e]
         unfold stepV
         dsimp only
         rw [if_neg hc,hr]
         dsimp only
         rw [hf]
         dsimp only
         rw [if_neg h69,if_neg h82,V.tag,if_pos htg2];rfl
        ·rw [e];rfl
        ·rw [e,e,e]
        ·rw [e]
         unfold stepV
         dsimp only
         rw [if_neg hc,if_neg hc,hr]
         dsimp only
         cases hg : fldT t.fields m with
         | none=>rfl
         | some g =>
          dsimp only
          rw [if_neg h69,if_neg h69,if_neg h82,if_neg h82,V.tag,V.tag,if_neg oM,if_neg oM]
      ·cases hs
theorem change_follow {ts : List Ty} (hw : SchW ts) : ∀ {p : List Int} {k : List UInt8} {v x y : V} {k' : List UInt8} {v' : V},OfK ts k v → kindIn ts k = true → (∀ n ∈ p,0 ≤ n) → followV ts k v p = some (k',v') → OfK ts k' x →
  followV ts k (changeV ts k v p x) p = some (k',x) ∧ changeV ts k v p v' = v ∧ changeV ts k (changeV ts k v p x) p y = changeV ts k v p y
 | [],k,v,x,y,k',v',h,hk,_,e,hx=>by
  simp only [followV,Option.some.injEq,Prod.mk.injEq] at e
  obtain ⟨rfl,rfl⟩:=e
  exact ⟨rfl,rfl,rfl⟩
 | n :: p,k,v,x,y,k',v',h,hk,hp,e,hx=>by
  unfold followV at e
  cases hs : stepV ts k v n with
  | none=>rw [hs] at e;cases e
  | some q =>
   rw [hs] at e
   obtain ⟨k1,v1⟩:=q
   have hn:=hp n (by simp)
   obtain ⟨h1,h2⟩:=stepV_ok hw h hk hn hs
   have hp2 : ∀ m ∈ p,0 ≤ m:=fun m hm=>hp m (by simp [hm])
   obtain ⟨i1,i2,i3⟩:=change_follow hw (y:=y) h1 h2 hp2 e hx
   have hc:=changeV_ok hw h1 h2 hp2 e hx
   obtain ⟨⟨s1,s2⟩,s3,_⟩:=set_step hw h hk hn hs hc
   rw [changeV_cons hs,changeV_cons hs,changeV_cons hs]
   refine ⟨?_,?_,?_⟩
   ·rw [followV_cons s1];exact i1
   ·rw [i2,s2]
   ·rw [changeV_cons s1,i3,s3]
def putA {α : Type} (tg : α → Int) (told : Bool) (node : α) (tag : Int) : List α → Bool → List α
 | [],d=>if (told && !d) = true then [node] else []
 | y :: r,d=>(if tag ≤ tg y ∧ (told && !d) = true then [node] else []) ++ ((if tg y = tag then [] else [y]) ++ putA tg told node tag r (d || decide (tag ≤ tg y)))
def putB {α : Type} (tg : α → Int) (node : α) (tag : Int) : List α → Bool → List α
 | [],d=>if d = true then [] else [node]
 | y :: r,d=>(if tag < tg y ∧ d = false then [node] else []) ++ ((if tg y = tag then [] else [y]) ++ putB tg node tag r (d || decide (tag < tg y)))
theorem putB_map {α β : Type} {tg : α → Int} {tg' : β → Int} {h : α → β} (ht : ∀ a,tg' (h a) = tg a) {node : α} {tag : Int} : ∀ {l : List α} {d : Bool},(putB tg node tag l d).map h = putB tg' (h node) tag (l.map h) d
 | [],d=>by rw [putB,List.map_nil,putB];split <;> rfl
 | y :: r,d=>by
  rw [List.map_cons,putB,putB,List.map_append,List.map_append,putB_map ht,ht]
  congr 1
  ·split <;> rfl
  ·congr 1
   split <;> rfl
theorem putA_done {α : Type} {tg : α → Int} {told : Bool} {node : α} {tag : Int} : ∀ {l : List α},(∀ y ∈ l,tag < tg y) → putA tg told node tag l true = l
 | [],_=>by simp [putA]
 | y :: r,h=>by
  have h1:=h y (by simp)
  rw [putA,Bool.true_or,putA_done fun z hz=>h z (by simp [hz]),if_neg (by simp),if_neg oM];rfl
theorem putB_done {α : Type} {tg : α → Int} {node : α} {tag : Int} : ∀ {l : List α},(∀ y ∈ l,tag < tg y) → putB tg node tag l true = l
 | [],_=>by simp [putB]
 | y :: r,h=>by
  have h1:=h y (by simp)
  rw [putB,Bool.true_or,putB_done fun z hz=>h z (by simp [hz]),if_neg (by simp),if_neg oM];rfl
theorem putA_eq {ts : List Ty} {f : Fld} {x : V} : ∀ {vs : List V},Srt vs → putA V.tag (decide (x.out ≠ standF ts f)) (.nd 61 [] f.tag [x]) f.tag vs false = putF ts f x vs
 | [],_=>by
  rw [putF_nil,putA];unfold nf
  by_cases e : x.out = standF ts f
  ·rw [if_pos e,if_neg (by simp [e])]
  ·rw [if_neg e,if_pos (by simp [e])]
 | y :: r,h=>by
  replace h:=List.pairwise_cons.1 h
  rw [putF_cons,putA,Bool.false_or]
  by_cases hl : y.tag < f.tag
  ·rw [if_pos hl,if_neg (by intro h;omega),if_neg oM,show decide (f.tag ≤ y.tag) = false from decide_eq_false oM,putA_eq h.2];rfl
  ·rw [if_neg hl,show decide (f.tag ≤ y.tag) = true from decide_eq_true oM,putA_done fun z hz=>by have:=h.1 z hz;omega]
   unfold nf
   have e2 : (if y.tag = f.tag then ([] : List V) else [y]) ++ r = if y.tag = f.tag then r else y :: r:=by split <;> rfl
   rw [e2]
   congr 1
   by_cases e : x.out = standF ts f
   ·rw [if_pos e,if_neg (by simp [e])]
   ·rw [if_neg e,if_pos ⟨oM,by simp [e]⟩]
theorem putB_lo {α : Type} {tg : α → Int} {node : α} {tag : Int} : ∀ {l : List α},(∀ y ∈ l,tag < tg y) → putB tg node tag l false = node :: l
 | [],_=>by simp [putB]
 | y :: r,h=>by
  have h1:=h y (by simp)
  rw [putB,Bool.false_or,decide_eq_true h1,putB_done fun z hz=>h z (by simp [hz]),if_pos ⟨h1,rfl⟩,if_neg oM];rfl
theorem putB_eq {ts : List Ty} {f : Fld} {x : V} : ∀ {vs : List V},Srt vs → putB V.tag (.nd 61 [] f.tag [x]) f.tag vs (decide (x.out = standF ts f)) = putF ts f x vs
 | [],_=>by
  rw [putF_nil,putB];unfold nf
  by_cases e : x.out = standF ts f
  ·rw [if_pos e,if_pos (by simp [e])]
  ·rw [if_neg e,if_neg (by simp [e])]
 | y :: r,h=>by
  replace h:=List.pairwise_cons.1 h
  rw [putF_cons]
  by_cases hl : y.tag < f.tag
  ·rw [if_pos hl,putB,if_neg (by intro h;omega),if_neg oM,show decide (f.tag < y.tag) = false from decide_eq_false oM,Bool.or_false,putB_eq h.2];rfl
  ·rw [if_neg hl]
   have hgt : ∀ z ∈ r,f.tag < z.tag:=fun z hz=>by have:=h.1 z hz;omega
   by_cases e : x.out = standF ts f
   ·unfold nf;rw [decide_eq_true e,if_pos e,List.nil_append,putB,Bool.true_or,putB_done hgt,if_neg (by simp),List.nil_append]
    split <;> rfl
   ·unfold nf;rw [decide_eq_false e,if_neg e,putB,Bool.false_or]
    by_cases he : y.tag = f.tag
    ·rw [if_neg (by intro h;omega),if_pos he,show decide (f.tag < y.tag) = false from decide_eq_false oM,putB_lo hgt,if_pos he];rfl
    ·rw [if_pos ⟨oM,rfl⟩,if_neg he,show decide (f.tag < y.tag) = true from decide_eq_true oM,putB_done hgt,if_neg he];rfl
variable {ts : List Ty}
theorem fldT_tag' {fs : List Fld} {n : Int} {d : Fld} (h : fldT fs n = some d) : d.tag = n ∧ d ∈ fs:=⟨by have:=List.find?_some h;simpa using this,List.mem_of_find?_eq_some h⟩
theorem tots_set : ∀ {ks : List V} {i : Nat} {y : V},i < ks.length → V.tots (ks.set i y) + (nth ks i).tot = V.tots ks + y.tot
 | [],i,y,h=>by simp at h
 | v :: ks,0,y,_=>by rw [List.set_cons_zero,V.tots,V.tots,show nth (v :: ks) 0 = v from rfl];omega
 | v :: ks,i + 1,y,h=>by
  have:=tots_set (ks:=ks) (i:=i) (y:=y) (by simpa using h)
  rw [List.set_cons_succ,V.tots,V.tots,show nth (v :: ks) (i + 1) = nth ks i from rfl];omega
theorem nf_tot {f : Fld} {y : V} : V.tots (nf ts f y) ≤ 20 + y.tot:=by
 unfold nf
 split
 ·simp [V.tots]
 ·simp [V.tots,nd_tot]
theorem putF_tot {f : Fld} {y : V} : ∀ {vs : List V},V.tots (putF ts f y vs) ≤ V.tots vs + 20 + y.tot
 | []=>by rw [putF_nil];have:=nf_tot (ts:=ts) (f:=f) (y:=y);simp only [V.tots];omega
 | v :: vs=>by
  have h1:=nf_tot (ts:=ts) (f:=f) (y:=y)
  have h2:=putF_tot (f:=f) (y:=y) (vs:=vs)
  rw [putF_cons]
  split
  ·rw [V.tots,V.tots];omega
  ·rw [tots_app]
   split
   ·rw [V.tots];omega
   ·rw [V.tots];omega
theorem kid0_tot (v : V) : (nth v.kids 0).tot ≤ v.tot:=by
 obtain ⟨w,x,t,ks⟩:=v
 rw [nd_tot,V.kids]
 cases ks with
 | nil =>
  have : (nth ([] : List V) 0).tot = 20:=by show V.tot (.nd 0 [] 0 []) = 20;rw [nd_tot];simp [V.tots]
  omega
 | cons u ks=>rw [V.tots,show nth (u :: ks) 0 = u from rfl];omega
theorem putF_tot2 {f : Fld} {y u : V} : ∀ {vs : List V},Srt vs → toldV f vs = some u → V.tots (putF ts f y vs) + u.tot ≤ V.tots vs + 20 + y.tot
 | [],_,h=>by cases h
 | v :: vs,hs,h=>by
  replace hs:=List.pairwise_cons.1 hs
  have h1:=nf_tot (ts:=ts) (f:=f) (y:=y)
  rw [toldV] at h
  rw [putF_cons]
  by_cases he : v.tag = f.tag
  ·rw [if_pos he] at h
   simp only [Option.some.injEq] at h
   have h3:=kid0_tot v
   rw [h] at h3
   rw [if_neg oM,if_pos he,tots_app,V.tots];omega
  ·rw [if_neg he] at h
   by_cases hl : v.tag < f.tag
   ·have h2:=putF_tot2 (y:=y) hs.2 h
    rw [if_pos hl,V.tots,V.tots];omega
   ·rw [toldV_gt fun z hz=>by have:=hs.1 z hz;omega] at h
    cases h
theorem setV_tot (hw : SchW ts) {k : List UInt8} {v : V} (h : OfK ts k v) (hk : kindIn ts k = true) {n : Int} (hn : 0 ≤ n) {k1 : List UInt8} {v1 : V} (e : stepV ts k v n = some (k1,v1)) (y : V) :
  (setV ts k v n y).tot + v1.tot ≤ v.tot + 40 + y.tot ∨ (v1.tot ≤ 40000 ∧ (setV ts k v n y).tot ≤ v.tot + 40 + y.tot):=by
 obtain ⟨c,r,rfl⟩:=kind_ne hk
 unfold stepV at e
 dsimp only at e
 split at e
 ·rename_i hc
  split at e
  ·rename_i hlt
   simp only [Option.some.injEq,Prod.mk.injEq] at e
   obtain ⟨rfl,rfl⟩:=e
   rcases ofK_inv_c h oM with ⟨g1,_⟩ | ⟨g1,_⟩ | ⟨g1,_⟩ | ⟨g1,ks,g2,g3,rfl⟩ | ⟨g1,rfl | ⟨u,g3,rfl⟩⟩
   ·omega
   ·omega
   ·omega
   ·rw [V.kids] at hlt ⊢
    have hs:=tots_set (ks:=ks) (i:=n.toNat) (y:=y) oM
    unfold setV
    rw [V.what,if_neg dC,if_pos rfl,V.kids,nd_tot,nd_tot]
    left;omega
   ·simp [V.kids] at hlt;omega
   ·simp [V.kids] at hlt
    obtain rfl : n = 0:=oM
    unfold setV
    rw [V.what,if_neg dC,if_neg dC,V.kids,nd_tot,nd_tot]
    left
    simp only [V.tots]
    show 20 + _ + (y.tot + 0) + u.tot ≤ _
    omega
  ·cases e
 ·split at e
  ·cases e
  ·rename_i t hr
   have ht:=refT_mem hr
   split at e
   ·cases e
   ·rename_i f hf
    have hfm:=List.mem_of_find?_eq_some hf
    split at e
    ·cases e
    ·rename_i h69
     split at e
     ·rename_i h82
      simp only [Option.some.injEq,Prod.mk.injEq] at e
      obtain ⟨rfl,rfl⟩:=e
      rcases ofK_inv_t h hr with ⟨_,fs,rfl,g3,g4,g5,g6⟩ | ⟨g1,_⟩ | ⟨g1,_⟩
      ·have e1 : setV ts (c :: r) (.nd 82 [] 0 (fs.map fldV)) n y = .nd 82 [] 0 (putF ts f y (fs.map fldV)):=by
        unfold setV;rw [V.what,if_pos rfl,hr]
        dsimp only
        rw [hf];rfl
       rw [e1,nd_tot,nd_tot]
       unfold getV
       rw [V.kids]
       cases hto : toldV f (fs.map fldV) with
       | none =>
        have h1:=putF_tot (ts:=ts) (f:=f) (y:=y) (vs:=fs.map fldV)
        have h2:=standV_tot hw ht h69 hfm
        right
        refine ⟨h2,?_⟩
        omega
       | some u =>
        have h1:=putF_tot2 (ts:=ts) (y:=y) (srt_fs g6) hto
        left
        show _ + u.tot ≤ _
        omega
      ·omega
      ·omega
     ·rename_i h82
      split at e
      ·simp only [Option.some.injEq,Prod.mk.injEq] at e
       obtain ⟨rfl,rfl⟩:=e
       rcases ofK_inv_t h hr with ⟨h1,_⟩ | ⟨h1,_⟩ | ⟨_,_,d,u,rfl,g4,g5⟩
       ·omega
       ·omega
       ·unfold setV
        rw [V.what,if_neg dC,if_neg dC,V.kids,nd_tot,nd_tot]
        left
        simp only [V.tots]
        show 20 + _ + (y.tot + 0) + u.tot ≤ _
        omega
      ·cases e
theorem changeV_tot (hw : SchW ts) : ∀ {p : List Int} {k : List UInt8} {v y : V} {k' : List UInt8} {v' : V},OfK ts k v → kindIn ts k = true → (∀ n ∈ p,0 ≤ n) → followV ts k v p = some (k',v') → (changeV ts k v p y).tot ≤ v.tot + 40040 * p.length + y.tot
 | [],k,v,y,k',v',h,hk,_,e=>by rw [changeV];omega
 | n :: p,k,v,y,k',v',h,hk,hp,e=>by
  unfold followV at e
  cases hs : stepV ts k v n with
  | none=>rw [hs] at e;cases e
  | some x =>
   rw [hs] at e
   obtain ⟨k1,v1⟩:=x
   have hn:=hp n (by simp)
   obtain ⟨h1,h2⟩:=stepV_ok hw h hk hn hs
   have ih:=changeV_tot hw (y:=y) h1 h2 (fun m hm=>hp m (by simp [hm])) e
   rw [changeV_cons hs,List.length_cons]
   rcases setV_tot hw h hk hn hs (changeV ts k1 v1 p y) with g | ⟨g1,g2⟩
   ·omega
   ·omega
end Go.E
