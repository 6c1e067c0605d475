/- Contracts and plain laws that the statement rests on, part 6. Conditions: as each says. -/
import Derived.Test.YthcpkoephapecaaGreatDoorZ5
set_option linter.unusedVariables false
set_option linter.unusedSimpArgs false
namespace Go.E
set_option maxRecDepth 20000
set_option maxHeartbeats 2000000
open Go.Proofs
variable {G : Gh}
abbrev tBoP : TypeId:=4
abbrev tPfP : TypeId:=115
theorem c_fits {v : V} {c : VC} (h : V.rep G v c) (ht : v.tot ≤ 1000000) : PuG Tryz.prog 59 [Ag (vcF c)] G (· = Bo (decide (v.out.length ≤ 400 ∧ v.deep ≤ 12))):=by
 have cx_pr:=c_print (G:=G) v.tot (Nat.le_refl _) ht h
 have cx_dp:=c_deep (G:=G) v.tot (Nat.le_refl _) ht h
 have hdl:=deep_tot v
 obtain ⟨w,tx,tg,a,m,kc⟩:=c
 have e0 : vcF ⟨w,tx,tg,a,m,kc⟩ = [U8 (w : Nat),S tx,I tg,.slice a m kc]:=rfl
 rw [e0] at cx_pr cx_dp ⊢
 by_cases h1 : v.out.length ≤ 400
 ·by_cases h2 : v.deep ≤ 12
  ·rw [decide_eq_true (p:=v.out.length ≤ 400 ∧ v.deep ≤ 12) ⟨h1,h2⟩]
   refine jE [(0,_)] Tryz.func59 Tryz.ntmps59 fun B hB=>?_
   repeat' (first | (refine jR ?_) | (refine jo ?_;first | refine jO fun _=>?_ | refine jAm rfl ?_ | (refine jAt rfl ?_) | (refine c_rt rfl rfl rfl cx_pr rfl ?_) | (refine c_rt rfl rfl rfl cx_dp rfl ?_)) | (refine k_gt rfl rfl (dTt oM) ?_))
   all_goals refine jY (vs:=[_]) ?_
   all_goals (rw [oneOf_one,decide_eq_true oM])
  ·rw [decide_eq_false (p:=v.out.length ≤ 400 ∧ v.deep ≤ 12) (fun h=>h2 h.2)]
   refine jE [(0,_)] Tryz.func59 Tryz.ntmps59 fun B hB=>?_
   repeat' (first | (refine jR ?_) | (refine jo ?_;first | refine jO fun _=>?_ | refine jAm rfl ?_ | (refine jAt rfl ?_) | (refine c_rt rfl rfl rfl cx_pr rfl ?_) | (refine c_rt rfl rfl rfl cx_dp rfl ?_)) | (refine k_gt rfl rfl (dTt oM) ?_))
   all_goals refine jY (vs:=[_]) ?_
   all_goals (rw [oneOf_one,decide_eq_false oM])
 ·rw [decide_eq_false (p:=v.out.length ≤ 400 ∧ v.deep ≤ 12) (fun h=>h1 h.1)]
  refine jE [(0,_)] Tryz.func59 Tryz.ntmps59 fun B hB=>?_
  repeat' (first | (refine jR ?_) | (refine jo ?_;first | refine jO fun _=>?_ | refine jAm rfl ?_ | (refine jAf rfl ?_) | (refine c_rt rfl rfl rfl cx_pr rfl ?_)) | (refine k_gf rfl rfl (dFf oM) ?_))
  all_goals refine jY (vs:=[_]) ?_
  all_goals rfl
def putO (bo bd bt bq bx : Nat) (told d : Bool) (pf : Value) (xc : List Value) (a : Option Addr) (k : Nat) (cs : List VC) : List Own :=
 [.acc (.slice a cs.length k) tVal 4 cs.length (rows vcF cs),.blk bd (.cells (List.toArray [Bo d]) tBoP (0,0)),.blk bt (.cells (List.toArray [Bo told]) tBoP (0,0)),.blk bo (.cells (List.toArray [U8 82,S [],I 0,.slice a cs.length k]) tVal (0,0)),.blk bx (.cells xc.toArray tVal (0,0)),.blk bq (.cells (List.toArray [pf]) tPfP (0,0))]
theorem perm_in {a : Own} {l r : List Own} : (a :: (l ++ r)).Perm (l ++ a :: r):=List.perm_middle.symm
theorem add_node {G2 : Gh} {y : Nat} {t : Int} {x : V} {dx : VC} {gs : List V} {cs : List VC} (hG2 : Gh.le G G2) (htg : 0 ≤ t ∧ t ≤ 999999) (hx : V.rep G x dx) (hreps : V.reps G gs cs) (hsg : Seg G2 y 0 [U8 (dx.what : Nat),S dx.text,I dx.tag,.slice dx.a dx.n dx.c]) : V.reps G2 (gs ++ [.nd 61 [] t [x]]) (cs ++ [⟨61,[],t,some ⟨y,0,none⟩,1,1⟩]) :=
 reps_snoc (rep_mk dC htg (fun _=>rfl) rfl (cs:=[dx]) ⟨rfl,.inr ⟨y,0,1,rfl,Nat.le_refl _,hsg⟩⟩ (by rw [V.reps];exact ⟨dx,[],rfl,rep_mono hG2 hx,by rw [V.reps]⟩)) (reps_mono hG2 hreps)
theorem c_add {bo bd bt bq bx bf of j : Nat} {told d : Bool} {t : Ty} {x : V} {dx : VC} {gs : List V} {cs : List VC} {a : Option Addr} {k : Nat} (hreps : V.reps G gs cs) (hx : V.rep G x dx) (hsf : Seg G bf of (rows fiF t.fields)) (hj : j < t.fields.length) (hgl : gs.length ≤ 1000000) (htg : 0 ≤ (nth t.fields j).tag ∧ (nth t.fields j).tag ≤ 999999) :
  Fn Tryz.prog 131 [Pt bt 0,Pt bd 0,Pt bo 0,Pt bq 0,Pt bx 0] G (putO bo bd bt bq bx told d (Pt bf (of + j * 6)) [U8 (dx.what : Nat),S dx.text,I dx.tag,.slice dx.a dx.n dx.c] a k cs)
   (fun _ G' L'=>∃ cs2 a2 k2,Gh.le G G' ∧ V.reps G' (gs ++ (if told && !d then [.nd 61 [] (nth t.fields j).tag [x]] else [])) cs2 ∧ L' = putO bo bd bt bq bx told true (Pt bf (of + j * 6)) [U8 (dx.what : Nat),S dx.text,I dx.tag,.slice dx.a dx.n dx.c] a2 k2 cs2):=by
 have hcl:=reps_len hreps
 unfold putO
 cases told with
 | false =>
  rw [if_neg (by simp),List.append_nil]
  refine jB [(0,_),(1,_),(2,_),(3,_),(4,_)] Tryz.func131 Tryz.ntmps131 fun B hok hB hW=>?_
  repeat' (first | (refine jR ?_) | (refine jo ?_;first | refine jAl rfl ?_ | (refine jAf rfl ?_) | refine jD rfl rfl rfl ?_) | (refine k_gf rfl rfl rfl ?_) | (refine k_ff rfl rfl ?_))
  exact k_re (vs:=[]) rfl trivial rfl (List.Sublist.refl _) ⟨cs,a,k,Gh.le.refl _,hreps,rfl⟩
 | true =>
  cases d with
  | true =>
   rw [if_neg (by simp),List.append_nil]
   refine jB [(0,_),(1,_),(2,_),(3,_),(4,_)] Tryz.func131 Tryz.ntmps131 fun B hok hB hW=>?_
   repeat' (first | (refine jR ?_) | (refine jo ?_;first | refine jAl rfl ?_ | (refine jAt rfl ?_) | refine jD rfl rfl rfl ?_) | (refine k_gt rfl rfl rfl ?_) | (refine k_ff rfl rfl ?_))
   exact k_re (vs:=[]) rfl trivial rfl (List.Sublist.refl _) ⟨cs,a,k,Gh.le.refl _,hreps,rfl⟩
  | false =>
   rw [if_pos (by simp)]
   refine jB [(0,_),(1,_),(2,_),(3,_),(4,_)] Tryz.func131 Tryz.ntmps131 fun B hok hB hW=>?_
   repeat' (first | (refine jR ?_) | (refine jo ?_;first | refine jAl rfl ?_ | (refine jAt rfl ?_)) | (refine k_gt rfl rfl rfl ?_) | (refine k_tt rfl rfl ?_))
   (refine k_any (s_any (id:=1) [.blk bx (.cells (List.toArray [U8 (dx.what : Nat),S dx.text,I dx.tag,.slice dx.a dx.n dx.c]) tVal (0,0)),.blk bq (.cells (List.toArray [Pt bf (of + j * 6)]) tPfP (0,0))] (by intro y hy;simp only [List.mem_cons,List.not_mem_nil,or_false] at hy ⊢;rcases hy with hy | hy <;> simp [hy]) mixed ?_);refine jW 15 [0] (bts 16 1) ?_;(refine jG (bts 16 5) 2 rfl (g_ld rfl rfl rfl) ?_);refine jW 12 [3,4] (bts 16 29) ?_;((refine jG (bts 16 61) 5 rfl (g_ldRF rfl rfl aS ?_ rfl rfl) ?_;(focus ((omega);done))));(refine jG (bts 16 125) 6 rfl (g_ldA rfl rfl rfl rfl) ?_);refine x_all [1,7,10] kR dC ⟨?_,?_,?_,trivial⟩;(focus (refine x_opg rfl rfl ?_;(refine jAl rfl ?_);refine jK (bts 16 127) ?_;(refine jG (bts 16 639) 9 rfl (g_lenL rfl) ?_);refine x_all [7,10] kR dC ⟨?_,?_,trivial⟩;(focus (refine x_opg rfl rfl ?_;(refine jF fun _=>?_);refine jK (bts 16 767) ?_;(refine jG (bts 16 1023) 8 rfl (g_bld rfl rfl) ?_);refine jA 10 rfl ?_;(refine jF fun _=>?_);refine jK (bts 16 2047) ?_;refine jA 11 rfl ?_;((refine c_apX rfl rfl rfl rfl rfl rfl rfl rfl rfl ?_ fun _ _=>?_;(focus ((omega);done))));refine jK (bts 16 4095) ?_;refine jW 3 [14] (bts 16 20479) ?_;((refine jG (bts 16 24575) 12 rfl (g_iaddrN rfl rfl ?_) ?_;(focus ((omega);done))));refine x_all [13,15] kR dC ⟨?_,?_,trivial⟩;(focus (refine x_opg rfl rfl ?_;((refine c_stAL rfl rfl rfl rfl rfl rfl rfl rfl inferInstance ?_ ?_;(focus ((rw [rows_len];omega);done))));refine jK (bts 16 32767) ?_;refine jA 15 rfl ?_;(refine jD rfl rfl rfl ?_);refine jK (bts 16 65535) ?_;refine jQ ?_));rotate_left 1;(focus (refine x_opg rfl rfl ?_;(refine jD rfl rfl rfl ?_);refine jK (bts 16 57343) ?_;refine jA 13 rfl ?_;((refine c_stAL rfl rfl rfl rfl rfl rfl rfl rfl inferInstance ?_ ?_;(focus ((rw [rows_len];omega);done))));refine jK (bts 16 65535) ?_;refine jQ ?_));rotate_left 1));rotate_left 2;(focus (refine x_opg rfl rfl ?_;(refine jF fun _=>?_);refine jK (bts 16 1663) ?_;refine jA 7 rfl ?_;(refine jF fun _=>?_);refine jK (bts 16 1791) ?_;(refine jG (bts 16 2047) 8 rfl (g_bld rfl rfl) ?_);refine jA 11 rfl ?_;((refine c_apX rfl rfl rfl rfl rfl rfl rfl rfl rfl ?_ fun _ _=>?_;(focus ((omega);done))));refine jK (bts 16 4095) ?_;refine jW 3 [14] (bts 16 20479) ?_;((refine jG (bts 16 24575) 12 rfl (g_iaddrN rfl rfl ?_) ?_;(focus ((omega);done))));refine x_all [13,15] kR dC ⟨?_,?_,trivial⟩;(focus (refine x_opg rfl rfl ?_;((refine c_stAL rfl rfl rfl rfl rfl rfl rfl rfl inferInstance ?_ ?_;(focus ((rw [rows_len];omega);done))));refine jK (bts 16 32767) ?_;refine jA 15 rfl ?_;(refine jD rfl rfl rfl ?_);refine jK (bts 16 65535) ?_;refine jQ ?_));rotate_left 1;(focus (refine x_opg rfl rfl ?_;(refine jD rfl rfl rfl ?_);refine jK (bts 16 57343) ?_;refine jA 13 rfl ?_;((refine c_stAL rfl rfl rfl rfl rfl rfl rfl rfl inferInstance ?_ ?_;(focus ((rw [rows_len];omega);done))));refine jK (bts 16 65535) ?_;refine jQ ?_));rotate_left 1));rotate_left 2));rotate_left 4;(focus (refine x_opg rfl rfl ?_;(refine jF fun _=>?_);refine jK (bts 16 253) ?_;(refine jG (bts 16 509) 8 rfl (g_bld rfl rfl) ?_);refine x_all [1,10] kR dC ⟨?_,?_,trivial⟩;(focus (refine x_opg rfl rfl ?_;(refine jAl rfl ?_);refine jK (bts 16 511) ?_;(refine jG (bts 16 1023) 9 rfl (g_lenL rfl) ?_);refine jA 10 rfl ?_;(refine jF fun _=>?_);refine jK (bts 16 2047) ?_;refine jA 11 rfl ?_;((refine c_apX rfl rfl rfl rfl rfl rfl rfl rfl rfl ?_ fun _ _=>?_;(focus ((omega);done))));refine jK (bts 16 4095) ?_;refine jW 3 [14] (bts 16 20479) ?_;((refine jG (bts 16 24575) 12 rfl (g_iaddrN rfl rfl ?_) ?_;(focus ((omega);done))));refine x_all [13,15] kR dC ⟨?_,?_,trivial⟩;(focus (refine x_opg rfl rfl ?_;((refine c_stAL rfl rfl rfl rfl rfl rfl rfl rfl inferInstance ?_ ?_;(focus ((rw [rows_len];omega);done))));refine jK (bts 16 32767) ?_;refine jA 15 rfl ?_;(refine jD rfl rfl rfl ?_);refine jK (bts 16 65535) ?_;refine jQ ?_));rotate_left 1;(focus (refine x_opg rfl rfl ?_;(refine jD rfl rfl rfl ?_);refine jK (bts 16 57343) ?_;refine jA 13 rfl ?_;((refine c_stAL rfl rfl rfl rfl rfl rfl rfl rfl inferInstance ?_ ?_;(focus ((rw [rows_len];omega);done))));refine jK (bts 16 65535) ?_;refine jQ ?_));rotate_left 1));rotate_left 2;(focus (refine x_opg rfl rfl ?_;(refine jF fun _=>?_);refine jK (bts 16 1533) ?_;refine jA 1 rfl ?_;(refine jAl rfl ?_);refine jK (bts 16 1535) ?_;(refine jG (bts 16 2047) 9 rfl (g_lenL rfl) ?_);refine jA 11 rfl ?_;((refine c_apX rfl rfl rfl rfl rfl rfl rfl rfl rfl ?_ fun _ _=>?_;(focus ((omega);done))));refine jK (bts 16 4095) ?_;refine jW 3 [14] (bts 16 20479) ?_;((refine jG (bts 16 24575) 12 rfl (g_iaddrN rfl rfl ?_) ?_;(focus ((omega);done))));refine x_all [13,15] kR dC ⟨?_,?_,trivial⟩;(focus (refine x_opg rfl rfl ?_;((refine c_stAL rfl rfl rfl rfl rfl rfl rfl rfl inferInstance ?_ ?_;(focus ((rw [rows_len];omega);done))));refine jK (bts 16 32767) ?_;refine jA 15 rfl ?_;(refine jD rfl rfl rfl ?_);refine jK (bts 16 65535) ?_;refine jQ ?_));rotate_left 1;(focus (refine x_opg rfl rfl ?_;(refine jD rfl rfl rfl ?_);refine jK (bts 16 57343) ?_;refine jA 13 rfl ?_;((refine c_stAL rfl rfl rfl rfl rfl rfl rfl rfl inferInstance ?_ ?_;(focus ((rw [rows_len];omega);done))));refine jK (bts 16 65535) ?_;refine jQ ?_));rotate_left 1));rotate_left 2));rotate_left 4;(focus (refine x_opg rfl rfl ?_;(refine jF fun _=>?_);refine jK (bts 16 1149) ?_;refine x_all [1,7] kR dC ⟨?_,?_,trivial⟩;(focus (refine x_opg rfl rfl ?_;(refine jAl rfl ?_);refine jK (bts 16 1151) ?_;(refine jG (bts 16 1663) 9 rfl (g_lenL rfl) ?_);refine jA 7 rfl ?_;(refine jF fun _=>?_);refine jK (bts 16 1791) ?_;(refine jG (bts 16 2047) 8 rfl (g_bld rfl rfl) ?_);refine jA 11 rfl ?_;((refine c_apX rfl rfl rfl rfl rfl rfl rfl rfl rfl ?_ fun _ _=>?_;(focus ((omega);done))));refine jK (bts 16 4095) ?_;refine jW 3 [14] (bts 16 20479) ?_;((refine jG (bts 16 24575) 12 rfl (g_iaddrN rfl rfl ?_) ?_;(focus ((omega);done))));refine x_all [13,15] kR dC ⟨?_,?_,trivial⟩;(focus (refine x_opg rfl rfl ?_;((refine c_stAL rfl rfl rfl rfl rfl rfl rfl rfl inferInstance ?_ ?_;(focus ((rw [rows_len];omega);done))));refine jK (bts 16 32767) ?_;refine jA 15 rfl ?_;(refine jD rfl rfl rfl ?_);refine jK (bts 16 65535) ?_;refine jQ ?_));rotate_left 1;(focus (refine x_opg rfl rfl ?_;(refine jD rfl rfl rfl ?_);refine jK (bts 16 57343) ?_;refine jA 13 rfl ?_;((refine c_stAL rfl rfl rfl rfl rfl rfl rfl rfl inferInstance ?_ ?_;(focus ((rw [rows_len];omega);done))));refine jK (bts 16 65535) ?_;refine jQ ?_));rotate_left 1));rotate_left 2;(focus (refine x_opg rfl rfl ?_;(refine jF fun _=>?_);refine jK (bts 16 1277) ?_;(refine jG (bts 16 1533) 8 rfl (g_bld rfl rfl) ?_);refine jA 1 rfl ?_;(refine jAl rfl ?_);refine jK (bts 16 1535) ?_;(refine jG (bts 16 2047) 9 rfl (g_lenL rfl) ?_);refine jA 11 rfl ?_;((refine c_apX rfl rfl rfl rfl rfl rfl rfl rfl rfl ?_ fun _ _=>?_;(focus ((omega);done))));refine jK (bts 16 4095) ?_;refine jW 3 [14] (bts 16 20479) ?_;((refine jG (bts 16 24575) 12 rfl (g_iaddrN rfl rfl ?_) ?_;(focus ((omega);done))));refine x_all [13,15] kR dC ⟨?_,?_,trivial⟩;(focus (refine x_opg rfl rfl ?_;((refine c_stAL rfl rfl rfl rfl rfl rfl rfl rfl inferInstance ?_ ?_;(focus ((rw [rows_len];omega);done))));refine jK (bts 16 32767) ?_;refine jA 15 rfl ?_;(refine jD rfl rfl rfl ?_);refine jK (bts 16 65535) ?_;refine jQ ?_));rotate_left 1;(focus (refine x_opg rfl rfl ?_;(refine jD rfl rfl rfl ?_);refine jK (bts 16 57343) ?_;refine jA 13 rfl ?_;((refine c_stAL rfl rfl rfl rfl rfl rfl rfl rfl inferInstance ?_ ?_;(focus ((rw [rows_len];omega);done))));refine jK (bts 16 65535) ?_;refine jQ ?_));rotate_left 1));rotate_left 2));rotate_left 4)
   all_goals repeat' (first | (refine jR ?_) | (refine jo ?_;(refine jD rfl rfl rfl ?_)))
   all_goals
    rename_i x3 x2 x1 k1
    have hlen : ∀ y : Nat,(cs ++ [(⟨61,[],(nth t.fields j).tag,some ⟨y,0,none⟩,1,1⟩ : VC)]).length = cs.length + 1:=fun y=>by simp
    first | (refine Nx.sealC (b:=x3) fun G2 hG2 hsg=>?_;refine k_re (vs:=[]) rfl trivial rfl ?_ ⟨_,some ⟨x1,0,none⟩,k1,hG2,add_node (y:=x3) hG2 htg hx hreps hsg,rfl⟩;rw [hlen,← (show rows vcF cs ++ [U8 ((61 : Nat) : Int),S [],I (nth t.fields j).tag,.slice (some ⟨x3,0,none⟩) 1 1] = _ from (rows_snoc vcF cs (⟨61,[],(nth t.fields j).tag,some ⟨x3,0,none⟩,1,1⟩ : VC)).symm)];repeat (first | exact List.Sublist.refl _ | apply List.Sublist.cons_cons | apply List.Sublist.cons)) | (refine Nx.sealC (b:=x2) fun G2 hG2 hsg=>?_;refine k_re (vs:=[]) rfl trivial rfl ?_ ⟨_,some ⟨x1,0,none⟩,k1,hG2,add_node (y:=x2) hG2 htg hx hreps hsg,rfl⟩;rw [hlen,← (show rows vcF cs ++ [U8 ((61 : Nat) : Int),S [],I (nth t.fields j).tag,.slice (some ⟨x2,0,none⟩) 1 1] = _ from (rows_snoc vcF cs (⟨61,[],(nth t.fields j).tag,some ⟨x2,0,none⟩,1,1⟩ : VC)).symm)];repeat (first | exact List.Sublist.refl _ | apply List.Sublist.cons_cons | apply List.Sublist.cons))
theorem putA_at {α : Type} [Inhabited α] {tg : α → Int} {told : Bool} {node : α} {tag : Int} {l : List α} {i : Nat} (hi : i < l.length) {d : Bool} : putA tg told node tag (l.drop i) d = (if tag ≤ tg (nth l i) ∧ (told && !d) = true then [node] else []) ++ ((if tg (nth l i) = tag then [] else [nth l i]) ++ putA tg told node tag (l.drop (i + 1)) (d || decide (tag ≤ tg (nth l i)))):=by
 rw [List.drop_eq_getElem_cons hi,nth_eq hi,putA]
theorem c_put {b bf of j : Nat} {qs : List TyP} {t : Ty} {fs : List (Fld × V)} {c dx : VC} {x : V} (hS : ScI G b qs) (hw : SchW (tyq qs)) (ht : t ∈ tyq qs) (hso : t.sort = 82) (hsf : Seg G bf of (rows fiF t.fields)) (hj : j < t.fields.length) (hrep : V.rep G (.nd 82 [] 0 (fs.map fldV)) c) (hx : V.rep G x dx) (h9 : fs.length ≤ 90000) (hxt : x.tot ≤ 1000000) (hsr : Srt (fs.map fldV)) :
  FnS Tryz.prog 94 [Pt b 0,Ag (vcF c),Pt bf (of + j * 6),Ag (vcF dx)] G (fun r G'=>∃ c',r = Ag (vcF c') ∧ V.rep G' (.nd 82 [] 0 (putF (tyq qs) (nth t.fields j) x (fs.map fldV))) c'):=by
 have hTW:=hw.ty t ht
 have hfm : nth t.fields j ∈ t.fields:=nth_mem hj
 have htg:=(hTW.fld _ hfm).tag
 have hdk : kindIn (tyq qs) (nth t.fields j).kind = true:=kind_in hw ht oM hfm
 have cx_of:=c_ofI hS hw hsf hj hdk
 have cx_pr:=c_print (G:=G) (c:=dx) x.tot (Nat.le_refl _) hxt hx
 obtain ⟨a,k,cs,rfl,_,_,_,hcl,hsl,hrs⟩:=rep_inv hrep
 have e0 : vcF ⟨82,[],0,a,(fs.map fldV).length,k⟩ = [U8 (82 : Nat),S [],I 0,.slice a (fs.map fldV).length k]:=rfl
 have e1 : vcF dx = [U8 (dx.what : Nat),S dx.text,I dx.tag,.slice dx.a dx.n dx.c]:=rfl
 rw [e0]
 rw [e1] at cx_pr ⊢
 have hml : (fs.map fldV).length = fs.length:=by simp
 have hnt : ∀ i,i < fs.length → nth (fs.map fldV) i = fldV (nth fs i):=fun i hi=>by rw [nth_eq (by simpa using hi),nth_eq hi];simp
 have hrn : ∀ i,i < fs.length → V.rep G (fldV (nth fs i)) (nth cs i):=fun i hi=>by
  have:=reps_nth hrs i oM
  rwa [hnt i hi] at this
 obtain ⟨told,htold⟩ : ∃ told,decide (x.out ≠ standF (tyq qs) (nth t.fields j)) = told:=⟨_,rfl⟩
 have hput : putA V.tag told (.nd 61 [] (nth t.fields j).tag [x]) (nth t.fields j).tag (fs.map fldV) false = putF (tyq qs) (nth t.fields j) x (fs.map fldV):=by rw [← htold];exact putA_eq hsr
 refine jB [(0,_),(1,_),(2,_),(3,_)] Tryz.func94 Tryz.ntmps94 fun B hok hB hW=>?_
 repeat' (first | (refine jR ?_) | (refine jo ?_;first | refine jO fun _=>?_ | refine jL fun _=>?_ | refine jV (g_bld rfl rfl) ?_ | refine jD rfl rfl rfl ?_ | refine jC rfl rfl rfl ?_ | refine jAl rfl ?_ | refine jV (g_mkf rfl rfl) ?_ | refine jV (g_lenL rfl) ?_) | (refine k_any (s_any (id:=2) _ (fun _ h=>h) mixed ?_);refine jT 7 [2] (bts 8 4) ?_;(refine jG (bts 8 5) 0 rfl (g_ldA rfl rfl rfl rfl) ?_);(refine jG (bts 8 13) 3 rfl (g_ld rfl rfl rfl) ?_);refine x_all [1,6] kR dC ⟨?_,?_,trivial⟩;(focus (refine x_opg rfl rfl ?_;(refine c_rt rfl rfl rfl cx_pr rfl ?_);refine jK (bts 8 15) ?_;refine x_all [4,6] kR dC ⟨?_,?_,trivial⟩;(focus (refine x_opg rfl rfl ?_;(refine c_rt rfl rfl rfl cx_of rfl ?_);refine jK (bts 8 31) ?_;refine jW 2 [5] (bts 8 63) ?_;refine jA 6 rfl ?_;(refine jL fun _=>?_);refine jK (bts 8 127) ?_;refine jA 7 rfl ?_;(refine jD rfl rfl rfl ?_);refine jK (bts 8 255) ?_;refine jQ ?_));rotate_left 1;(focus (refine x_opg rfl rfl ?_;(refine jL fun _=>?_);refine jK (bts 8 79) ?_;refine jA 4 rfl ?_;(refine c_rt rfl rfl rfl cx_of rfl ?_);refine jK (bts 8 95) ?_;refine jW 1 [5] (bts 8 127) ?_;refine jA 7 rfl ?_;(refine jD rfl rfl rfl ?_);refine jK (bts 8 255) ?_;refine jQ ?_));rotate_left 1));rotate_left 2;(focus (refine x_opg rfl rfl ?_;(refine jL fun _=>?_);refine jK (bts 8 77) ?_;refine jA 1 rfl ?_;(refine c_rt rfl rfl rfl cx_pr rfl ?_);refine jK (bts 8 79) ?_;refine jA 4 rfl ?_;(refine c_rt rfl rfl rfl cx_of rfl ?_);refine jK (bts 8 95) ?_;refine jW 1 [5] (bts 8 127) ?_;refine jA 7 rfl ?_;(refine jD rfl rfl rfl ?_);refine jK (bts 8 255) ?_;refine jQ ?_));rotate_left 1))
 all_goals
  rw [← hput]
  rename_i y6 y5 y4 y3 y2 y1 y0
  rw [htold]
  refine Nx.addNil tVal 4 (Nx.perm (.cons _ (.cons _ (.cons _ (.cons _ ((List.Perm.swap _ _ _).trans (.cons _ (List.Perm.swap _ _ _))))))) ?_)
  refine k_loop (ι:=List V × List VC × Option Addr × Nat × Bool × Nat × Gh) (fun q=>(V.reps q.2.2.2.2.2.2 q.1 q.2.1 ∧ Gh.le G q.2.2.2.2.2.2) ∧ (q.2.2.2.2.2.1 ≤ fs.length ∧ q.1.length ≤ 2 * q.2.2.2.2.2.1 + 1) ∧ putA V.tag told (.nd 61 [] (nth t.fields j).tag [x]) (nth t.fields j).tag (fs.map fldV) false = q.1 ++ putA V.tag told (.nd 61 [] (nth t.fields j).tag [x]) (nth t.fields j).tag ((fs.map fldV).drop q.2.2.2.2.2.1) q.2.2.2.2.1) (fun q=>[(9,Pt y2 0),(12,.func (.func 131) #[] #[Pt y1 0,Pt y0 0,Pt y2 0,Pt y5 0,Pt y4 0]),(6,Pt y5 0),(24,.slice a (fs.map fldV).length k),(25,I (fs.map fldV).length),(26,I q.2.2.2.2.2.1),(8,Pt y3 0)]) (fun q=>q.2.2.2.2.2.2) (fun q=>[.acc (.slice q.2.2.1 q.2.1.length q.2.2.2.1) tVal 4 q.2.1.length (rows vcF q.2.1),.blk y0 (.cells (List.toArray [Bo q.2.2.2.2.1]) tBoP (0,0)),.blk y1 (.cells (List.toArray [Bo told]) tBoP (0,0)),.blk y2 (.cells (List.toArray [U8 82,S [],I 0,.slice q.2.2.1 q.2.1.length q.2.2.2.1]) tVal (0,0)),.blk y4 (.cells (List.toArray [U8 (dx.what : Nat),S dx.text,I dx.tag,.slice dx.a dx.n dx.c]) tVal (0,0)),.blk y5 (.cells (List.toArray [Pt bf (of + j * 6)]) tPfP (0,0)),.blk y3 (.cells (List.toArray [U8 0,S [],I 0,nilS]) tVal (0,0))]) (fun q=>fs.length - q.2.2.2.2.2.1) ([],[],none,0,false,0,G) ?_ tU rfl sB (fun q Hq=>?_)
  ·exact ⟨⟨by rw [V.reps],Gh.le.refl _⟩,⟨Nat.zero_le _,Nat.zero_le _⟩,rfl⟩
  obtain ⟨gs,cs1,a1,k1,d,i,Gq⟩:=q
  dsimp only at Hq ⊢
  obtain ⟨⟨hreps,hgq⟩,⟨hi0,hgl⟩,hinv⟩:=Hq
  have hcl1:=reps_len hreps
  have hsf2:=hsf.mono hgq
  by_cases hi : i < fs.length
  ·have hpa:=putA_at (tg:=V.tag) (told:=told) (node:=.nd 61 [] (nth t.fields j).tag [x]) (tag:=(nth t.fields j).tag) (l:=fs.map fldV) (i:=i) oM (d:=d)
   rw [hnt i hi,show (fldV (nth fs i)).tag = (nth fs i).1.tag from rfl] at hpa
   rw [hpa] at hinv
   clear hpa
   obtain ⟨xb,xo,xc,e,hsx⟩:=(hsl.mono hgq).expl oM
   simp only [Value.slice.injEq] at e
   obtain ⟨rfl,-,rfl⟩:=e
   have hri:=rep_mono hgq (hrn i hi)
   obtain ⟨ai,ki,csi,hci,_,_,_,hcli,hsli,hrsi⟩:=rep_inv hri
   have hci : nth cs i = ⟨61,[],(nth fs i).1.tag,ai,1,ki⟩:=hci
   by_cases hge : (nth t.fields j).tag ≤ (nth fs i).1.tag
   ·rw [decide_eq_true hge] at hinv
    simp only [hge,true_and,Bool.or_true] at hinv
    repeat' (first | (refine jR ?_) | (refine jo ?_;first | refine jL fun _=>?_ | refine jC rfl rfl rfl ?_ | (refine jV (g_ldRx rfl rfl aS ?_ aS) ?_;(focus ((omega);done))) | (refine jV (g_iaddrN rfl rfl oM) ?_)) | (refine k_tt rfl (dTt oM) ?_))
    dsimp only [VC.sl]
    rename_i yz
    (refine k_any (s_any (id:=8) _ (fun _ h=>h) mixed ?_);refine jT 6 [0] (bts 7 1) ?_;(refine jG (bts 7 3) 1 rfl (g_ld rfl rfl rfl) ?_);(refine jG (bts 7 7) 2 rfl (g_ld rfl rfl rfl) ?_);refine jT 2 [3,4] (bts 7 31) ?_;((refine jG (bts 7 63) 5 rfl (g_ldRF rfl rfl aS ?_ rfl rfl) ?_;(focus ((omega);done))));refine jT 0 [6] (bts 7 127) ?_;refine jQ ?_)
    repeat' (first | (refine jR ?_) | (refine k_tt rfl (dTt ‹_›) ?_))
    refine jo ?_
    refine c_call (vs:=[Pt y1 0,Pt y0 0,Pt y2 0,Pt y5 0,Pt y4 0]) (Lp:=putO y2 y0 y1 y5 y4 told d (Pt bf (of + j * 6)) [U8 (dx.what : Nat),S dx.text,I dx.tag,.slice dx.a dx.n dx.c] a1 k1 cs1) (R:=[_,_]) rfl rfl rfl (c_add hreps (rep_mono hgq hx) hsf2 hj oM ⟨oM,oM⟩) (perm_in (l:=putO y2 y0 y1 y5 y4 told d (Pt bf (of + j * 6)) [U8 (dx.what : Nat),S dx.text,I dx.tag,.slice dx.a dx.n dx.c] a1 k1 cs1) (r:=[_])) rfl ?_
    rintro r3 G3 L3 ⟨cs2,a2,k2,hle,hr2,rfl⟩
    simp only [putO,List.cons_append,List.nil_append]
    have hcl2:=reps_len hr2
    have hl2 : cs2.length ≤ cs1.length + 1:=by rw [hcl2,hcl1,List.length_append];split <;> simp
    have hsf3:=hsf2.mono hle
    by_cases heq : (nth fs i).1.tag = (nth t.fields j).tag
    ·rw [if_pos heq,List.nil_append,← List.append_assoc] at hinv
     repeat' (refine jR ?_)
     (refine k_any (s_any (id:=10) _ (fun _ h=>h) mixed ?_);refine jT 6 [0] (bts 7 1) ?_;(refine jG (bts 7 3) 1 rfl (g_ld rfl rfl rfl) ?_);(refine jG (bts 7 7) 2 rfl (g_ld rfl rfl rfl) ?_);refine jT 2 [3,4] (bts 7 31) ?_;((refine jG (bts 7 63) 5 rfl (g_ldRF rfl rfl aS ?_ rfl rfl) ?_;(focus ((omega);done))));refine jT 0 [6] (bts 7 127) ?_;refine jQ ?_)
     repeat' (first | refine jM ?_ | (refine k_ff rfl (dFf oM) ?_))
     exact k_rd (_,cs2,a2,k2,true,i + 1,G3) ⟨⟨hr2,hgq.trans hle⟩,⟨by dsimp only;omega,by dsimp only;split <;> simp <;> omega⟩,hinv⟩ (by dsimp only;omega) tU rfl sB
    ·rw [if_neg heq,← List.append_assoc,← List.append_assoc] at hinv
     repeat' (refine jR ?_)
     (refine k_any (s_any (id:=10) _ (fun _ h=>h) mixed ?_);refine jT 6 [0] (bts 7 1) ?_;(refine jG (bts 7 3) 1 rfl (g_ld rfl rfl rfl) ?_);(refine jG (bts 7 7) 2 rfl (g_ld rfl rfl rfl) ?_);refine jT 2 [3,4] (bts 7 31) ?_;((refine jG (bts 7 63) 5 rfl (g_ldRF rfl rfl aS ?_ rfl rfl) ?_;(focus ((omega);done))));refine jT 0 [6] (bts 7 127) ?_;refine jQ ?_)
     repeat' (first | (refine jR ?_) | (refine k_tt rfl (dTt ‹_›) ?_))
     (refine k_any (s_any (id:=11) [.blk yz (.cells (List.toArray [U8 (61 : Nat),S [],I (nth fs i).1.tag,.slice ai 1 ki]) tVal (0,0))] (by intro y hy;simp only [List.mem_cons,List.not_mem_nil,or_false] at hy ⊢;simp [hy]) mixed ?_);refine jW 9 [0] (bts 10 1) ?_;(refine jG (bts 10 5) 2 rfl (g_ldA rfl rfl rfl rfl) ?_);refine x_all [1,4] kR dC ⟨?_,?_,trivial⟩;(focus (refine x_opg rfl rfl ?_;(refine jAl rfl ?_);refine jK (bts 10 7) ?_;(refine jG (bts 10 15) 3 rfl (g_lenL rfl) ?_);refine jA 4 rfl ?_;(refine jF fun _=>?_);refine jK (bts 10 31) ?_;refine jA 5 rfl ?_;((refine c_apX rfl rfl rfl rfl rfl rfl rfl rfl rfl ?_ fun _ _=>?_;(focus ((omega);done))));refine jK (bts 10 63) ?_;refine jW 3 [8] (bts 10 319) ?_;((refine jG (bts 10 383) 6 rfl (g_iaddrN rfl rfl ?_) ?_;(focus ((omega);done))));refine x_all [7,9] kR dC ⟨?_,?_,trivial⟩;(focus (refine x_opg rfl rfl ?_;((refine c_stAL rfl rfl rfl rfl rfl rfl rfl rfl inferInstance ?_ ?_;(focus ((rw [rows_len];omega);done))));refine jK (bts 10 511) ?_;refine jA 9 rfl ?_;(refine jD rfl rfl rfl ?_);refine jK (bts 10 1023) ?_;refine jQ ?_));rotate_left 1;(focus (refine x_opg rfl rfl ?_;(refine jD rfl rfl rfl ?_);refine jK (bts 10 895) ?_;refine jA 7 rfl ?_;((refine c_stAL rfl rfl rfl rfl rfl rfl rfl rfl inferInstance ?_ ?_;(focus ((rw [rows_len];omega);done))));refine jK (bts 10 1023) ?_;refine jQ ?_));rotate_left 1));rotate_left 2;(focus (refine x_opg rfl rfl ?_;(refine jF fun _=>?_);refine jK (bts 10 21) ?_;refine jA 1 rfl ?_;(refine jAl rfl ?_);refine jK (bts 10 23) ?_;(refine jG (bts 10 31) 3 rfl (g_lenL rfl) ?_);refine jA 5 rfl ?_;((refine c_apX rfl rfl rfl rfl rfl rfl rfl rfl rfl ?_ fun _ _=>?_;(focus ((omega);done))));refine jK (bts 10 63) ?_;refine jW 3 [8] (bts 10 319) ?_;((refine jG (bts 10 383) 6 rfl (g_iaddrN rfl rfl ?_) ?_;(focus ((omega);done))));refine x_all [7,9] kR dC ⟨?_,?_,trivial⟩;(focus (refine x_opg rfl rfl ?_;((refine c_stAL rfl rfl rfl rfl rfl rfl rfl rfl inferInstance ?_ ?_;(focus ((rw [rows_len];omega);done))));refine jK (bts 10 511) ?_;refine jA 9 rfl ?_;(refine jD rfl rfl rfl ?_);refine jK (bts 10 1023) ?_;refine jQ ?_));rotate_left 1;(focus (refine x_opg rfl rfl ?_;(refine jD rfl rfl rfl ?_);refine jK (bts 10 895) ?_;refine jA 7 rfl ?_;((refine c_stAL rfl rfl rfl rfl rfl rfl rfl rfl inferInstance ?_ ?_;(focus ((rw [rows_len];omega);done))));refine jK (bts 10 1023) ?_;refine jQ ?_));rotate_left 1));rotate_left 2)
     all_goals repeat' (refine jM ?_)
     all_goals
      rename_i _ z1 zc
      rw [show rows vcF cs2 ++ [U8 (61 : Nat),S [],I (nth fs i).1.tag,.slice ai 1 ki] = rows vcF (cs2 ++ [⟨61,[],(nth fs i).1.tag,ai,1,ki⟩]) from (rows_snoc vcF cs2 (⟨61,[],(nth fs i).1.tag,ai,1,ki⟩ : VC)).symm,← show (cs2 ++ [(⟨61,[],(nth fs i).1.tag,ai,1,ki⟩ : VC)]).length = cs2.length + 1 by simp]
      exact k_rd (_,cs2 ++ [⟨61,[],(nth fs i).1.tag,ai,1,ki⟩],some ⟨z1,0,none⟩,zc,true,i + 1,G3) ⟨⟨reps_snoc (hci ▸ rep_mono hle hri) hr2,hgq.trans hle⟩,⟨by dsimp only;omega,by dsimp only;simp only [List.length_append,List.length_cons,List.length_nil];split <;> simp <;> omega⟩,hinv⟩ (by dsimp only;omega) tU rfl sB
   ·have heq : ¬ (nth fs i).1.tag = (nth t.fields j).tag:=oM
    rw [decide_eq_false hge,if_neg (fun h=>hge h.1),if_neg heq,Bool.or_false,List.nil_append,← List.append_assoc] at hinv
    repeat' (first | (refine jR ?_) | (refine jo ?_;first | refine jL fun _=>?_ | refine jC rfl rfl rfl ?_ | (refine jV (g_ldRx rfl rfl aS ?_ aS) ?_;(focus ((omega);done))) | (refine jV (g_iaddrN rfl rfl oM) ?_)) | (refine k_tt rfl (dTt oM) ?_))
    dsimp only [VC.sl]
    rename_i yz
    (refine k_any (s_any (id:=8) _ (fun _ h=>h) mixed ?_);refine jT 6 [0] (bts 7 1) ?_;(refine jG (bts 7 3) 1 rfl (g_ld rfl rfl rfl) ?_);(refine jG (bts 7 7) 2 rfl (g_ld rfl rfl rfl) ?_);refine jT 2 [3,4] (bts 7 31) ?_;((refine jG (bts 7 63) 5 rfl (g_ldRF rfl rfl aS ?_ rfl rfl) ?_;(focus ((omega);done))));refine jT 0 [6] (bts 7 127) ?_;refine jQ ?_)
    repeat' (first | (refine jR ?_) | (refine k_ff rfl (dFf ‹_›) ?_))
    (refine k_any (s_any (id:=10) _ (fun _ h=>h) mixed ?_);refine jT 6 [0] (bts 7 1) ?_;(refine jG (bts 7 3) 1 rfl (g_ld rfl rfl rfl) ?_);(refine jG (bts 7 7) 2 rfl (g_ld rfl rfl rfl) ?_);refine jT 2 [3,4] (bts 7 31) ?_;((refine jG (bts 7 63) 5 rfl (g_ldRF rfl rfl aS ?_ rfl rfl) ?_;(focus ((omega);done))));refine jT 0 [6] (bts 7 127) ?_;refine jQ ?_)
    repeat' (first | (refine jR ?_) | (refine k_tt rfl (dTt ‹_›) ?_))
    (refine k_any (s_any (id:=11) [.blk yz (.cells (List.toArray [U8 (61 : Nat),S [],I (nth fs i).1.tag,.slice ai 1 ki]) tVal (0,0))] (by intro y hy;simp only [List.mem_cons,List.not_mem_nil,or_false] at hy ⊢;simp [hy]) mixed ?_);refine jW 9 [0] (bts 10 1) ?_;(refine jG (bts 10 5) 2 rfl (g_ldA rfl rfl rfl rfl) ?_);refine x_all [1,4] kR dC ⟨?_,?_,trivial⟩;(focus (refine x_opg rfl rfl ?_;(refine jAl rfl ?_);refine jK (bts 10 7) ?_;(refine jG (bts 10 15) 3 rfl (g_lenL rfl) ?_);refine jA 4 rfl ?_;(refine jF fun _=>?_);refine jK (bts 10 31) ?_;refine jA 5 rfl ?_;((refine c_apX rfl rfl rfl rfl rfl rfl rfl rfl rfl ?_ fun _ _=>?_;(focus ((omega);done))));refine jK (bts 10 63) ?_;refine jW 3 [8] (bts 10 319) ?_;((refine jG (bts 10 383) 6 rfl (g_iaddrN rfl rfl ?_) ?_;(focus ((omega);done))));refine x_all [7,9] kR dC ⟨?_,?_,trivial⟩;(focus (refine x_opg rfl rfl ?_;((refine c_stAL rfl rfl rfl rfl rfl rfl rfl rfl inferInstance ?_ ?_;(focus ((rw [rows_len];omega);done))));refine jK (bts 10 511) ?_;refine jA 9 rfl ?_;(refine jD rfl rfl rfl ?_);refine jK (bts 10 1023) ?_;refine jQ ?_));rotate_left 1;(focus (refine x_opg rfl rfl ?_;(refine jD rfl rfl rfl ?_);refine jK (bts 10 895) ?_;refine jA 7 rfl ?_;((refine c_stAL rfl rfl rfl rfl rfl rfl rfl rfl inferInstance ?_ ?_;(focus ((rw [rows_len];omega);done))));refine jK (bts 10 1023) ?_;refine jQ ?_));rotate_left 1));rotate_left 2;(focus (refine x_opg rfl rfl ?_;(refine jF fun _=>?_);refine jK (bts 10 21) ?_;refine jA 1 rfl ?_;(refine jAl rfl ?_);refine jK (bts 10 23) ?_;(refine jG (bts 10 31) 3 rfl (g_lenL rfl) ?_);refine jA 5 rfl ?_;((refine c_apX rfl rfl rfl rfl rfl rfl rfl rfl rfl ?_ fun _ _=>?_;(focus ((omega);done))));refine jK (bts 10 63) ?_;refine jW 3 [8] (bts 10 319) ?_;((refine jG (bts 10 383) 6 rfl (g_iaddrN rfl rfl ?_) ?_;(focus ((omega);done))));refine x_all [7,9] kR dC ⟨?_,?_,trivial⟩;(focus (refine x_opg rfl rfl ?_;((refine c_stAL rfl rfl rfl rfl rfl rfl rfl rfl inferInstance ?_ ?_;(focus ((rw [rows_len];omega);done))));refine jK (bts 10 511) ?_;refine jA 9 rfl ?_;(refine jD rfl rfl rfl ?_);refine jK (bts 10 1023) ?_;refine jQ ?_));rotate_left 1;(focus (refine x_opg rfl rfl ?_;(refine jD rfl rfl rfl ?_);refine jK (bts 10 895) ?_;refine jA 7 rfl ?_;((refine c_stAL rfl rfl rfl rfl rfl rfl rfl rfl inferInstance ?_ ?_;(focus ((rw [rows_len];omega);done))));refine jK (bts 10 1023) ?_;refine jQ ?_));rotate_left 1));rotate_left 2)
    all_goals repeat' (refine jM ?_)
    all_goals
     rename_i _ z1 zc
     rw [show rows vcF cs1 ++ [U8 (61 : Nat),S [],I (nth fs i).1.tag,.slice ai 1 ki] = rows vcF (cs1 ++ [⟨61,[],(nth fs i).1.tag,ai,1,ki⟩]) from (rows_snoc vcF cs1 (⟨61,[],(nth fs i).1.tag,ai,1,ki⟩ : VC)).symm,← show (cs1 ++ [(⟨61,[],(nth fs i).1.tag,ai,1,ki⟩ : VC)]).length = cs1.length + 1 by simp]
     exact k_rd (_,cs1 ++ [⟨61,[],(nth fs i).1.tag,ai,1,ki⟩],some ⟨z1,0,none⟩,zc,d,i + 1,Gq) ⟨⟨reps_snoc (hci ▸ hri) hreps,hgq⟩,⟨by dsimp only;omega,by dsimp only;simp only [List.length_append,List.length_cons,List.length_nil];omega⟩,hinv⟩ (by dsimp only;omega) tU rfl sB
  ·rw [List.drop_eq_nil_of_le oM,putA] at hinv
   repeat' (first | (refine jR ?_) | (refine k_ff rfl (dFf oM) ?_))
   refine jo ?_
   refine c_call (vs:=[Pt y1 0,Pt y0 0,Pt y2 0,Pt y5 0,Pt y4 0]) (Lp:=putO y2 y0 y1 y5 y4 told d (Pt bf (of + j * 6)) [U8 (dx.what : Nat),S dx.text,I dx.tag,.slice dx.a dx.n dx.c] a1 k1 cs1) (R:=[_]) rfl rfl rfl (c_add hreps (rep_mono hgq hx) hsf2 hj oM ⟨oM,oM⟩) (List.Perm.refl _) rfl ?_
   rintro r3 G3 L3 ⟨cs2,a2,k2,hle,hr2,rfl⟩
   simp only [putO,List.cons_append,List.nil_append]
   have hcl2:=reps_len hr2
   repeat' (first | (refine jR ?_) | (refine jo ?_;first | refine jC rfl rfl rfl ?_ | refine jAm rfl ?_))
   refine Nx.sealS (v:=.slice a2 cs2.length k2) fun G5 hG5 hsl5=>?_
   refine jZ (vs:=[_]) rfl ⟨rc_A rfl rfl rfl rfl,trivial⟩ rfl ⟨((hgq.trans hle).trans hG5),rfl,?_⟩
   exact ⟨⟨82,[],0,a2,cs2.length,k2⟩,rfl,by rw [hinv];exact rep_mk dC dC (fun h=>absurd h dC) hcl2 hsl5 (reps_mono hG5 hr2)⟩
theorem cut_intsI {b o c : Nat} {n : Int} {p : List Int} (h : SlV G (.slice (some ⟨b,o,none⟩) (n :: p).length c) 1 (n :: p).length (rows inR (n :: p))) : SlV G (.slice (some ⟨b,slO o c (Int.toNat 1) 1,none⟩) ((n :: p).length - Int.toNat 1) (c - Int.toNat 1)) 1 p.length (rows inR p):=by
 have h1:=h.cutAt (m:=Int.toNat 1) (by show 1 ≤ p.length + 1;omega)
 exact h1
section
variable {qs : List TyP} {k k1 : List UInt8} {v1 z : V} {n : Int} {p : List Int} {b pb po pc : Nat} {c dy : VC}
theorem c_chRec {fs : List (Fld × V)} {t : Ty} {f : Fld} (hS : ScI G b qs) (hw : SchW (tyq qs)) (hki : kindIn (tyq qs) k = true) (hrf : refT (tyq qs) k = some t) (hso : t.sort = 82) (hg : fldT t.fields n = some f) (hk1 : k1 = f.kind) (hsr : Srt (fs.map fldV)) (hfs : fs.length ≤ 90000) (hn : 0 ≤ n ∧ n ≤ 999999) (hp : SlV G (.slice (some ⟨pb,po,none⟩) (n :: p).length pc) 1 (n :: p).length (rows inR (n :: p)))
  (hr : V.rep G (.nd 82 [] 0 (fs.map fldV)) c) (hpl : p.length ≤ 100) (hzt : z.tot ≤ 1000000)
  (cx_sty : FnS Tryz.prog 91 [Pt b 0,Ag (kdF k),Ag (vcF c),I n] G (fun r G'=>∃ c',r = Tu [Ag [S (sg k1),S (bs k1),S (nm k1)],Ag (vcF c'),Bo true] ∧ V.rep G' v1 c'))
  (ihz : ∀ {G2 : Gh} {c1 : VC},Gh.le G G2 → V.rep G2 v1 c1 → FnS Tryz.prog 58 [Pt b 0,Ag (kdF k1),Ag (vcF c1),.slice (some ⟨pb,slO po pc (Int.toNat 1) 1,none⟩) ((n :: p).length - Int.toNat 1) (pc - Int.toNat 1),Ag (vcF dy)] G2 (fun r G'=>∃ c',r = Ag (vcF c') ∧ V.rep G' z c')) :
  FnS Tryz.prog 58 [Pt b 0,Ag (kdF k),Ag (vcF c),.slice (some ⟨pb,po,none⟩) (n :: p).length pc,Ag (vcF dy)] G (fun r G'=>∃ c',r = Ag (vcF c') ∧ V.rep G' (.nd 82 [] 0 (putF (tyq qs) f z (fs.map fldV))) c'):=by
 obtain ⟨G0,rfl⟩ : ∃ G0,G0 = G:=⟨G,rfl⟩
 have hg0 : Gh.le G0 G0:=Gh.le.refl _
 obtain ⟨a,kc,cs,rfl,_,_,_,hcl,hsl,hrs⟩:=rep_inv hr
 have e0 : vcF ⟨82,[],0,a,(fs.map fldV).length,kc⟩ = [U8 (82 : Nat),S [],I 0,.slice a (fs.map fldV).length kc]:=rfl
 have e1 : vcF dy = [U8 (dy.what : Nat),S dy.text,I dy.tag,.slice dy.a dy.n dy.c]:=rfl
 have hpl0 : (n :: p).length = p.length + 1:=rfl
 have hti : nth (n :: p) (Int.toNat 0) = n:=rfl
 have hsx : Seg G0 pb po (rows inR (n :: p)):=by
  obtain ⟨b',o',c',e',hs'⟩:=hp.expl (by simp)
  simp only [Value.slice.injEq,Option.some.injEq,Addr.mk.injEq] at e'
  obtain ⟨⟨rfl,rfl,_⟩,_,rfl⟩:=e'
  exact hs'
 obtain ⟨hkd,p0,hfq,hqm⟩:=kind_typ hki hrf
 have htm:=refT_mem hrf
 have hTW:=hw.ty t htm
 have hfl:=hTW.len
 obtain ⟨j,hj,hjf,hjn,hjx⟩:=fldT_some hg
 subst hjx
 rw [hkd,e0] at cx_sty ⊢
 rw [e1]
 refine jB [(0,_),(1,_),(2,_),(3,_),(4,_)] Tryz.func58 Tryz.ntmps58 fun B hok hB hW=>?_
 repeat' (first | (refine jR ?_) | (refine jo ?_;first | refine jO fun _=>?_ | refine jL fun _=>?_ | refine jV (g_lenL rfl) ?_ | (refine jV (g_ldRFx rfl rfl aS ?_ aS rfl rfl) ?_;(focus ((omega);done))) | refine jAm rfl ?_ | refine jC rfl rfl rfl ?_ | (refine jV (g_iaddr rfl rfl oM) ?_) | (refine c_fns rfl rfl rfl cx_sty rfl ?_;rintro _ G hle ⟨cv,rfl,hrv⟩;(have hg0:=hg0.trans hle);(have hS:=hS.mono hle);(have hr:=rep_mono hle hr);(try have hrv:=rep_mono hle hrv);(try have hrz:=rep_mono hle hrz))) | (refine k_ff rfl rfl ?_))
 rename_i y6 y7 y9 y10 y12 y13
 dsimp only [VC.sl]
 have cx_ch:=ihz hg0 hrv
 unfold kdF at cx_ch
 rw [show vcF cv = [U8 (cv.what : Nat),S cv.text,I cv.tag,.slice cv.a cv.n cv.c] from rfl,e1] at cx_ch
 (refine k_any (s_any (id:=5) _ (fun _ h=>h) mixed ?_);refine jT 7 [0,3] (bts 9 9) ?_;(refine jG (bts 9 11) 1 rfl (g_ldA rfl rfl rfl rfl) ?_);(refine jG (bts 9 15) 2 rfl (g_ldA rfl rfl rfl rfl) ?_);(refine jG (bts 9 31) 4 rfl (g_slV rfl rfl oM) ?_);(refine jG (bts 9 63) 5 rfl (g_ldA rfl rfl rfl rfl) ?_);refine x_all [6,7] kR dC ⟨?_,?_,trivial⟩;(focus (refine x_opg rfl rfl ?_;(refine c_fns rfl rfl rfl cx_ch rfl ?_;rintro _ G hle ⟨cz,rfl,hrz⟩;(have hg0:=hg0.trans hle);(have hS:=hS.mono hle);(have hr:=rep_mono hle hr);(try have hrv:=rep_mono hle hrv);(try have hrz:=rep_mono hle hrz));refine jK (bts 9 127) ?_;refine jA 7 rfl ?_;(refine jL fun _=>?_);refine jK (bts 9 255) ?_;refine jA 8 rfl ?_;(refine jC rfl rfl rfl ?_);refine jK (bts 9 511) ?_;refine jQ ?_));rotate_left 1;(focus (refine x_opg rfl rfl ?_;(refine jL fun _=>?_);refine jK (bts 9 191) ?_;refine jA 6 rfl ?_;(refine c_fns rfl rfl rfl cx_ch rfl ?_;rintro _ G hle ⟨cz,rfl,hrz⟩;(have hg0:=hg0.trans hle);(have hS:=hS.mono hle);(have hr:=rep_mono hle hr);(try have hrv:=rep_mono hle hrv);(try have hrz:=rep_mono hle hrz));refine jK (bts 9 255) ?_;refine jA 8 rfl ?_;(refine jC rfl rfl rfl ?_);refine jK (bts 9 511) ?_;refine jQ ?_));rotate_left 1)
 all_goals
  dsimp only [VC.sl]
  obtain ⟨fv,ln,hsg,hfv⟩:=hS.ty _ hqm
  dsimp only at hsg hfv
  have hkv:=kvF_find qs (nm k)
  rw [hfq] at hkv
  dsimp only [Option.map_some] at hkv
  obtain ⟨u,m,g1,g2,g3⟩:=hS.at'
  obtain ⟨bf,of,cf,rfl,hsf⟩:=hfv.expl oM
  have cx_fld:=c_fieldI1 hsg hsf oM hj hjf hjn
  have cx_put:=c_put hS hw htm hso hsf hj hr hrz hfs oM hsr
  rw [e0,show vcF cz = [U8 (cz.what : Nat),S cz.text,I cz.tag,.slice cz.a cz.n cz.c] from rfl] at cx_put
  repeat' (first | (refine jR ?_) | (refine jo ?_;(refine jAl rfl ?_)) | (refine k_tt rfl rfl ?_))
  (refine k_any (s_anyD (id:=7) (tt:=10) rfl mixed ?_);refine jW 8 [0,2,3,4,6,9] (bts 14 605) ?_;(refine jG (bts 14 607) 1 rfl (g_ldA rfl rfl rfl rfl) ?_);(refine jG (bts 14 639) 5 rfl (g_ldS rfl rfl aS rfl rfl) ?_);(refine jG (bts 14 767) 7 rfl (g_ld rfl rfl rfl) ?_);((refine jG (bts 14 1023) 8 rfl (g_lookupX rfl rfl (map_G aS) aS rfl) ?_));(refine jG (bts 14 3071) 11 rfl (g_ldA rfl rfl rfl rfl) ?_);refine jA 10 rfl ?_;(refine c_rt rfl rfl rfl cx_fld rfl ?_);refine jK (bts 14 4095) ?_;refine jA 12 rfl ?_;(refine c_fns rfl rfl rfl cx_put rfl ?_;rintro _ G hle ⟨cz,rfl,hrz⟩;(have hg0:=hg0.trans hle);(have hS:=hS.mono hle);(have hr:=rep_mono hle hr);(try have hrv:=rep_mono hle hrv);(try have hrz:=rep_mono hle hrz));refine jK (bts 14 8191) ?_;refine jA 13 rfl ?_;(refine jC rfl rfl rfl ?_);refine jK (bts 14 16383) ?_;refine jQ ?_)
  all_goals repeat' (refine jR ?_)
  all_goals refine jZ (vs:=[_]) rfl ⟨rc_A rfl rfl rfl rfl,trivial⟩ rfl ⟨hg0,rfl,?_⟩
  all_goals exact ⟨cz,rfl,hrz⟩
theorem reps_set {i : Nat} : ∀ {ks : List V} {cs : List VC} {j : Nat},V.reps G ks cs → ∀ {z : V} {cz : VC},V.rep G z cz → V.reps G (ks.set j z) (cs.set j cz)
 | [],cs,j,h,z,cz,hz=>by rw [V.reps] at h;subst h;exact (by rw [List.set_nil,List.set_nil,V.reps])
 | v :: r,cs,0,h,z,cz,hz=>by
  rw [V.reps] at h
  obtain ⟨c,cs',rfl,h1,h2⟩:=h
  rw [List.set_cons_zero,List.set_cons_zero,V.reps]
  exact ⟨cz,cs',rfl,hz,h2⟩
 | v :: r,cs,j + 1,h,z,cz,hz=>by
  rw [V.reps] at h
  obtain ⟨c,cs',rfl,h1,h2⟩:=h
  rw [List.set_cons_succ,List.set_cons_succ,V.reps]
  exact ⟨c,_,rfl,h1,reps_set (i:=i) h2 hz⟩
theorem all1_vcF : ∀ cs : List VC,all1 (rows vcF cs) = true
 | []=>rfl
 | c :: cs=>by rw [rows_cons,all1_append,all1_vcF cs];rfl
theorem c_chKid {w0 i : Nat} {tg : Int} {ks : List V} (hw0 : (w0 = 91 ∧ i = n.toNat) ∨ ((w0 = 63 ∨ w0 = 85) ∧ i = 0)) (hi : i < ks.length) (hkl : ks.length ≤ 1000000) (hn : 0 ≤ n ∧ n ≤ 999999) (hp : SlV G (.slice (some ⟨pb,po,none⟩) (n :: p).length pc) 1 (n :: p).length (rows inR (n :: p)))
  (hr : V.rep G (.nd w0 [] tg ks) c) (hpl : p.length ≤ 100)
  (cx_sty : FnS Tryz.prog 91 [Pt b 0,Ag (kdF k),Ag (vcF c),I n] G (fun r G'=>∃ c',r = Tu [Ag [S (sg k1),S (bs k1),S (nm k1)],Ag (vcF c'),Bo true] ∧ V.rep G' v1 c'))
  (ihz : ∀ {G2 : Gh} {c1 : VC},Gh.le G G2 → V.rep G2 v1 c1 → FnS Tryz.prog 58 [Pt b 0,Ag (kdF k1),Ag (vcF c1),.slice (some ⟨pb,slO po pc (Int.toNat 1) 1,none⟩) ((n :: p).length - Int.toNat 1) (pc - Int.toNat 1),Ag (vcF dy)] G2 (fun r G'=>∃ c',r = Ag (vcF c') ∧ V.rep G' z c')) :
  FnS Tryz.prog 58 [Pt b 0,Ag (kdF k),Ag (vcF c),.slice (some ⟨pb,po,none⟩) (n :: p).length pc,Ag (vcF dy)] G (fun r G'=>∃ c',r = Ag (vcF c') ∧ V.rep G' (.nd w0 [] tg (ks.set i z)) c'):=by
 obtain ⟨G0,rfl⟩ : ∃ G0,G0 = G:=⟨G,rfl⟩
 have hg0 : Gh.le G0 G0:=Gh.le.refl _
 obtain ⟨a,kc,cs,rfl,hw255,htg,h61,hcl,hsl,hrs⟩:=rep_inv hr
 have e0 : vcF ⟨w0,[],tg,a,ks.length,kc⟩ = [U8 (w0 : Nat),S [],I tg,.slice a ks.length kc]:=rfl
 have e1 : vcF dy = [U8 (dy.what : Nat),S dy.text,I dy.tag,.slice dy.a dy.n dy.c]:=rfl
 have hpl0 : (n :: p).length = p.length + 1:=rfl
 have hti : nth (n :: p) (Int.toNat 0) = n:=rfl
 have hsx : Seg G0 pb po (rows inR (n :: p)):=by
  obtain ⟨b',o',c',e',hs'⟩:=hp.expl (by simp)
  simp only [Value.slice.injEq,Option.some.injEq,Addr.mk.injEq] at e'
  obtain ⟨⟨rfl,rfl,_⟩,_,rfl⟩:=e'
  exact hs'
 rw [hcl] at hsl
 have hal:=all1_vcF cs
 have e2 : kdF k = [S (sg k),S (bs k),S (nm k)]:=rfl
 rw [e0,e2] at cx_sty ⊢
 rw [e1]
 rcases hw0 with ⟨rfl,hie⟩ | ⟨rfl | rfl,hie⟩
 all_goals
  refine jB [(0,_),(1,_),(2,_),(3,_),(4,_)] Tryz.func58 Tryz.ntmps58 fun B hok hB hW=>?_
  repeat' (first | (refine jR ?_) | (refine jo ?_;first | refine jO fun _=>?_ | refine jL fun _=>?_ | refine jV (g_lenL rfl) ?_ | (refine jV (g_ldRFx rfl rfl aS ?_ aS rfl rfl) ?_;(focus ((omega);done))) | refine jAm rfl ?_ | refine jC rfl rfl rfl ?_ | (refine jV (g_iaddr rfl rfl oM) ?_) | (refine c_fns rfl rfl rfl cx_sty rfl ?_;rintro _ G hle ⟨cv,rfl,hrv⟩;(have hg0:=hg0.trans hle);(have hsl:=hsl.mono hle);(try have hrv:=rep_mono hle hrv);(try have hrz:=rep_mono hle hrz))) | (refine k_ff rfl rfl ?_))
  rename_i y6 y7 y9 y10 y12 y13
  dsimp only [VC.sl]
  have cx_ch:=ihz hg0 hrv
  unfold kdF at cx_ch
  rw [show vcF cv = [U8 (cv.what : Nat),S cv.text,I cv.tag,.slice cv.a cv.n cv.c] from rfl,e1] at cx_ch
  (refine k_any (s_any (id:=5) _ (fun _ h=>h) mixed ?_);refine jT 7 [0,3] (bts 9 9) ?_;(refine jG (bts 9 11) 1 rfl (g_ldA rfl rfl rfl rfl) ?_);(refine jG (bts 9 15) 2 rfl (g_ldA rfl rfl rfl rfl) ?_);(refine jG (bts 9 31) 4 rfl (g_slV rfl rfl oM) ?_);(refine jG (bts 9 63) 5 rfl (g_ldA rfl rfl rfl rfl) ?_);refine x_all [6,7] kR dC ⟨?_,?_,trivial⟩;(focus (refine x_opg rfl rfl ?_;(refine c_fns rfl rfl rfl cx_ch rfl ?_;rintro _ G hle ⟨cz,rfl,hrz⟩;(have hg0:=hg0.trans hle);(have hsl:=hsl.mono hle);(try have hrv:=rep_mono hle hrv);(try have hrz:=rep_mono hle hrz));refine jK (bts 9 127) ?_;refine jA 7 rfl ?_;(refine jL fun _=>?_);refine jK (bts 9 255) ?_;refine jA 8 rfl ?_;(refine jC rfl rfl rfl ?_);refine jK (bts 9 511) ?_;refine jQ ?_));rotate_left 1;(focus (refine x_opg rfl rfl ?_;(refine jL fun _=>?_);refine jK (bts 9 191) ?_;refine jA 6 rfl ?_;(refine c_fns rfl rfl rfl cx_ch rfl ?_;rintro _ G hle ⟨cz,rfl,hrz⟩;(have hg0:=hg0.trans hle);(have hsl:=hsl.mono hle);(try have hrv:=rep_mono hle hrv);(try have hrz:=rep_mono hle hrz));refine jK (bts 9 255) ?_;refine jA 8 rfl ?_;(refine jC rfl rfl rfl ?_);refine jK (bts 9 511) ?_;refine jQ ?_));rotate_left 1)
  all_goals
   dsimp only [VC.sl]
   repeat' (first | (refine jR ?_) | (refine jo ?_;(refine jAl rfl ?_)) | (refine k_ff rfl rfl ?_))
   (refine k_any (s_any (id:=8) _ (fun _ h=>h) mixed ?_);refine jT 7 [0,2,4] (bts 10 21) ?_;(refine jG (bts 10 23) 1 rfl (g_ld rfl rfl rfl) ?_);(refine jG (bts 10 31) 3 rfl (g_ld rfl rfl rfl) ?_);(refine jG (bts 10 63) 5 rfl (g_ld rfl rfl rfl) ?_);refine x_all [6,8] kR dC ⟨?_,?_,trivial⟩;(focus (refine x_opg rfl rfl ?_;((refine c_ap0V rfl rfl aS rfl aS rfl rfl rfl rfl ?_ ?_ fun _ _=>?_;(focus ((omega);done));(focus ((omega);done))));refine jK (bts 10 127) ?_;(refine jG (bts 10 255) 7 rfl (g_bld rfl rfl) ?_);refine jA 8 rfl ?_;(refine jL fun _=>?_);refine jK (bts 10 511) ?_;refine jA 9 rfl ?_;(refine jC rfl rfl rfl ?_);refine jK (bts 10 1023) ?_;refine jQ ?_));rotate_left 1;(focus (refine x_opg rfl rfl ?_;(refine jL fun _=>?_);refine jK (bts 10 319) ?_;refine jA 6 rfl ?_;((refine c_ap0V rfl rfl aS rfl aS rfl rfl rfl rfl ?_ ?_ fun _ _=>?_;(focus ((omega);done));(focus ((omega);done))));refine jK (bts 10 383) ?_;(refine jG (bts 10 511) 7 rfl (g_bld rfl rfl) ?_);refine jA 9 rfl ?_;(refine jC rfl rfl rfl ?_);refine jK (bts 10 1023) ?_;refine jQ ?_));rotate_left 1)
   all_goals repeat' (first | (refine jR ?_) | (refine jo ?_;first | refine jAl rfl ?_ | refine jAm rfl ?_ | (refine jV (g_iaddr rfl rfl oM) ?_)) | (refine k_tt rfl rfl ?_) | (refine k_ff rfl rfl ?_))
   all_goals refine jo ?_
   all_goals refine c_stAR (f:=vcF) (c:=cz) (cs:=cs) (i:=i) rfl rfl rfl rfl rfl oM oM ?_
   all_goals repeat' (first | (refine jR ?_) | (refine jo ?_;first | refine jAm rfl ?_ | refine jC rfl rfl rfl ?_))
   all_goals
    rename_i u1 u2 u3 u4
    first | (refine Nx.sealS (v:=.slice (some ⟨u2,0,none⟩) ks.length u3) fun G5 hG5 hsl5=>?_;refine jZ (vs:=[_]) rfl ⟨rc_A rfl rfl rfl rfl,trivial⟩ rfl ⟨(hg0.trans hG5),rfl,?_⟩;exact ⟨⟨_,[],tg,some ⟨u2,0,none⟩,ks.length,u3⟩,rfl,rep_mk hw255 htg (fun h=>by rw [List.length_set];exact h61 h) (by rw [List.length_set]) (by rw [List.length_set,hcl];exact hsl5) (reps_mono hG5 (reps_set (i:=0) (reps_mono hg0 hrs) hrz))⟩) | (refine Nx.sealS (v:=.slice (some ⟨u3,0,none⟩) ks.length u4) fun G5 hG5 hsl5=>?_;refine jZ (vs:=[_]) rfl ⟨rc_A rfl rfl rfl rfl,trivial⟩ rfl ⟨(hg0.trans hG5),rfl,?_⟩;exact ⟨⟨_,[],tg,some ⟨u3,0,none⟩,ks.length,u4⟩,rfl,rep_mk hw255 htg (fun h=>by rw [List.length_set];exact h61 h) (by rw [List.length_set]) (by rw [List.length_set,hcl];exact hsl5) (reps_mono hG5 (reps_set (i:=0) (reps_mono hg0 hrs) hrz))⟩)
theorem c_changeI (hw : SchW (tyq qs)) : ∀ (p : List Int) {G : Gh} {pv : Value} {k : List UInt8} {v y : V} {c dy : VC} {k' : List UInt8} {v' : V},ScI G b qs → SlV G pv 1 p.length (rows inR p) → (∀ n ∈ p,0 ≤ n ∧ n ≤ 999999) → p.length ≤ 8 → V.rep G v c → OfK (tyq qs) k v → kindIn (tyq qs) k = true → v.tot ≤ 400000 → followV (tyq qs) k v p = some (k',v') → V.rep G y dy → OfK (tyq qs) k' y → y.tot ≤ 40000 →
  FnS Tryz.prog 58 [Pt b 0,Ag (kdF k),Ag (vcF c),pv,Ag (vcF dy)] G (fun r G'=>∃ c',r = Ag (vcF c') ∧ V.rep G' (changeV (tyq qs) k v p y) c')
 | [],G,pv,k,v,y,c,dy,k',v',hS,hp,hpn,hpl,hr,ho,hki,htt,hf,hy,hoy,hyt=>by
  simp only [followV,Option.some.injEq,Prod.mk.injEq] at hf
  obtain ⟨rfl,rfl⟩:=hf
  obtain ⟨pa,pc,rfl⟩:=hp.sl
  have hl0 : ([] : List Int).length = 0:=rfl
  have e1 : vcF dy = [U8 (dy.what : Nat),S dy.text,I dy.tag,.slice dy.a dy.n dy.c]:=rfl
  have e3 : vcF c = [U8 (c.what : Nat),S c.text,I c.tag,.slice c.a c.n c.c]:=rfl
  have e2 : kdF k = [S (sg k),S (bs k),S (nm k)]:=rfl
  rw [changeV,e1,e2,e3]
  refine jB [(0,_),(1,_),(2,_),(3,_),(4,_)] Tryz.func58 Tryz.ntmps58 fun B hok hB hW=>?_
  repeat' (first | (refine jR ?_) | (refine jo ?_;first | refine jO fun _=>?_ | refine jL fun _=>?_ | refine jV (g_lenL rfl) ?_ | refine jAm rfl ?_ | refine jC rfl rfl rfl ?_) | (refine k_tt rfl rfl ?_))
  all_goals refine jZ (vs:=[_]) rfl ⟨rc_A rfl rfl rfl rfl,trivial⟩ rfl ⟨Gh.le.refl _,rfl,?_⟩
  all_goals exact ⟨dy,rfl,hy⟩
 | n :: p,G,pv,k,v,y,c,dy,k',v',hS,hp,hpn,hpl,hr,ho,hki,htt,hf,hy,hoy,hyt=>by
  obtain ⟨pb,po,pc,rfl,_⟩:=hp.expl (by simp)
  have hn:=hpn n (by simp)
  have hpn2 : ∀ m ∈ p,0 ≤ m ∧ m ≤ 999999:=fun m hm=>hpn m (by simp [hm])
  have hpl2 : p.length ≤ 8:=by simp at hpl;omega
  unfold followV at hf
  cases hs : stepV (tyq qs) k v n with
  | none=>rw [hs] at hf;cases hf
  | some x =>
   rw [hs] at hf
   obtain ⟨k1,v1⟩:=x
   dsimp only at hf
   obtain ⟨g1,g2⟩:=stepV_ok hw ho hki hn.1 hs
   have g3:=stepV_tot hw ho hki hn.1 hs (N:=400000) htt oM
   have g4:=changeV_tot hw (y:=y) g1 g2 (fun m hm=>(hpn2 m hm).1) hf
   have cx_sty:=StepPI.yes (c_stepI hS hw hki ho hr hn oM) hs
   have hcut:=cut_intsI hp
   have ihz : ∀ {G2 : Gh} {c1 : VC},Gh.le G G2 → V.rep G2 v1 c1 → FnS Tryz.prog 58 [Pt b 0,Ag (kdF k1),Ag (vcF c1),.slice (some ⟨pb,slO po pc (Int.toNat 1) 1,none⟩) ((n :: p).length - Int.toNat 1) (pc - Int.toNat 1),Ag (vcF dy)] G2 (fun r G'=>∃ c',r = Ag (vcF c') ∧ V.rep G' (changeV (tyq qs) k1 v1 p y) c'):=fun hle hr1 =>
    c_changeI hw p (hS.mono hle) (hcut.mono hle) hpn2 hpl2 hr1 g1 g2 g3 hf (rep_mono hle hy) hoy hyt
   rw [changeV_cons hs]
   cases hrf : refT (tyq qs) k with
   | none =>
    obtain ⟨ch,kr,rfl⟩:=kind_ne hki
    by_cases hc : ch.toNat = 91 ∨ ch.toNat = 63
    ·have hst:=stepV_kid (ts:=tyq qs) (c:=ch) (r:=kr) (v:=v) (n:=n) hc
     rw [hs] at hst
     by_cases hlt : n < ((v.kids.length : Nat) : Int)
     ·have htl:=tots_len v.kids
      rcases ofK_inv_c ho oM with ⟨a1,_⟩ | ⟨a1,_⟩ | ⟨a1,_⟩ | ⟨a1,ks,a2,a3,rfl⟩ | ⟨a1,rfl | ⟨w,a3,rfl⟩⟩
      ·omega
      ·omega
      ·omega
      ·rw [V.kids] at hlt
       have e1 : ∀ z,setV (tyq qs) (ch :: kr) (.nd 91 [] 0 ks) n z = .nd 91 [] 0 (ks.set n.toNat z):=fun z=>by
        unfold setV;rw [V.what,if_neg dC,if_pos rfl];rfl
       rw [e1]
       exact c_chKid (.inl ⟨rfl,rfl⟩) oM oM hn hp hr oM cx_sty ihz
      ·simp [V.kids] at hlt;omega
      ·simp [V.kids] at hlt
       obtain rfl : n = 0:=oM
       have e1 : ∀ z,setV (tyq qs) (ch :: kr) (.nd 63 [] 0 [w]) 0 z = .nd 63 [] 0 ([w].set 0 z):=fun z=>by
        unfold setV;rw [V.what,if_neg dC,if_neg dC];rfl
       rw [e1]
       exact c_chKid (.inr ⟨.inl rfl,rfl⟩) (by simp) (by simp) hn hp hr oM cx_sty ihz
     ·rw [if_neg hlt] at hst;cases hst
    ·have hno : stepV (tyq qs) (ch :: kr) v n = none:=by
      rcases plain_kinds hki hc hrf with e | e | e
      all_goals (rw [e];exact stepV_plain dC dC dC)
     rw [hno] at hs;cases hs
   | some t =>
    have hst:=stepV_typ (v:=v) (n:=n) hrf
    rw [hs] at hst
    cases hg : fldT t.fields n with
    | none=>rw [hg] at hst;cases hst
    | some f =>
     rw [hg] at hst
     dsimp only at hst
     by_cases h69 : t.sort = 69
     ·rw [if_pos h69] at hst;cases hst
     ·rw [if_neg h69] at hst
      by_cases h82 : t.sort = 82
      ·rw [if_pos h82] at hst
       simp only [Option.some.injEq,Prod.mk.injEq] at hst
       obtain ⟨rfl,rfl⟩:=hst
       rcases ofK_inv_t ho hrf with ⟨_,fs,rfl,a3,a4,a5,a6⟩ | ⟨a1,_⟩ | ⟨a1,_⟩
       ·have hfs9 : fs.length ≤ 90000:=by
         have h7:=tots_len (fs.map fldV)
         rw [nd_tot] at htt
         have e1 : (fs.map fldV).length = fs.length:=by simp
         omega
        have e1 : ∀ z,setV (tyq qs) k (.nd 82 [] 0 (fs.map fldV)) n z = .nd 82 [] 0 (putF (tyq qs) f z (fs.map fldV)):=fun z=>by
         unfold setV;rw [V.what,if_pos rfl,hrf]
         dsimp only
         rw [hg];rfl
        rw [e1]
        exact c_chRec hS hw hki hrf h82 hg rfl (srt_fs a6) hfs9 hn hp hr oM oM cx_sty ihz
       ·omega
       ·omega
      ·rw [if_neg h82] at hst
       by_cases htg : v.tag = n
       ·rw [if_pos htg] at hst
        rcases ofK_inv_t ho hrf with ⟨a1,_⟩ | ⟨a1,_⟩ | ⟨_,_,d,w,rfl,g4,g5⟩
        ·omega
        ·omega
        ·have e1 : ∀ z,setV (tyq qs) k (.nd 85 [] d.tag [w]) n z = .nd 85 [] d.tag ([w].set 0 z):=fun z=>by
          unfold setV;rw [V.what,if_neg dC,if_neg dC];rfl
         rw [e1]
         exact c_chKid (.inr ⟨.inr rfl,rfl⟩) (by simp) (by simp) hn hp hr oM cx_sty ihz
       ·rw [if_neg htg] at hst;cases hst
end
end Go.E
namespace Go.E
set_option maxRecDepth 20000
set_option maxHeartbeats 2000000
open Go.Proofs
variable {G : Gh}
theorem putB_at {α : Type} [Inhabited α] {tg : α → Int} {node : α} {tag : Int} {l : List α} {i : Nat} (hi : i < l.length) {d : Bool} : putB tg node tag (l.drop i) d = (if tag < tg (nth l i) ∧ d = false then [node] else []) ++ ((if tg (nth l i) = tag then [] else [nth l i]) ++ putB tg node tag (l.drop (i + 1)) (d || decide (tag < tg (nth l i)))):=by
 rw [List.drop_eq_getElem_cons hi,nth_eq hi,putB]
theorem putB_mem {α : Type} {tg : α → Int} {node : α} {tag : Int} {y : α} : ∀ {l : List α} {d : Bool},y ∈ putB tg node tag l d → y = node ∨ y ∈ l
 | [],d,h=>by
  unfold putB at h
  split at h
  ·simp at h
  ·exact .inl (by simpa using h)
 | z :: r,d,h=>by
  rw [putB] at h
  simp only [List.mem_append] at h
  rcases h with h | h | h
  ·split at h
   ·exact .inl (by simpa using h)
   ·simp at h
  ·split at h
   ·simp at h
   ·exact .inr (by simp at h;simp [h])
  ·exact (putB_mem h).imp id fun h=>by simp [h]
theorem putB_memT {α : Type} {tg : α → Int} {node : α} {tag : Int} {y : α} : ∀ {l : List α},y ∈ putB tg node tag l true → y ∈ l
 | [],h=>by simp [putB] at h
 | z :: r,h=>by
  rw [putB,if_neg (by simp),Bool.true_or,List.nil_append] at h
  rcases List.mem_append.1 h with h | h
  ·split at h
   ·simp at h
   ·simp at h;simp [h]
  ·simp [putB_memT h]
def tgP (p : (Fld × V) × Nat) : Int:=p.1.1.tag
def fvP (p : (Fld × V) × Nat) : V:=fldV p.1
theorem fvP_map {ps : List ((Fld × V) × Nat)} : ps.map fvP = (ps.map (·.1)).map fldV:=by rw [List.map_map];rfl
theorem recd_inv {ts : List Ty} {k : List UInt8} {t : Ty} {b : Nat} {vs : List V} (hr : RepR G ts (.nd 82 [] 0 vs) k b) (hrf : refT ts k = some t) : t.sort = 82 ∧ ∃ (ps : List ((Fld × V) × Nat)) (a a2 : Option Addr) (c c2 : Nat),vs = ps.map fvP ∧ Seg G b 0 [S k,S [82],.slice a ps.length c,.slice a2 ps.length c2] ∧ SlV G (.slice a ps.length c) 1 ps.length (rows inR (ps.map tgP)) ∧ SlV G (.slice a2 ps.length c2) 1 ps.length (rows ptR (ps.map (·.2))) ∧ ∀ p ∈ ps,p.1.1 ∈ t.fields ∧ RepR G ts p.1.2 p.1.1.kind p.2:=by
 cases hr with
 | leaf w x k tx b h1 h2=>rcases h2 with ⟨h,_⟩ | ⟨h,_⟩ | ⟨h,_⟩ <;> omega
 | recd k b t' fs bs a a2 c c2 h0 h1 h2 h3 h4 h5 hk =>
  obtain rfl : t' = t:=by rw [hrf] at h0;exact (Option.some.inj h0.1).symm
  have e1 : (fs.zip bs).map (·.1) = fs:=List.map_fst_zip oM
  have e2 : (fs.zip bs).map (·.2) = bs:=List.map_snd_zip oM
  have el : (fs.zip bs).length = fs.length:=by simp [h4]
  have e3 : (fs.zip bs).map tgP = fs.map fun p=>p.1.tag:=by
   rw [show tgP = (fun p : Fld × V=>p.1.tag) ∘ Prod.fst from rfl,← List.map_map,e1]
  refine ⟨h0.2,fs.zip bs,a,a2,c,c2,by rw [fvP_map,e1],by rw [el];exact h1,by rw [el,e3];exact h2,by rw [el,e2];exact h3,fun p hp=>?_⟩
  obtain ⟨i,hi,e⟩:=List.getElem_of_mem hp
  rw [List.getElem_zip] at e
  subst e
  have hi' : i < fs.length:=by rw [el] at hi;exact hi
  have g1:=hk i hi'
  have g2:=h5 i hi'
  rw [nth_eq hi',nth_eq oM] at g1
  rw [nth_eq hi'] at g2
  exact ⟨g2,g1⟩
theorem recd_mk {ts : List Ty} {k : List UInt8} {t : Ty} {b : Nat} {ps : List ((Fld × V) × Nat)} {a a2 : Option Addr} {c c2 : Nat} (hrf : refT ts k = some t) (hso : t.sort = 82) (h1 : Seg G b 0 [S k,S [82],.slice a ps.length c,.slice a2 ps.length c2]) (h2 : SlV G (.slice a ps.length c) 1 ps.length (rows inR (ps.map tgP))) (h3 : SlV G (.slice a2 ps.length c2) 1 ps.length (rows ptR (ps.map (·.2)))) (hm : ∀ p ∈ ps,p.1.1 ∈ t.fields ∧ RepR G ts p.1.2 p.1.1.kind p.2) : RepR G ts (.nd 82 [] 0 (ps.map fvP)) k b:=by
 have el : (ps.map (·.1)).length = ps.length:=by simp
 have hn1 : ∀ i,i < ps.length → nth (ps.map (·.1)) i = (nth ps i).1:=fun i hi=>by rw [nth_eq (by simpa using hi),nth_eq hi];simp
 have hn2 : ∀ i,i < ps.length → nth (ps.map (·.2)) i = (nth ps i).2:=fun i hi=>by rw [nth_eq (by simpa using hi),nth_eq hi];simp
 have e3 : (ps.map (·.1)).map (fun p : Fld × V=>p.1.tag) = ps.map tgP:=by rw [List.map_map];rfl
 rw [fvP_map]
 refine RepR.recd k b t (ps.map (·.1)) (ps.map (·.2)) a a2 c c2 ⟨hrf,hso⟩ (by rw [el];exact h1) (by rw [el,e3];exact h2) (by rw [el];exact h3) (by simp) (fun i hi=>?_) (fun i hi=>?_)
 ·rw [el] at hi
  rw [hn1 i hi];exact (hm _ (nth_mem hi)).1
 ·rw [el] at hi
  rw [hn1 i hi,hn2 i hi];exact (hm _ (nth_mem hi)).2
abbrev tIntW : TypeId:=3
abbrev tPtrW : TypeId:=56
section
variable {ts : List Ty} {k : List UInt8} {t : Ty} {b : Nat} {ps : List ((Fld × V) × Nat)} {a a2 : Option Addr} {c c2 : Nat}
theorem c_withN {node : (Fld × V) × Nat} {tag : Int} (hrf : refT ts k = some t) (hso : t.sort = 82) (h1 : Seg G b 0 [S k,S [82],.slice a ps.length c,.slice a2 ps.length c2]) (h2 : SlV G (.slice a ps.length c) 1 ps.length (rows inR (ps.map tgP))) (h3 : SlV G (.slice a2 ps.length c2) 1 ps.length (rows ptR (ps.map (·.2)))) (hm : ∀ p ∈ ps,p.1.1 ∈ t.fields ∧ RepR G ts p.1.2 p.1.1.kind p.2) (h9 : ps.length ≤ 100000) :
  FnS Tryz.prog 88 [Pt b 0,I tag,.pointer none] G (fun r G'=>∃ b',r = Pt b' 0 ∧ RepR G' ts (.nd 82 [] 0 ((putB tgP node tag ps true).map fvP)) k b'):=by
 have htl : (ps.map tgP).length = ps.length:=by simp
 have hbl : (ps.map (·.2)).length = ps.length:=by simp
 refine jB [(0,_),(1,_),(2,_)] Tryz.func88 Tryz.ntmps88 fun B hok hB hW=>?_
 repeat' (first | (refine jR ?_) | (refine jo ?_;(refine jV (g_peq0 rfl rfl) ?_)) | (refine k_any (s_any (id:=1) _ (fun _ h=>h) mixed ?_);refine jT 5 [0,1,2,4,5,6] (bts 11 119) ?_;(refine jG (bts 11 127) 3 rfl (g_ldS rfl rfl aS rfl rfl) ?_);(refine jG (bts 11 255) 7 rfl (g_ldS rfl rfl aS rfl rfl) ?_);(refine jG (bts 11 511) 8 rfl (g_bld rfl rfl) ?_);refine jA 9 rfl ?_;(refine jO fun _=>?_);refine jS (bts 11 1023) ?_;refine jT 0 [10] (bts 11 2047) ?_;refine jQ ?_))
 rename_i x
 refine Nx.addNil tIntW 1 (Nx.addNil tPtrW 1 ?_)
 refine k_loop (ι:=List ((Fld × V) × Nat) × Option Addr × Nat × Option Addr × Nat × Nat) (fun q=>(q.2.2.2.2.2 ≤ ps.length ∧ q.1.length ≤ q.2.2.2.2.2) ∧ putB tgP node tag ps true = q.1 ++ putB tgP node tag (ps.drop q.2.2.2.2.2) true) (fun q=>[(0,Pt b 0),(1,I tag),(7,Pt x 0),(8,Bo true),(9,I q.2.2.2.2.2)]) (fun _=>G) (fun q=>[.acc (.slice q.2.2.2.1 q.1.length q.2.2.2.2.1) tPtrW 1 q.1.length (rows ptR (q.1.map (·.2))),.acc (.slice q.2.1 q.1.length q.2.2.1) tIntW 1 q.1.length (rows inR (q.1.map tgP)),.blk x (.cells (List.toArray [S k,S [82],.slice q.2.1 q.1.length q.2.2.1,.slice q.2.2.2.1 q.1.length q.2.2.2.2.1]) tLv (0,0))]) (fun q=>ps.length - q.2.2.2.2.2) ([],none,0,none,0,0) ?_ tU rfl sRr (fun q Hq=>?_)
 ·exact ⟨⟨Nat.zero_le _,Nat.zero_le _⟩,rfl⟩
 obtain ⟨gs,a3,c3,a4,c4,i⟩:=q
 dsimp only at Hq ⊢
 obtain ⟨⟨hi0,hgl⟩,hinv⟩:=Hq
 by_cases hi : i < ps.length
 ·obtain ⟨xb,xo,xc,e,hs1⟩:=h2.expl oM
  simp only [Value.slice.injEq] at e
  obtain ⟨rfl,-,rfl⟩:=e
  obtain ⟨zb,zo,zc,e,hs2⟩:=h3.expl oM
  simp only [Value.slice.injEq] at e
  obtain ⟨rfl,-,rfl⟩:=e
  have hti : nth (ps.map tgP) i = tgP (nth ps i):=by rw [nth_eq oM,nth_eq hi];simp
  have hxi : nth (ps.map (·.2)) i = (nth ps i).2:=by rw [nth_eq oM,nth_eq hi];simp
  rw [putB_at hi,if_neg (by simp),List.nil_append,Bool.true_or] at hinv
  by_cases hne : tgP (nth ps i) = tag
  ·rw [if_pos hne,List.nil_append] at hinv
   repeat' (first | refine jM ?_ | (refine jo ?_;first | refine jV (g_ldS rfl rfl aS rfl rfl) ?_ | (refine jV (g_ldR1x rfl rfl aS ?_ aS rfl) ?_;(focus ((omega);done))) | refine jV (g_lenL rfl) ?_ | (refine jV (g_iaddrN rfl rfl oM) ?_) | (refine jAf rfl ?_)) | (refine k_gf rfl rfl rfl ?_) | (refine k_tt rfl (dTt oM) ?_) | (refine k_ff rfl (by first | rfl | (refine decide_eq_false ?_;(omega))) ?_))
   exact k_rd (gs,a3,c3,a4,c4,i + 1) ⟨⟨by dsimp only;omega,by dsimp only;omega⟩,hinv⟩ (by dsimp only;omega) tU rfl sRr
  ·rw [if_neg hne,← List.append_assoc] at hinv
   have hl1 : (gs ++ [nth ps i]).length = gs.length + 1:=by simp
   have hr1 : rows inR (gs.map tgP) ++ [I (tgP (nth ps i))] = rows inR ((gs ++ [nth ps i]).map tgP):=by rw [List.map_append];exact (rows_snoc inR _ (tgP (nth ps i))).symm
   have hr2 : rows ptR (gs.map (·.2)) ++ [Pt (nth ps i).2 0] = rows ptR ((gs ++ [nth ps i]).map (·.2)):=by rw [List.map_append];exact (rows_snoc ptR _ (nth ps i).2).symm
   repeat' (first | (refine jR ?_) | (refine jo ?_;first | refine jV (g_ldS rfl rfl aS rfl rfl) ?_ | (refine jV (g_ldR1x rfl rfl aS ?_ aS rfl) ?_;(focus ((omega);done))) | refine jV (g_lenL rfl) ?_ | (refine jV (g_iaddrN rfl rfl oM) ?_) | (refine jAf rfl ?_)) | (refine k_gf rfl rfl rfl ?_) | (refine k_tt rfl (by refine decide_eq_true ?_;first | assumption | omega) ?_) | (refine k_ff rfl rfl ?_))
   (refine k_any (s_any (id:=11) [] (fun _ h=>absurd h (by simp)) mixed ?_);refine jW 9 [0,1,2,3,5,6,7,9] (bts 17 751) ?_;(refine jG (bts 17 1007) 8 rfl (g_ldS rfl rfl aS rfl rfl) ?_);((refine jG (bts 17 2031) 10 rfl (g_iaddrN rfl rfl ?_) ?_;(focus ((omega);done))));((refine jG (bts 17 4079) 11 rfl (g_ldR1x rfl rfl aS ?_ aS rfl) ?_;(focus ((omega);done))));refine x_all [4,12] kR dC ⟨?_,?_,trivial⟩;(focus (refine x_opg rfl rfl ?_;(refine jAl rfl ?_);refine jK (bts 17 4095) ?_;refine jA 12 rfl ?_;(refine jF fun _=>?_);refine jK (bts 17 8191) ?_;refine jA 13 rfl ?_;((refine c_apX rfl rfl rfl rfl rfl rfl rfl rfl rfl ?_ fun _ _=>?_;(focus ((omega);done))));refine jK (bts 17 16383) ?_;refine jW 1 [14,15] (bts 17 65535) ?_;refine jA 16 rfl ?_;(refine jD rfl rfl rfl ?_);refine jK (bts 17 131071) ?_;refine jQ ?_));rotate_left 1;(focus (refine x_opg rfl rfl ?_;(refine jF fun _=>?_);refine jK (bts 17 8175) ?_;refine jA 4 rfl ?_;(refine jAl rfl ?_);refine jK (bts 17 8191) ?_;refine jA 13 rfl ?_;((refine c_apX rfl rfl rfl rfl rfl rfl rfl rfl rfl ?_ fun _ _=>?_;(focus ((omega);done))));refine jK (bts 17 16383) ?_;refine jW 1 [14,15] (bts 17 65535) ?_;refine jA 16 rfl ?_;(refine jD rfl rfl rfl ?_);refine jK (bts 17 131071) ?_;refine jQ ?_));rotate_left 1)
   all_goals repeat' (refine jR ?_)
   all_goals (refine k_any (s_any (id:=12) [] (fun _ h=>absurd h (by simp)) mixed ?_);refine jW 9 [0,1,2,3,5,6,7,9] (bts 17 751) ?_;(refine jG (bts 17 1007) 8 rfl (g_ldS rfl rfl aS rfl rfl) ?_);((refine jG (bts 17 2031) 10 rfl (g_iaddrN rfl rfl ?_) ?_;(focus ((omega);done))));((refine jG (bts 17 4079) 11 rfl (g_ldR1x rfl rfl aS ?_ aS rfl) ?_;(focus ((omega);done))));refine x_all [4,12] kR dC ⟨?_,?_,trivial⟩;(focus (refine x_opg rfl rfl ?_;(refine jAl rfl ?_);refine jK (bts 17 4095) ?_;refine jA 12 rfl ?_;(refine jF fun _=>?_);refine jK (bts 17 8191) ?_;refine jA 13 rfl ?_;((refine c_apX rfl rfl rfl rfl rfl rfl rfl rfl rfl ?_ fun _ _=>?_;(focus ((omega);done))));refine jK (bts 17 16383) ?_;refine jW 1 [14,15] (bts 17 65535) ?_;refine jA 16 rfl ?_;(refine jD rfl rfl rfl ?_);refine jK (bts 17 131071) ?_;refine jQ ?_));rotate_left 1;(focus (refine x_opg rfl rfl ?_;(refine jF fun _=>?_);refine jK (bts 17 8175) ?_;refine jA 4 rfl ?_;(refine jAl rfl ?_);refine jK (bts 17 8191) ?_;refine jA 13 rfl ?_;((refine c_apX rfl rfl rfl rfl rfl rfl rfl rfl rfl ?_ fun _ _=>?_;(focus ((omega);done))));refine jK (bts 17 16383) ?_;refine jW 1 [14,15] (bts 17 65535) ?_;refine jA 16 rfl ?_;(refine jD rfl rfl rfl ?_);refine jK (bts 17 131071) ?_;refine jQ ?_));rotate_left 1)
   all_goals repeat' (refine jM ?_)
   all_goals
    rename_i _ y1 yc1 _ y2 yc2
    rw [hr1,hr2]
    exact k_rd (gs ++ [nth ps i],some ⟨y1,0,none⟩,yc1,some ⟨y2,0,none⟩,yc2,i + 1) ⟨⟨by dsimp only;omega,by dsimp only;omega⟩,hinv⟩ (by dsimp only;omega) tU rfl (by rw [hl1];repeat (first | exact List.Sublist.refl _ | apply List.Sublist.cons_cons | apply List.Sublist.cons))
 ·rw [List.drop_eq_nil_of_le oM,show putB tgP node tag [] true = [] from rfl,List.append_nil] at hinv
  repeat' (first | (refine jR ?_) | (refine jo ?_;first | refine jV (g_ldS rfl rfl aS rfl rfl) ?_ | refine jV (g_lenL rfl) ?_) | (refine k_ff rfl (by first | rfl | (refine decide_eq_false ?_;(omega))) ?_))
  refine Nx.sealS (v:=.slice a3 gs.length c3) fun G2 hG2 hs1=>?_
  refine Nx.sealS (v:=.slice a4 gs.length c4) fun G3 hG3 hs2=>?_
  refine Nx.sealC (b:=x) fun G4 hG4 hsg=>?_
  refine jZ (vs:=[_]) rfl ⟨rfl,trivial⟩ rfl ⟨((hG2.trans hG3).trans hG4),rfl,?_⟩
  rw [hinv]
  exact ⟨x,rfl,recd_mk hrf hso hsg ((hs1.mono hG3).mono hG4) (hs2.mono hG4) fun p hp=>by
   rw [← hinv] at hp
   have hp:=putB_memT hp
   exact ⟨(hm p hp).1,((hm p hp).2).mono ((hG2.trans hG3).trans hG4)⟩⟩
theorem c_withY {f : Fld} {z : V} {zb : Nat} (hrf : refT ts k = some t) (hso : t.sort = 82) (h1 : Seg G b 0 [S k,S [82],.slice a ps.length c,.slice a2 ps.length c2]) (h2 : SlV G (.slice a ps.length c) 1 ps.length (rows inR (ps.map tgP))) (h3 : SlV G (.slice a2 ps.length c2) 1 ps.length (rows ptR (ps.map (·.2)))) (hm : ∀ p ∈ ps,p.1.1 ∈ t.fields ∧ RepR G ts p.1.2 p.1.1.kind p.2) (h9 : ps.length ≤ 100000) (hf : f ∈ t.fields) (hz : RepR G ts z f.kind zb) :
  FnS Tryz.prog 88 [Pt b 0,I f.tag,Pt zb 0] G (fun r G'=>∃ b',r = Pt b' 0 ∧ RepR G' ts (.nd 82 [] 0 ((putB tgP ((f,z),zb) f.tag ps false).map fvP)) k b'):=by
 have htl : (ps.map tgP).length = ps.length:=by simp
 have hbl : (ps.map (·.2)).length = ps.length:=by simp
 have hnd : tgP ((f,z),zb) = f.tag:=rfl
 have hap1 : ∀ (gs : List ((Fld × V) × Nat)) (p : (Fld × V) × Nat),rows inR (gs.map tgP) ++ [I (tgP p)] = rows inR ((gs ++ [p]).map tgP):=fun gs p=>by rw [List.map_append];exact (rows_snoc inR _ (tgP p)).symm
 have hap2 : ∀ (gs : List ((Fld × V) × Nat)) (p : (Fld × V) × Nat),rows ptR (gs.map (·.2)) ++ [Pt p.2 0] = rows ptR ((gs ++ [p]).map (·.2)):=fun gs p=>by rw [List.map_append];exact (rows_snoc ptR _ p.2).symm
 have hmem : ∀ {G' : Gh} {p : (Fld × V) × Nat},Gh.le G G' → p ∈ putB tgP ((f,z),zb) f.tag ps false → p.1.1 ∈ t.fields ∧ RepR G' ts p.1.2 p.1.1.kind p.2:=fun hle hp=>by
  rcases putB_mem hp with rfl | hp
  ·exact ⟨hf,hz.mono hle⟩
  ·exact ⟨(hm _ hp).1,((hm _ hp).2).mono hle⟩
 refine jB [(0,_),(1,_),(2,_)] Tryz.func88 Tryz.ntmps88 fun B hok hB hW=>?_
 repeat' (first | (refine jR ?_) | (refine jo ?_;(refine jV (g_peq0 rfl rfl) ?_)) | (refine k_any (s_any (id:=1) _ (fun _ h=>h) mixed ?_);refine jT 5 [0,1,2,4,5,6] (bts 11 119) ?_;(refine jG (bts 11 127) 3 rfl (g_ldS rfl rfl aS rfl rfl) ?_);(refine jG (bts 11 255) 7 rfl (g_ldS rfl rfl aS rfl rfl) ?_);(refine jG (bts 11 511) 8 rfl (g_bld rfl rfl) ?_);refine jA 9 rfl ?_;(refine jO fun _=>?_);refine jS (bts 11 1023) ?_;refine jT 0 [10] (bts 11 2047) ?_;refine jQ ?_))
 rename_i x
 refine Nx.addNil tIntW 1 (Nx.addNil tPtrW 1 ?_)
 refine k_loop (ι:=List ((Fld × V) × Nat) × Option Addr × Nat × Option Addr × Nat × Bool × Nat) (fun q=>(q.2.2.2.2.2.2 ≤ ps.length ∧ q.1.length ≤ 2 * q.2.2.2.2.2.2 + 1) ∧ putB tgP ((f,z),zb) f.tag ps false = q.1 ++ putB tgP ((f,z),zb) f.tag (ps.drop q.2.2.2.2.2.2) q.2.2.2.2.2.1) (fun q=>[(0,Pt b 0),(1,I f.tag),(2,Pt zb 0),(7,Pt x 0),(8,Bo q.2.2.2.2.2.1),(9,I q.2.2.2.2.2.2)]) (fun _=>G) (fun q=>[.acc (.slice q.2.2.2.1 q.1.length q.2.2.2.2.1) tPtrW 1 q.1.length (rows ptR (q.1.map (·.2))),.acc (.slice q.2.1 q.1.length q.2.2.1) tIntW 1 q.1.length (rows inR (q.1.map tgP)),.blk x (.cells (List.toArray [S k,S [82],.slice q.2.1 q.1.length q.2.2.1,.slice q.2.2.2.1 q.1.length q.2.2.2.2.1]) tLv (0,0))]) (fun q=>ps.length - q.2.2.2.2.2.2) ([],none,0,none,0,false,0) ?_ tU rfl sRr (fun q Hq=>?_)
 ·exact ⟨⟨Nat.zero_le _,Nat.zero_le _⟩,rfl⟩
 obtain ⟨gs,a3,c3,a4,c4,d,i⟩:=q
 dsimp only at Hq ⊢
 obtain ⟨⟨hi0,hgl⟩,hinv⟩:=Hq
 by_cases hi : i < ps.length
 ·obtain ⟨xb,xo,xc,e,hs1⟩:=h2.expl oM
  simp only [Value.slice.injEq] at e
  obtain ⟨rfl,-,rfl⟩:=e
  obtain ⟨zc,zo,zd,e,hs2⟩:=h3.expl oM
  simp only [Value.slice.injEq] at e
  obtain ⟨rfl,-,rfl⟩:=e
  have hti : nth (ps.map tgP) i = tgP (nth ps i):=by rw [nth_eq oM,nth_eq hi];simp
  have hxi : nth (ps.map (·.2)) i = (nth ps i).2:=by rw [nth_eq oM,nth_eq hi];simp
  rw [putB_at hi] at hinv
  have hl1 : (gs ++ [nth ps i]).length = gs.length + 1:=by simp
  have hl2 : (gs ++ [((f,z),zb)] ++ [nth ps i]).length = gs.length + 1 + 1:=by simp
  cases d with
  | true =>
   rw [if_neg (by simp),List.nil_append,Bool.true_or] at hinv
   by_cases hne : tgP (nth ps i) = f.tag
   ·rw [if_pos hne,List.nil_append] at hinv
    repeat' (first | refine jM ?_ | (refine jo ?_;first | refine jV (g_ldS rfl rfl aS rfl rfl) ?_ | (refine jV (g_ldR1x rfl rfl aS ?_ aS rfl) ?_;(focus ((omega);done))) | refine jV (g_lenL rfl) ?_ | (refine jV (g_iaddrN rfl rfl oM) ?_) | (refine jAf rfl ?_)) | (refine k_gf rfl rfl rfl ?_) | (refine k_tt rfl (dTt oM) ?_) | (refine k_ff rfl (by first | rfl | (refine decide_eq_false ?_;(omega))) ?_))
    exact k_rd (gs,a3,c3,a4,c4,true,i + 1) ⟨⟨by dsimp only;omega,by dsimp only;omega⟩,hinv⟩ (by dsimp only;omega) tU rfl sRr
   ·rw [if_neg hne,← List.append_assoc] at hinv
    repeat' (first | (refine jR ?_) | (refine jo ?_;first | refine jV (g_ldS rfl rfl aS rfl rfl) ?_ | (refine jV (g_ldR1x rfl rfl aS ?_ aS rfl) ?_;(focus ((omega);done))) | refine jV (g_lenL rfl) ?_ | (refine jV (g_iaddrN rfl rfl oM) ?_) | (refine jAf rfl ?_)) | (refine k_gf rfl rfl rfl ?_) | (refine k_tt rfl (by refine decide_eq_true ?_;first | assumption | omega) ?_) | (refine k_ff rfl rfl ?_))
    (refine k_any (s_any (id:=11) [] (fun _ h=>absurd h (by simp)) mixed ?_);refine jW 9 [0,1,2,3,5,6,7,9] (bts 17 751) ?_;(refine jG (bts 17 1007) 8 rfl (g_ldS rfl rfl aS rfl rfl) ?_);((refine jG (bts 17 2031) 10 rfl (g_iaddrN rfl rfl ?_) ?_;(focus ((omega);done))));((refine jG (bts 17 4079) 11 rfl (g_ldR1x rfl rfl aS ?_ aS rfl) ?_;(focus ((omega);done))));refine x_all [4,12] kR dC ⟨?_,?_,trivial⟩;(focus (refine x_opg rfl rfl ?_;(refine jAl rfl ?_);refine jK (bts 17 4095) ?_;refine jA 12 rfl ?_;(refine jF fun _=>?_);refine jK (bts 17 8191) ?_;refine jA 13 rfl ?_;((refine c_apX rfl rfl rfl rfl rfl rfl rfl rfl rfl ?_ fun _ _=>?_;(focus ((omega);done))));refine jK (bts 17 16383) ?_;refine jW 1 [14,15] (bts 17 65535) ?_;refine jA 16 rfl ?_;(refine jD rfl rfl rfl ?_);refine jK (bts 17 131071) ?_;refine jQ ?_));rotate_left 1;(focus (refine x_opg rfl rfl ?_;(refine jF fun _=>?_);refine jK (bts 17 8175) ?_;refine jA 4 rfl ?_;(refine jAl rfl ?_);refine jK (bts 17 8191) ?_;refine jA 13 rfl ?_;((refine c_apX rfl rfl rfl rfl rfl rfl rfl rfl rfl ?_ fun _ _=>?_;(focus ((omega);done))));refine jK (bts 17 16383) ?_;refine jW 1 [14,15] (bts 17 65535) ?_;refine jA 16 rfl ?_;(refine jD rfl rfl rfl ?_);refine jK (bts 17 131071) ?_;refine jQ ?_));rotate_left 1)
    all_goals repeat' (refine jR ?_)
    all_goals (refine k_any (s_any (id:=12) [] (fun _ h=>absurd h (by simp)) mixed ?_);refine jW 9 [0,1,2,3,5,6,7,9] (bts 17 751) ?_;(refine jG (bts 17 1007) 8 rfl (g_ldS rfl rfl aS rfl rfl) ?_);((refine jG (bts 17 2031) 10 rfl (g_iaddrN rfl rfl ?_) ?_;(focus ((omega);done))));((refine jG (bts 17 4079) 11 rfl (g_ldR1x rfl rfl aS ?_ aS rfl) ?_;(focus ((omega);done))));refine x_all [4,12] kR dC ⟨?_,?_,trivial⟩;(focus (refine x_opg rfl rfl ?_;(refine jAl rfl ?_);refine jK (bts 17 4095) ?_;refine jA 12 rfl ?_;(refine jF fun _=>?_);refine jK (bts 17 8191) ?_;refine jA 13 rfl ?_;((refine c_apX rfl rfl rfl rfl rfl rfl rfl rfl rfl ?_ fun _ _=>?_;(focus ((omega);done))));refine jK (bts 17 16383) ?_;refine jW 1 [14,15] (bts 17 65535) ?_;refine jA 16 rfl ?_;(refine jD rfl rfl rfl ?_);refine jK (bts 17 131071) ?_;refine jQ ?_));rotate_left 1;(focus (refine x_opg rfl rfl ?_;(refine jF fun _=>?_);refine jK (bts 17 8175) ?_;refine jA 4 rfl ?_;(refine jAl rfl ?_);refine jK (bts 17 8191) ?_;refine jA 13 rfl ?_;((refine c_apX rfl rfl rfl rfl rfl rfl rfl rfl rfl ?_ fun _ _=>?_;(focus ((omega);done))));refine jK (bts 17 16383) ?_;refine jW 1 [14,15] (bts 17 65535) ?_;refine jA 16 rfl ?_;(refine jD rfl rfl rfl ?_);refine jK (bts 17 131071) ?_;refine jQ ?_));rotate_left 1)
    all_goals repeat' (refine jM ?_)
    all_goals
     rename_i _ y1 yc1 _ y2 yc2
     rw [hap1,hap2]
     exact k_rd (gs ++ [nth ps i],some ⟨y1,0,none⟩,yc1,some ⟨y2,0,none⟩,yc2,true,i + 1) ⟨⟨by dsimp only;omega,by dsimp only;omega⟩,hinv⟩ (by dsimp only;omega) tU rfl (by rw [hl1];repeat (first | exact List.Sublist.refl _ | apply List.Sublist.cons_cons | apply List.Sublist.cons))
  | false =>
   rw [Bool.false_or] at hinv
   by_cases hgt : f.tag < tgP (nth ps i)
   ·rw [if_pos ⟨hgt,rfl⟩,decide_eq_true hgt,if_neg oM,← List.append_assoc,← List.append_assoc] at hinv
    have hne : ¬ tgP (nth ps i) = f.tag:=oM
    repeat' (first | (refine jR ?_) | (refine jo ?_;first | refine jAl rfl ?_ | refine jV (g_ldS rfl rfl aS rfl rfl) ?_ | (refine jV (g_ldR1x rfl rfl aS ?_ aS rfl) ?_;(focus ((omega);done))) | refine jV (g_lenL rfl) ?_ | (refine jV (g_iaddrN rfl rfl oM) ?_) | (refine jAt rfl ?_) | refine jF fun _=>?_ | (refine c_apX rfl rfl rfl rfl rfl rfl rfl rfl rfl oM fun _ _=>?_) | refine jD rfl rfl rfl ?_) | (refine k_gt rfl rfl rfl ?_) | (refine k_tt rfl (by refine decide_eq_true ?_;first | assumption | omega) ?_))
    (refine k_any (s_any (id:=11) [] (fun _ h=>absurd h (by simp)) mixed ?_);refine jW 9 [0,1,2,3,5,6,7,9] (bts 17 751) ?_;(refine jG (bts 17 1007) 8 rfl (g_ldS rfl rfl aS rfl rfl) ?_);((refine jG (bts 17 2031) 10 rfl (g_iaddrN rfl rfl ?_) ?_;(focus ((omega);done))));((refine jG (bts 17 4079) 11 rfl (g_ldR1x rfl rfl aS ?_ aS rfl) ?_;(focus ((omega);done))));refine x_all [4,12] kR dC ⟨?_,?_,trivial⟩;(focus (refine x_opg rfl rfl ?_;(refine jAl rfl ?_);refine jK (bts 17 4095) ?_;refine jA 12 rfl ?_;(refine jF fun _=>?_);refine jK (bts 17 8191) ?_;refine jA 13 rfl ?_;((refine c_apX rfl rfl rfl rfl rfl rfl rfl rfl rfl ?_ fun _ _=>?_;(focus ((omega);done))));refine jK (bts 17 16383) ?_;refine jW 1 [14,15] (bts 17 65535) ?_;refine jA 16 rfl ?_;(refine jD rfl rfl rfl ?_);refine jK (bts 17 131071) ?_;refine jQ ?_));rotate_left 1;(focus (refine x_opg rfl rfl ?_;(refine jF fun _=>?_);refine jK (bts 17 8175) ?_;refine jA 4 rfl ?_;(refine jAl rfl ?_);refine jK (bts 17 8191) ?_;refine jA 13 rfl ?_;((refine c_apX rfl rfl rfl rfl rfl rfl rfl rfl rfl ?_ fun _ _=>?_;(focus ((omega);done))));refine jK (bts 17 16383) ?_;refine jW 1 [14,15] (bts 17 65535) ?_;refine jA 16 rfl ?_;(refine jD rfl rfl rfl ?_);refine jK (bts 17 131071) ?_;refine jQ ?_));rotate_left 1)
    all_goals repeat' (refine jR ?_)
    all_goals (refine k_any (s_any (id:=12) [] (fun _ h=>absurd h (by simp)) mixed ?_);refine jW 9 [0,1,2,3,5,6,7,9] (bts 17 751) ?_;(refine jG (bts 17 1007) 8 rfl (g_ldS rfl rfl aS rfl rfl) ?_);((refine jG (bts 17 2031) 10 rfl (g_iaddrN rfl rfl ?_) ?_;(focus ((omega);done))));((refine jG (bts 17 4079) 11 rfl (g_ldR1x rfl rfl aS ?_ aS rfl) ?_;(focus ((omega);done))));refine x_all [4,12] kR dC ⟨?_,?_,trivial⟩;(focus (refine x_opg rfl rfl ?_;(refine jAl rfl ?_);refine jK (bts 17 4095) ?_;refine jA 12 rfl ?_;(refine jF fun _=>?_);refine jK (bts 17 8191) ?_;refine jA 13 rfl ?_;((refine c_apX rfl rfl rfl rfl rfl rfl rfl rfl rfl ?_ fun _ _=>?_;(focus ((omega);done))));refine jK (bts 17 16383) ?_;refine jW 1 [14,15] (bts 17 65535) ?_;refine jA 16 rfl ?_;(refine jD rfl rfl rfl ?_);refine jK (bts 17 131071) ?_;refine jQ ?_));rotate_left 1;(focus (refine x_opg rfl rfl ?_;(refine jF fun _=>?_);refine jK (bts 17 8175) ?_;refine jA 4 rfl ?_;(refine jAl rfl ?_);refine jK (bts 17 8191) ?_;refine jA 13 rfl ?_;((refine c_apX rfl rfl rfl rfl rfl rfl rfl rfl rfl ?_ fun _ _=>?_;(focus ((omega);done))));refine jK (bts 17 16383) ?_;refine jW 1 [14,15] (bts 17 65535) ?_;refine jA 16 rfl ?_;(refine jD rfl rfl rfl ?_);refine jK (bts 17 131071) ?_;refine jQ ?_));rotate_left 1)
    all_goals repeat' (refine jM ?_)
    all_goals
     rename_i _ y1 yc1 _ y2 yc2 _ y3 yc3 _ y4 yc4
     rw [show rows inR (gs.map tgP) ++ [I f.tag] = rows inR ((gs ++ [((f,z),zb)]).map tgP) from hap1 gs ((f,z),zb),show rows ptR (gs.map (·.2)) ++ [Pt zb 0] = rows ptR ((gs ++ [((f,z),zb)]).map (·.2)) from hap2 gs ((f,z),zb),hap1,hap2]
     exact k_rd (gs ++ [((f,z),zb)] ++ [nth ps i],some ⟨y3,0,none⟩,yc3,some ⟨y4,0,none⟩,yc4,true,i + 1) ⟨⟨by dsimp only;omega,by dsimp only;omega⟩,hinv⟩ (by dsimp only;omega) tU rfl (by rw [hl2];repeat (first | exact List.Sublist.refl _ | apply List.Sublist.cons_cons | apply List.Sublist.cons))
   ·rw [if_neg (by simp [hgt]),decide_eq_false hgt,List.nil_append] at hinv
    by_cases hne : tgP (nth ps i) = f.tag
    ·rw [if_pos hne,List.nil_append] at hinv
     repeat' (first | refine jM ?_ | (refine jo ?_;first | refine jV (g_ldS rfl rfl aS rfl rfl) ?_ | (refine jV (g_ldR1x rfl rfl aS ?_ aS rfl) ?_;(focus ((omega);done))) | refine jV (g_lenL rfl) ?_ | (refine jV (g_iaddrN rfl rfl oM) ?_) | (refine jAt rfl ?_)) | (refine k_gt rfl rfl rfl ?_) | (refine k_tt rfl (dTt oM) ?_) | (refine k_ff rfl (by refine decide_eq_false ?_;first | assumption | omega) ?_))
     exact k_rd (gs,a3,c3,a4,c4,false,i + 1) ⟨⟨by dsimp only;omega,by dsimp only;omega⟩,hinv⟩ (by dsimp only;omega) tU rfl sRr
    ·rw [if_neg hne,← List.append_assoc] at hinv
     repeat' (first | (refine jR ?_) | (refine jo ?_;first | refine jV (g_ldS rfl rfl aS rfl rfl) ?_ | (refine jV (g_ldR1x rfl rfl aS ?_ aS rfl) ?_;(focus ((omega);done))) | refine jV (g_lenL rfl) ?_ | (refine jV (g_iaddrN rfl rfl oM) ?_) | (refine jAt rfl ?_)) | (refine k_gt rfl rfl rfl ?_) | (refine k_tt rfl (by refine decide_eq_true ?_;first | assumption | omega) ?_) | (refine k_ff rfl (dFf ‹_›) ?_))
     (refine k_any (s_any (id:=11) [] (fun _ h=>absurd h (by simp)) mixed ?_);refine jW 9 [0,1,2,3,5,6,7,9] (bts 17 751) ?_;(refine jG (bts 17 1007) 8 rfl (g_ldS rfl rfl aS rfl rfl) ?_);((refine jG (bts 17 2031) 10 rfl (g_iaddrN rfl rfl ?_) ?_;(focus ((omega);done))));((refine jG (bts 17 4079) 11 rfl (g_ldR1x rfl rfl aS ?_ aS rfl) ?_;(focus ((omega);done))));refine x_all [4,12] kR dC ⟨?_,?_,trivial⟩;(focus (refine x_opg rfl rfl ?_;(refine jAl rfl ?_);refine jK (bts 17 4095) ?_;refine jA 12 rfl ?_;(refine jF fun _=>?_);refine jK (bts 17 8191) ?_;refine jA 13 rfl ?_;((refine c_apX rfl rfl rfl rfl rfl rfl rfl rfl rfl ?_ fun _ _=>?_;(focus ((omega);done))));refine jK (bts 17 16383) ?_;refine jW 1 [14,15] (bts 17 65535) ?_;refine jA 16 rfl ?_;(refine jD rfl rfl rfl ?_);refine jK (bts 17 131071) ?_;refine jQ ?_));rotate_left 1;(focus (refine x_opg rfl rfl ?_;(refine jF fun _=>?_);refine jK (bts 17 8175) ?_;refine jA 4 rfl ?_;(refine jAl rfl ?_);refine jK (bts 17 8191) ?_;refine jA 13 rfl ?_;((refine c_apX rfl rfl rfl rfl rfl rfl rfl rfl rfl ?_ fun _ _=>?_;(focus ((omega);done))));refine jK (bts 17 16383) ?_;refine jW 1 [14,15] (bts 17 65535) ?_;refine jA 16 rfl ?_;(refine jD rfl rfl rfl ?_);refine jK (bts 17 131071) ?_;refine jQ ?_));rotate_left 1)
     all_goals repeat' (refine jR ?_)
     all_goals (refine k_any (s_any (id:=12) [] (fun _ h=>absurd h (by simp)) mixed ?_);refine jW 9 [0,1,2,3,5,6,7,9] (bts 17 751) ?_;(refine jG (bts 17 1007) 8 rfl (g_ldS rfl rfl aS rfl rfl) ?_);((refine jG (bts 17 2031) 10 rfl (g_iaddrN rfl rfl ?_) ?_;(focus ((omega);done))));((refine jG (bts 17 4079) 11 rfl (g_ldR1x rfl rfl aS ?_ aS rfl) ?_;(focus ((omega);done))));refine x_all [4,12] kR dC ⟨?_,?_,trivial⟩;(focus (refine x_opg rfl rfl ?_;(refine jAl rfl ?_);refine jK (bts 17 4095) ?_;refine jA 12 rfl ?_;(refine jF fun _=>?_);refine jK (bts 17 8191) ?_;refine jA 13 rfl ?_;((refine c_apX rfl rfl rfl rfl rfl rfl rfl rfl rfl ?_ fun _ _=>?_;(focus ((omega);done))));refine jK (bts 17 16383) ?_;refine jW 1 [14,15] (bts 17 65535) ?_;refine jA 16 rfl ?_;(refine jD rfl rfl rfl ?_);refine jK (bts 17 131071) ?_;refine jQ ?_));rotate_left 1;(focus (refine x_opg rfl rfl ?_;(refine jF fun _=>?_);refine jK (bts 17 8175) ?_;refine jA 4 rfl ?_;(refine jAl rfl ?_);refine jK (bts 17 8191) ?_;refine jA 13 rfl ?_;((refine c_apX rfl rfl rfl rfl rfl rfl rfl rfl rfl ?_ fun _ _=>?_;(focus ((omega);done))));refine jK (bts 17 16383) ?_;refine jW 1 [14,15] (bts 17 65535) ?_;refine jA 16 rfl ?_;(refine jD rfl rfl rfl ?_);refine jK (bts 17 131071) ?_;refine jQ ?_));rotate_left 1)
     all_goals repeat' (refine jM ?_)
     all_goals
      rename_i _ y1 yc1 _ y2 yc2
      rw [hap1,hap2]
      exact k_rd (gs ++ [nth ps i],some ⟨y1,0,none⟩,yc1,some ⟨y2,0,none⟩,yc2,false,i + 1) ⟨⟨by dsimp only;omega,by dsimp only;omega⟩,hinv⟩ (by dsimp only;omega) tU rfl (by rw [hl1];repeat (first | exact List.Sublist.refl _ | apply List.Sublist.cons_cons | apply List.Sublist.cons))
 ·rw [List.drop_eq_nil_of_le oM] at hinv
  cases d with
  | true =>
   rw [show putB tgP ((f,z),zb) f.tag [] true = [] from rfl,List.append_nil] at hinv
   repeat' (first | (refine jR ?_) | (refine jo ?_;first | refine jV (g_ldS rfl rfl aS rfl rfl) ?_ | refine jV (g_lenL rfl) ?_) | (refine k_ff rfl (by first | rfl | (refine decide_eq_false ?_;(omega))) ?_))
   refine Nx.sealS (v:=.slice a3 gs.length c3) fun G2 hG2 hs1=>?_
   refine Nx.sealS (v:=.slice a4 gs.length c4) fun G3 hG3 hs2=>?_
   refine Nx.sealC (b:=x) fun G4 hG4 hsg=>?_
   refine jZ (vs:=[_]) rfl ⟨rfl,trivial⟩ rfl ⟨((hG2.trans hG3).trans hG4),rfl,?_⟩
   exact ⟨x,rfl,by rw [hinv];exact recd_mk hrf hso hsg ((hs1.mono hG3).mono hG4) (hs2.mono hG4) fun p hp=>hmem ((hG2.trans hG3).trans hG4) (by rw [hinv];exact hp)⟩
  | false =>
   rw [show putB tgP ((f,z),zb) f.tag [] false = [((f,z),zb)] from rfl] at hinv
   have hl1 : (gs ++ [((f,z),zb)]).length = gs.length + 1:=by simp
   repeat' (first | (refine jR ?_) | (refine jo ?_;first | refine jAl rfl ?_ | refine jV (g_ldS rfl rfl aS rfl rfl) ?_ | refine jV (g_lenL rfl) ?_ | refine jF fun _=>?_ | (refine c_apX rfl rfl rfl rfl rfl rfl rfl rfl rfl oM fun _ _=>?_) | refine jD rfl rfl rfl ?_) | (refine k_tt rfl rfl ?_) | (refine k_ff rfl (dFf oM) ?_))
   rename_i _ y1 yc1 _ y2 yc2
   rw [show rows inR (gs.map tgP) ++ [I f.tag] = rows inR ((gs ++ [((f,z),zb)]).map tgP) from hap1 gs ((f,z),zb),show rows ptR (gs.map (·.2)) ++ [Pt zb 0] = rows ptR ((gs ++ [((f,z),zb)]).map (·.2)) from hap2 gs ((f,z),zb),← hl1]
   refine Nx.sealS (v:=.slice (some ⟨y1,0,none⟩) (gs ++ [((f,z),zb)]).length yc1) fun G2 hG2 hs1=>?_
   refine Nx.sealS (v:=.slice (some ⟨y2,0,none⟩) (gs ++ [((f,z),zb)]).length yc2) fun G3 hG3 hs2=>?_
   refine Nx.sealC (b:=x) fun G4 hG4 hsg=>?_
   refine jZ (vs:=[_]) rfl ⟨rfl,trivial⟩ rfl ⟨((hG2.trans hG3).trans hG4),rfl,?_⟩
   exact ⟨x,rfl,by rw [hinv];exact recd_mk hrf hso hsg ((hs1.mono hG3).mono hG4) (hs2.mono hG4) fun p hp=>hmem ((hG2.trans hG3).trans hG4) (by rw [hinv];exact hp)⟩
end
end Go.E
namespace Go.E
set_option maxRecDepth 20000
set_option maxHeartbeats 2000000
open Go.Proofs
variable {G : Gh}
theorem putB_put {ts : List Ty} {f : Fld} {z : V} {zb : Nat} {ps : List ((Fld × V) × Nat)} {vs : List V} (e : vs = ps.map fvP) (hs : Srt vs) {d : Bool} (hd : d = decide (z.out = standF ts f)) : (putB tgP ((f,z),zb) f.tag ps d).map fvP = putF ts f z vs:=by
 rw [putB_map (tg:=tgP) (tg':=V.tag) (h:=fvP) (fun _=>rfl),← e,hd]
 exact putB_eq hs
theorem cut_ints {b o c : Nat} {n : Int} {p : List Int} (h : SlV G (.slice (some ⟨b,o,none⟩) (n :: p).length c) 1 (n :: p).length (rows inR (n :: p))) : SlV G (.slice (some ⟨b,slO o c (Int.toNat 1) 1,none⟩) ((n :: p).length - Int.toNat 1) (c - Int.toNat 1)) 1 p.length (rows inR p):=by
 have h1:=h.cutAt (m:=Int.toNat 1) (by show 1 ≤ p.length + 1;omega)
 exact h1
theorem nth_set {α : Type} [Inhabited α] {l : List α} {m i : Nat} {x : α} (hi : i < l.length) : nth (l.set m x) i = if m = i then x else nth l i:=by
 rw [nth_eq (by rw [List.length_set];exact hi),nth_eq hi,List.getElem_set]
theorem slv_cap {b o m c sz : Nat} {xs : List Value} (h : SlV G (.slice (some ⟨b,o,none⟩) m c) sz m xs) (hm : 1 ≤ m) : 1 ≤ c:=by
 obtain ⟨_,⟨h2,_⟩ | ⟨b',o',c',e,hc,_⟩⟩:=h
 ·cases h2
 ·simp only [Value.slice.injEq] at e
  omega
abbrev tPtrS : TypeId:=56
section
variable {u : Value} {vs : List TyX} {k1 : List UInt8} {v1 z : V} {n : Int} {p : List Int} {pb po pc b yb : Nat}
theorem c_setRec (h : SchR G u vs) (hw : SchW (tys vs)) {k : List UInt8} {fs : List (Fld × V)} {t : Ty} {f : Fld} (hki : kindIn (tys vs) k = true) (hrf : refT (tys vs) k = some t) (hg : fldT t.fields n = some f) (hk1 : k1 = f.kind) (hsr : Srt (fs.map fldV)) (hfs : fs.length ≤ 100000) (hn : 0 ≤ n ∧ n ≤ 999999) (hp : SlV G (.slice (some ⟨pb,po,none⟩) (n :: p).length pc) 1 (n :: p).length (rows inR (n :: p)))
  (hr : RepR G (tys vs) (.nd 82 [] 0 (fs.map fldV)) k b) (hpl : p.length ≤ 100) (hzt : z.tot ≤ 10000000000)
  (cx_sty : FnS Tryz.prog 63 [u,Pt b 0,I n] G (fun r G'=>∃ b',r = Tu [Pt b' 0,Bo true] ∧ RepR G' (tys vs) v1 k1 b'))
  (ihz : ∀ {G2 : Gh} {b1 : Nat},Gh.le G G2 → RepR G2 (tys vs) v1 k1 b1 → FnS Tryz.prog 51 [u,Pt b1 0,.slice (some ⟨pb,slO po pc (Int.toNat 1) 1,none⟩) ((n :: p).length - Int.toNat 1) (pc - Int.toNat 1),Pt yb 0] G2 (fun r G'=>∃ b',r = Tu [Pt b' 0,Bo true] ∧ RepR G' (tys vs) z k1 b')) :
  FnS Tryz.prog 51 [u,Pt b 0,.slice (some ⟨pb,po,none⟩) (n :: p).length pc,Pt yb 0] G (fun r G'=>∃ b',r = Tu [Pt b' 0,Bo true] ∧ RepR G' (tys vs) (.nd 82 [] 0 (putF (tys vs) f z (fs.map fldV))) k b'):=by
 have hu:=h.sl.one
 obtain ⟨ua,uc,rfl⟩:=h.sl.sl
 obtain ⟨hso,ps,a,a2,c,c2,e,h1,h2,h3,hm⟩:=recd_inv hr hrf
 have hTW:=hw.ty _ (refT_mem hrf)
 have hkk:=kindOk_kOk (kindIn_ok hki)
 obtain ⟨r,rfl⟩:=refT_64 hrf
 have hk0 : bt (64 :: r) (Int.toNat 0) = 64:=bt_zero 64 r
 have hkl2 : (64 :: r).length = r.length + 1:=rfl
 have hpl0 : (n :: p).length = p.length + 1:=rfl
 have hti : nth (n :: p) (Int.toNat 0) = n:=rfl
 have hvl : vs.length ≤ 8:=by have:=hw.len;unfold tys at this;simpa using this
 have href:=refV_ty vs (64 :: r)
 rcases hrv : refV vs (64 :: r) with _ | x
 ·rw [hrv,hrf] at href;cases href
 rw [hrv] at href
 have htx : x.2 = t:=by rw [hrf] at href;exact Option.some.inj href
 subst htx
 have hxm:=refV_mem hrv
 have hfl:=hTW.len
 obtain ⟨hft,hfm⟩:=fldT_tag' hg
 have hdk : kindIn (tys vs) f.kind = true:=kind_in hw (refT_mem hrf) oM hfm
 have hpsl : ps.length ≤ 100000:=by
  have e1 : (fs.map fldV).length = ps.length:=by rw [e];simp
  simp at e1;omega
 obtain ⟨G0,rfl⟩ : ∃ G0,G0 = G:=⟨G,rfl⟩
 have hg0 : Gh.le G0 G0:=Gh.le.refl _
 have hsx : Seg G0 pb po (rows inR (n :: p)):=by
  obtain ⟨b',o',c',e',hs'⟩:=hp.expl (by simp)
  simp only [Value.slice.injEq,Option.some.injEq,Addr.mk.injEq] at e'
  obtain ⟨⟨rfl,rfl,_⟩,_,rfl⟩:=e'
  exact hs'
 refine jB [(0,_),(1,_),(2,_),(3,_)] Tryz.func51 Tryz.ntmps51 fun B hok hB hW=>?_
 repeat' (first | (refine jR ?_) | (refine jo ?_;first | refine jV (g_lenL rfl) ?_ | (refine jV (g_iaddr rfl rfl oM) ?_) | (refine jV (g_ldRFx rfl rfl aS ?_ aS rfl rfl) ?_;(focus ((omega);done))) | (refine jV (g_slV rfl rfl oM) ?_) | (refine c_fns rfl rfl rfl cx_sty rfl ?_;rintro _ G hle ⟨b1,rfl,hrep1⟩;(have hg0:=hg0.trans hle);(have h1:=h1.mono hle);(have h2:=h2.mono hle);(have h3:=h3.mono hle);(have h:=h.mono hle);(try have hrep1:=RepR.mono hle hrep1);(try have hrepz:=RepR.mono hle hrepz))) | (refine k_ff rfl rfl ?_))
 have cx_set:=ihz hg0 hrep1
 repeat' (first | refine jM ?_ | (refine jo ?_;first | refine jV (g_ldS rfl rfl aS rfl rfl) ?_ | (refine jAt rfl ?_) | (refine c_fns rfl rfl rfl cx_set rfl ?_;rintro _ G hle ⟨bz,rfl,hrepz⟩;(have hg0:=hg0.trans hle);(have h1:=h1.mono hle);(have h2:=h2.mono hle);(have h3:=h3.mono hle);(have h:=h.mono hle);(try have hrep1:=RepR.mono hle hrep1);(try have hrepz:=RepR.mono hle hrepz))) | (refine k_gt rfl rfl rfl ?_) | (refine k_tt rfl rfl ?_) | (refine k_ff rfl rfl ?_))
 have cx_rf:=c_ref (k:=64 :: r) h oM hkk.1 oM
 rw [hrv] at cx_rf
 have cx_rec:=c_l4Record (n:=n) hu (h.fl x hxm) oM cx_rf hso
 rw [hg] at cx_rec
 simp only [Option.getD_some,Option.isSome_some] at cx_rec
 have cx_out:=c_outS hw hrepz oM
 have cx_sta:=c_standS (f:=f) h hw hdk
 subst hk1
 have hm2 : ∀ q ∈ ps,q.1.1 ∈ x.2.fields ∧ RepR G (tys vs) q.1.2 q.1.1.kind q.2:=fun q hq=>⟨(hm q hq).1,((hm q hq).2).mono hg0⟩
 by_cases hst : z.out = standF (tys vs) f
 ·have cx_wi:=c_withN (node:=((f,z),0)) (tag:=f.tag) hrf hso h1 h2 h3 hm2 hpsl
  rw [putB_put e hsr (decide_eq_true hst).symm,hft] at cx_wi
  repeat' (first | (refine jR ?_) | (refine jo ?_;first | refine jL fun _=>?_ | refine jC rfl rfl rfl ?_ | (refine c_rt rfl rfl rfl cx_rec rfl ?_) | (refine c_fns rfl rfl rfl cx_wi rfl ?_;rintro _ G hle ⟨bw,rfl,hrepw⟩;(have hg0:=hg0.trans hle);(have h1:=h1.mono hle);(have h2:=h2.mono hle);(have h3:=h3.mono hle);(have h:=h.mono hle);(try have hrep1:=RepR.mono hle hrep1);(try have hrepz:=RepR.mono hle hrepz))) | (refine k_tt rfl (dTt ‹_›) ?_) | (refine k_any (s_any (id:=12) _ (fun _ h=>h) mixed ?_);refine jT 4 [0,2] (bts 6 5) ?_;(refine jG (bts 6 13) 3 rfl (g_ldA rfl rfl rfl rfl) ?_);refine jA 1 rfl ?_;(refine c_rt rfl rfl rfl cx_out rfl ?_);refine jS (bts 6 15) ?_;refine jA 4 rfl ?_;(refine c_rt rfl rfl rfl cx_sta rfl ?_);refine jS (bts 6 31) ?_;refine jT 0 [5] (bts 6 63) ?_;refine jQ ?_))
  all_goals refine jZ (vs:=[_,_]) rfl ⟨rfl,rfl,trivial⟩ rfl ⟨hg0,rfl,?_⟩
  all_goals exact ⟨_,rfl,hrepw⟩
 ·have cx_wi:=c_withY (f:=f) (z:=z) hrf hso h1 h2 h3 hm2 hpsl hfm hrepz
  rw [putB_put e hsr (decide_eq_false hst).symm,hft] at cx_wi
  repeat' (first | (refine jR ?_) | (refine jo ?_;first | refine jL fun _=>?_ | refine jC rfl rfl rfl ?_ | (refine c_rt rfl rfl rfl cx_rec rfl ?_) | (refine c_fns rfl rfl rfl cx_wi rfl ?_;rintro _ G hle ⟨bw,rfl,hrepw⟩;(have hg0:=hg0.trans hle);(have h1:=h1.mono hle);(have h2:=h2.mono hle);(have h3:=h3.mono hle);(have h:=h.mono hle);(try have hrep1:=RepR.mono hle hrep1);(try have hrepz:=RepR.mono hle hrepz))) | (refine k_ff rfl (dFf ‹_›) ?_) | (refine k_any (s_any (id:=12) _ (fun _ h=>h) mixed ?_);refine jT 4 [0,2] (bts 6 5) ?_;(refine jG (bts 6 13) 3 rfl (g_ldA rfl rfl rfl rfl) ?_);refine jA 1 rfl ?_;(refine c_rt rfl rfl rfl cx_out rfl ?_);refine jS (bts 6 15) ?_;refine jA 4 rfl ?_;(refine c_rt rfl rfl rfl cx_sta rfl ?_);refine jS (bts 6 31) ?_;refine jT 0 [5] (bts 6 63) ?_;refine jQ ?_))
  all_goals refine jZ (vs:=[_,_]) rfl ⟨rfl,rfl,trivial⟩ rfl ⟨hg0,rfl,?_⟩
  all_goals exact ⟨_,rfl,hrepw⟩
theorem setN_take {bs : List Nat} {i m : Nat} {zb : Nat} (hi : i < bs.length) : ((bs.set m zb).take (i + 1)) = (bs.set m zb).take i ++ [if i = m then zb else nth bs i]:=by
 rw [take_nth (by rw [List.length_set];exact hi)]
 congr 2
 rw [nth_eq (by rw [List.length_set];exact hi),nth_eq hi,List.getElem_set]
 by_cases h : m = i
 ·rw [if_pos h,if_pos h.symm]
 ·rw [if_neg h,if_neg (fun e=>h e.symm)]
theorem c_setKid (hu : u.oneCell' = true) {c0 : UInt8} {k : List UInt8} {bs : List Nat} {a : Option Addr} {c : Nat} {m : Nat} (hc0 : c0 = 91 ∨ c0 = 63) (hnm : n = (m : Nat)) (hm : m < bs.length) (hbs : bs.length ≤ 100000) (hn : 0 ≤ n ∧ n ≤ 999999) (hp : SlV G (.slice (some ⟨pb,po,none⟩) (n :: p).length pc) 1 (n :: p).length (rows inR (n :: p)))
  (h1 : Seg G b 0 [S (c0 :: k),S [],nilS,.slice a bs.length c]) (h2 : SlV G (.slice a bs.length c) 1 bs.length (rows ptR bs)) (hpl : p.length ≤ 100) {ts : List Ty}
  (cx_sty : FnS Tryz.prog 63 [u,Pt b 0,I n] G (fun r G'=>∃ b',r = Tu [Pt b' 0,Bo true] ∧ RepR G' ts v1 k1 b'))
  (ihz : ∀ {G2 : Gh} {b1 : Nat},Gh.le G G2 → RepR G2 ts v1 k1 b1 → FnS Tryz.prog 51 [u,Pt b1 0,.slice (some ⟨pb,slO po pc (Int.toNat 1) 1,none⟩) ((n :: p).length - Int.toNat 1) (pc - Int.toNat 1),Pt yb 0] G2 (fun r G'=>∃ b',r = Tu [Pt b' 0,Bo true] ∧ RepR G' ts z k1 b')) :
  FnS Tryz.prog 51 [u,Pt b 0,.slice (some ⟨pb,po,none⟩) (n :: p).length pc,Pt yb 0] G (fun r G'=>∃ b' zb kb cc,r = Tu [Pt b' 0,Bo true] ∧ RepR G' ts z k1 zb ∧ Gh.le G G' ∧ Seg G' b' 0 [S (c0 :: k),S [],nilS,.slice (some ⟨kb,0,none⟩) bs.length cc] ∧ SlV G' (.slice (some ⟨kb,0,none⟩) bs.length cc) 1 bs.length (rows ptR (bs.set m zb))):=by
 have hk0 : bt (c0 :: k) (Int.toNat 0) = c0.toNat:=bt_zero c0 k
 have hc64 : ¬ c0.toNat = 64:=by rcases hc0 with rfl | rfl <;> decide
 have hkl2 : (c0 :: k).length = k.length + 1:=rfl
 have hpl0 : (n :: p).length = p.length + 1:=rfl
 have hti : nth (n :: p) (Int.toNat 0) = n:=rfl
 obtain ⟨G0,rfl⟩ : ∃ G0,G0 = G:=⟨G,rfl⟩
 have hg0 : Gh.le G0 G0:=Gh.le.refl _
 have hsx : Seg G0 pb po (rows inR (n :: p)):=by
  obtain ⟨b',o',c',e',hs'⟩:=hp.expl (by simp)
  simp only [Value.slice.injEq,Option.some.injEq,Addr.mk.injEq] at e'
  obtain ⟨⟨rfl,rfl,_⟩,_,rfl⟩:=e'
  exact hs'
 obtain ⟨xb,xo,xc,e,hs1⟩:=h2.expl oM
 simp only [Value.slice.injEq] at e
 obtain ⟨rfl,-,rfl⟩:=e
 refine jB [(0,_),(1,_),(2,_),(3,_)] Tryz.func51 Tryz.ntmps51 fun B hok hB hW=>?_
 repeat' (first | (refine jR ?_) | (refine jo ?_;first | refine jV (g_lenL rfl) ?_ | (refine jV (g_iaddr rfl rfl oM) ?_) | refine jV (g_ldS rfl rfl aS rfl rfl) ?_ | (refine jV (g_slV rfl rfl oM) ?_) | (refine c_fns rfl rfl rfl cx_sty rfl ?_;rintro _ G hle ⟨b1,rfl,hrep1⟩;(have hg0:=hg0.trans hle);(have h1:=h1.mono hle);(have h2:=h2.mono hle);(have hs1:=hs1.mono hle);(try have hrep1:=RepR.mono hle hrep1);(try have hrepz:=RepR.mono hle hrepz))) | (refine k_ff rfl rfl ?_))
 have cx_set:=ihz hg0 hrep1
 repeat' (first | (refine jR ?_) | (refine jo ?_;first | refine jV (g_ldS rfl rfl aS rfl rfl) ?_ | (refine jAf rfl ?_) | (refine c_fns rfl rfl rfl cx_set rfl ?_;rintro _ G hle ⟨bz,rfl,hrepz⟩;(have hg0:=hg0.trans hle);(have h1:=h1.mono hle);(have h2:=h2.mono hle);(have hs1:=hs1.mono hle);(try have hrep1:=RepR.mono hle hrep1);(try have hrepz:=RepR.mono hle hrepz))) | (refine k_gf rfl rfl rfl ?_) | (refine k_ff rfl rfl ?_) | (refine k_any (s_any (id:=15) _ (fun _ h=>h) mixed ?_);refine jT 6 [0,1,2,4,5,6,8,9,10] (bts 15 1911) ?_;(refine jG (bts 15 1919) 3 rfl (g_ldS rfl rfl aS rfl rfl) ?_);(refine jG (bts 15 2047) 7 rfl (g_ldS rfl rfl aS rfl rfl) ?_);(refine jG (bts 15 4095) 11 rfl (g_ldS rfl rfl aS rfl rfl) ?_);(refine jG (bts 15 8191) 12 rfl (g_bld rfl rfl) ?_);refine jA 13 rfl ?_;(refine jO fun _=>?_);refine jS (bts 15 16383) ?_;refine jT 0 [14] (bts 15 32767) ?_;refine jQ ?_))
 rename_i x
 refine Nx.addNil tPtrS 1 ?_
 have hsl : ∀ zb : Nat,(bs.set m zb).length = bs.length:=fun zb=>List.length_set
 refine k_loop (ι:=Option Addr × Nat × Nat) (fun q=>q.2.2 ≤ bs.length) (fun q=>[(1,Pt b 0),(10,I n),(13,Pt bz 0),(17,Pt x 0),(18,I q.2.2)]) (fun _=>G) (fun q=>[.acc (.slice q.1 q.2.2 q.2.1) tPtrS 1 q.2.2 (rows ptR ((bs.set m bz).take q.2.2)),.blk x (.cells (List.toArray [S (c0 :: k),S [],nilS,.slice q.1 q.2.2 q.2.1]) tLv (0,0))]) (fun q=>bs.length - q.2.2) (none,0,0) ?_ tU rfl sRr (fun q Hq=>?_)
 ·exact Nat.zero_le _
 obtain ⟨a3,c3,i⟩:=q
 dsimp only at Hq ⊢
 by_cases hi : i < bs.length
 ·have hxi : nth bs i = nth bs i:=rfl
  have hst:=setN_take (m:=m) (zb:=bz) hi
  by_cases him : i = m
  ·rw [if_pos him] at hst
   have hin : ((i : Nat) : Int) = n:=oM
   repeat' (first | refine jM ?_ | (refine jo ?_;first | refine jV (g_lenL rfl) ?_ | refine jAl rfl ?_ | refine jV (g_ldS rfl rfl aS rfl rfl) ?_ | (refine jAt rfl ?_) | refine jD rfl rfl rfl ?_ | refine jF fun _=>?_ | (refine c_apX rfl rfl rfl rfl rfl rfl rfl rfl rfl oM fun _ _=>?_)) | (refine k_gt rfl rfl (dTt ‹_›) ?_) | (refine k_tt rfl (by first | rfl | (refine decide_eq_true ?_;(omega))) ?_))
   rename_i y1 yc1
   rw [show rows ptR ((bs.set m bz).take i) ++ [Pt bz 0] = rows ptR ((bs.set m bz).take (i + 1)) by rw [hst,rows_snoc];rfl]
   exact k_rd (some ⟨y1,0,none⟩,yc1,i + 1) (by dsimp only;omega) (by dsimp only;omega) tU rfl sB
  ·rw [if_neg him] at hst
   have hin : ¬ ((i : Nat) : Int) = n:=oM
   repeat' (first | (refine jR ?_) | (refine jo ?_;first | refine jV (g_lenL rfl) ?_ | refine jV (g_ldS rfl rfl aS rfl rfl) ?_ | (refine jAf rfl ?_)) | (refine k_gf rfl rfl (by first | rfl | (refine decide_eq_false ?_;(assumption))) ?_) | (refine k_tt rfl (dTt oM) ?_) | (refine k_ff rfl rfl ?_))
   (refine k_any (s_any (id:=21) [] (fun _ h=>absurd h (by simp)) mixed ?_);refine jW 9 [0,1,2,3,5,6,7,9] (bts 17 751) ?_;(refine jG (bts 17 1007) 8 rfl (g_ldS rfl rfl aS rfl rfl) ?_);((refine jG (bts 17 2031) 10 rfl (g_iaddrN rfl rfl ?_) ?_;(focus ((omega);done))));((refine jG (bts 17 4079) 11 rfl (g_ldR1x rfl rfl aS ?_ aS rfl) ?_;(focus ((omega);done))));refine x_all [4,12] kR dC ⟨?_,?_,trivial⟩;(focus (refine x_opg rfl rfl ?_;(refine jAl rfl ?_);refine jK (bts 17 4095) ?_;refine jA 12 rfl ?_;(refine jF fun _=>?_);refine jK (bts 17 8191) ?_;refine jA 13 rfl ?_;((refine c_apX rfl rfl rfl rfl rfl rfl rfl rfl rfl ?_ fun _ _=>?_;(focus ((omega);done))));refine jK (bts 17 16383) ?_;refine jW 1 [14,15] (bts 17 65535) ?_;refine jA 16 rfl ?_;(refine jD rfl rfl rfl ?_);refine jK (bts 17 131071) ?_;refine jQ ?_));rotate_left 1;(focus (refine x_opg rfl rfl ?_;(refine jF fun _=>?_);refine jK (bts 17 8175) ?_;refine jA 4 rfl ?_;(refine jAl rfl ?_);refine jK (bts 17 8191) ?_;refine jA 13 rfl ?_;((refine c_apX rfl rfl rfl rfl rfl rfl rfl rfl rfl ?_ fun _ _=>?_;(focus ((omega);done))));refine jK (bts 17 16383) ?_;refine jW 1 [14,15] (bts 17 65535) ?_;refine jA 16 rfl ?_;(refine jD rfl rfl rfl ?_);refine jK (bts 17 131071) ?_;refine jQ ?_));rotate_left 1)
   all_goals repeat' (refine jM ?_)
   all_goals
    rename_i _ y1 yc1
    rw [show rows ptR ((bs.set m bz).take i) ++ [Pt (nth bs i) 0] = rows ptR ((bs.set m bz).take (i + 1)) by rw [hst,rows_snoc];rfl]
    exact k_rd (some ⟨y1,0,none⟩,yc1,i + 1) (by dsimp only;omega) (by dsimp only;omega) tU rfl sB
 ·have hib : i = bs.length:=by have : i ≤ bs.length:=Hq;omega
  subst hib
  rw [List.take_of_length_le (by rw [hsl];exact Nat.le_refl _)]
  repeat' (first | (refine jR ?_) | (refine jo ?_;first | refine jV (g_lenL rfl) ?_ | refine jV (g_ldS rfl rfl aS rfl rfl) ?_) | (refine k_ff rfl (dFf oM) ?_))
  refine Nx.shp (.head _) fun hsh=>?_
  obtain ⟨kb,kc,e9⟩:=hsh.pos oM
  simp only [Value.slice.injEq] at e9
  obtain ⟨rfl,-,rfl⟩:=e9
  refine Nx.sealS (v:=.slice (some ⟨kb,0,none⟩) bs.length c3) fun G2 hG2 hs3=>?_
  refine Nx.sealC (b:=x) fun G4 hG4 hsg=>?_
  refine jZ (vs:=[_,_]) rfl ⟨rfl,rfl,trivial⟩ rfl ⟨(hg0.trans (hG2.trans hG4)),rfl,?_⟩
  exact ⟨x,bz,kb,c3,rfl,hrepz.mono (hG2.trans hG4),hg0.trans (hG2.trans hG4),hsg,hs3.mono hG4⟩
theorem c_setUni (hu : u.oneCell' = true) {r : List UInt8} {tgb wb0 kb0 cc tc : Nat} {tg : Int} (hcc : 1 ≤ cc) (hn : 0 ≤ n ∧ n ≤ 999999) (hp : SlV G (.slice (some ⟨pb,po,none⟩) (n :: p).length pc) 1 (n :: p).length (rows inR (n :: p)))
  (h1 : Seg G b 0 [S (64 :: r),S [85],.slice (some ⟨tgb,0,none⟩) 1 (tc + 1),.slice (some ⟨kb0,0,none⟩) 1 cc]) (h2 : Seg G tgb 0 [I tg]) (h3 : Seg G kb0 0 [Pt wb0 0]) (hpl : p.length ≤ 100) {ts : List Ty}
  (cx_sty : FnS Tryz.prog 63 [u,Pt b 0,I n] G (fun r G'=>∃ b',r = Tu [Pt b' 0,Bo true] ∧ RepR G' ts v1 k1 b'))
  (ihz : ∀ {G2 : Gh} {b1 : Nat},Gh.le G G2 → RepR G2 ts v1 k1 b1 → FnS Tryz.prog 51 [u,Pt b1 0,.slice (some ⟨pb,slO po pc (Int.toNat 1) 1,none⟩) ((n :: p).length - Int.toNat 1) (pc - Int.toNat 1),Pt yb 0] G2 (fun r G'=>∃ b',r = Tu [Pt b' 0,Bo true] ∧ RepR G' ts z k1 b')) :
  FnS Tryz.prog 51 [u,Pt b 0,.slice (some ⟨pb,po,none⟩) (n :: p).length pc,Pt yb 0] G (fun rr G'=>∃ b' zb kb cc,rr = Tu [Pt b' 0,Bo true] ∧ RepR G' ts z k1 zb ∧ 1 ≤ cc ∧ Seg G' b' 0 [S (64 :: r),S [85],.slice (some ⟨tgb,0,none⟩) 1 (tc + 1),.slice (some ⟨kb,0,none⟩) 1 cc] ∧ Seg G' tgb 0 [I tg] ∧ Seg G' kb 0 [Pt zb 0]):=by
 have hk0 : bt (64 :: r) (Int.toNat 0) = 64:=bt_zero 64 r
 have hkl2 : (64 :: r).length = r.length + 1:=rfl
 have hpl0 : (n :: p).length = p.length + 1:=rfl
 have hti : nth (n :: p) (Int.toNat 0) = n:=rfl
 obtain ⟨G0,rfl⟩ : ∃ G0,G0 = G:=⟨G,rfl⟩
 have hg0 : Gh.le G0 G0:=Gh.le.refl _
 have hsx : Seg G0 pb po (rows inR (n :: p)):=by
  obtain ⟨b',o',c',e',hs'⟩:=hp.expl (by simp)
  simp only [Value.slice.injEq,Option.some.injEq,Addr.mk.injEq] at e'
  obtain ⟨⟨rfl,rfl,_⟩,_,rfl⟩:=e'
  exact hs'
 refine jB [(0,_),(1,_),(2,_),(3,_)] Tryz.func51 Tryz.ntmps51 fun B hok hB hW=>?_
 repeat' (first | (refine jR ?_) | (refine jo ?_;first | refine jV (g_lenL rfl) ?_ | (refine jV (g_iaddr rfl rfl oM) ?_) | (refine jV (g_ldRFx rfl rfl aS ?_ aS rfl rfl) ?_;(focus ((omega);done))) | (refine jV (g_slV rfl rfl oM) ?_) | (refine c_fns rfl rfl rfl cx_sty rfl ?_;rintro _ G hle ⟨b1,rfl,hrep1⟩;(have hg0:=hg0.trans hle);(have h1:=h1.mono hle);(have h2:=h2.mono hle);(have h3:=h3.mono hle);(try have hrep1:=RepR.mono hle hrep1);(try have hrepz:=RepR.mono hle hrepz))) | (refine k_ff rfl rfl ?_))
 have cx_set:=ihz hg0 hrep1
 repeat' (first | (refine jR ?_) | (refine jo ?_;first | refine jV (g_ldS rfl rfl aS rfl rfl) ?_ | (refine jAf rfl ?_) | (refine c_fns rfl rfl rfl cx_set rfl ?_;rintro _ G hle ⟨bz,rfl,hrepz⟩;(have hg0:=hg0.trans hle);(have h1:=h1.mono hle);(have h2:=h2.mono hle);(have h3:=h3.mono hle);(try have hrep1:=RepR.mono hle hrep1);(try have hrepz:=RepR.mono hle hrepz))) | (refine k_gf rfl rfl rfl ?_) | (refine k_ff rfl rfl ?_) | (refine k_any (s_any (id:=15) _ (fun _ h=>h) mixed ?_);refine jT 6 [0,1,2,4,5,6,8,9,10] (bts 15 1911) ?_;(refine jG (bts 15 1919) 3 rfl (g_ldS rfl rfl aS rfl rfl) ?_);(refine jG (bts 15 2047) 7 rfl (g_ldS rfl rfl aS rfl rfl) ?_);(refine jG (bts 15 4095) 11 rfl (g_ldS rfl rfl aS rfl rfl) ?_);(refine jG (bts 15 8191) 12 rfl (g_bld rfl rfl) ?_);refine jA 13 rfl ?_;(refine jO fun _=>?_);refine jS (bts 15 16383) ?_;refine jT 0 [14] (bts 15 32767) ?_;refine jQ ?_))
 rename_i x
 refine Nx.addNil tPtrS 1 ?_
 refine k_loop (ι:=Option Addr × Nat × Nat) (fun q=>q.2.2 ≤ 1) (fun q=>[(1,Pt b 0),(10,I n),(13,Pt bz 0),(17,Pt x 0),(18,I q.2.2)]) (fun _=>G) (fun q=>[.acc (.slice q.1 q.2.2 q.2.1) tPtrS 1 q.2.2 (rows ptR (List.replicate q.2.2 bz)),.blk x (.cells (List.toArray [S (64 :: r),S [85],.slice (some ⟨tgb,0,none⟩) 1 (tc + 1),.slice q.1 q.2.2 q.2.1]) tLv (0,0))]) (fun q=>1 - q.2.2) (none,0,0) ?_ tU rfl sRr (fun q Hq=>?_)
 ·exact Nat.zero_le _
 obtain ⟨a3,c3,i⟩:=q
 dsimp only at Hq ⊢
 by_cases hi : i < 1
 ·have hi0 : i = 0:=oM
  subst hi0
  have hrr : rows ptR (List.replicate 0 bz) ++ [Pt bz 0] = rows ptR (List.replicate 1 bz):=rfl
  by_cases hn0 : ((0 : Nat) : Int) = n
  ·repeat' (first | refine jM ?_ | (refine jo ?_;first | refine jV (g_lenL rfl) ?_ | refine jAl rfl ?_ | refine jV (g_ldS rfl rfl aS rfl rfl) ?_ | (refine jAt rfl ?_) | refine jD rfl rfl rfl ?_ | refine jF fun _=>?_ | (refine c_apX rfl rfl rfl rfl rfl rfl rfl rfl rfl oM fun _ _=>?_)) | (refine k_gt rfl rfl (dTt ‹_›) ?_) | (refine k_tt rfl rfl ?_))
   rename_i y1 yc1
   rw [hrr]
   exact k_rd (some ⟨y1,0,none⟩,yc1,1) (Nat.le_refl _) (by dsimp only;omega) tU rfl sB
  ·repeat' (first | refine jM ?_ | (refine jo ?_;first | refine jV (g_lenL rfl) ?_ | refine jAl rfl ?_ | refine jV (g_ldS rfl rfl aS rfl rfl) ?_ | (refine jAt rfl ?_) | (refine jAf rfl ?_) | refine jD rfl rfl rfl ?_ | refine jF fun _=>?_ | (refine c_apX rfl rfl rfl rfl rfl rfl rfl rfl rfl oM fun _ _=>?_)) | (refine k_gt rfl rfl rfl ?_) | (refine k_gf rfl rfl (dFf ‹_›) ?_) | (refine k_tt rfl rfl ?_))
   rename_i y1 yc1
   rw [hrr]
   exact k_rd (some ⟨y1,0,none⟩,yc1,1) (Nat.le_refl _) (by dsimp only;omega) tU rfl sB
 ·have hib : i = 1:=oM
  subst hib
  repeat' (first | (refine jR ?_) | (refine jo ?_;first | refine jV (g_lenL rfl) ?_ | refine jV (g_ldS rfl rfl aS rfl rfl) ?_) | (refine k_ff rfl rfl ?_))
  refine Nx.shp (.head _) fun hsh=>?_
  obtain ⟨kb,kc,e9⟩:=hsh.pos oM
  simp only [Value.slice.injEq] at e9
  obtain ⟨rfl,-,rfl⟩:=e9
  refine Nx.sealS (v:=.slice (some ⟨kb,0,none⟩) 1 c3) fun G2 hG2 hs3=>?_
  refine Nx.sealC (b:=x) fun G4 hG4 hsg=>?_
  refine jZ (vs:=[_,_]) rfl ⟨rfl,rfl,trivial⟩ rfl ⟨(hg0.trans (hG2.trans hG4)),rfl,?_⟩
  obtain ⟨kb',ko',kc',e9,hs9⟩:=hs3.expl oM
  simp only [Value.slice.injEq,Option.some.injEq,Addr.mk.injEq] at e9
  obtain ⟨⟨rfl,rfl,-⟩,-,rfl⟩:=e9
  exact ⟨x,bz,kb,c3,rfl,hrepz.mono (hG2.trans hG4),slv_cap (hs3.mono hG4) oM,hsg,h2.mono (hG2.trans hG4),hs9.mono hG4⟩
end
theorem c_setS {vs : List TyX} (hw : SchW (tys vs)) : ∀ (p : List Int) {G : Gh} {u pv : Value} {k : List UInt8} {v y : V} {b yb : Nat} {k' : List UInt8} {v' : V},SchR G u vs → SlV G pv 1 p.length (rows inR p) → (∀ n ∈ p,0 ≤ n ∧ n ≤ 999999) → p.length ≤ 8 → RepR G (tys vs) v k b → OfK (tys vs) k v → kindIn (tys vs) k = true → v.tot ≤ 400000 → followV (tys vs) k v p = some (k',v') → RepR G (tys vs) y k' yb → OfK (tys vs) k' y → y.tot ≤ 200000000 →
  FnS Tryz.prog 51 [u,Pt b 0,pv,Pt yb 0] G (fun r G'=>∃ b',r = Tu [Pt b' 0,Bo true] ∧ RepR G' (tys vs) (changeV (tys vs) k v p y) k b')
 | [],G,u,pv,k,v,y,b,yb,k',v',h,hp,hpn,hpl,hr,ho,hki,htt,hf,hy,hoy,hyt=>by
  simp only [followV,Option.some.injEq,Prod.mk.injEq] at hf
  obtain ⟨rfl,rfl⟩:=hf
  obtain ⟨pa,pc,rfl⟩:=hp.sl
  have hl0 : ([] : List Int).length = 0:=rfl
  rw [changeV]
  refine jB [(0,_),(1,_),(2,_),(3,_)] Tryz.func51 Tryz.ntmps51 fun B hok hB hW=>?_
  repeat' (first | (refine jR ?_) | (refine jo ?_;(refine jV (g_lenL rfl) ?_)) | (refine k_tt rfl rfl ?_))
  all_goals refine jZ (vs:=[_,_]) rfl ⟨rfl,rfl,trivial⟩ rfl ⟨Gh.le.refl _,rfl,?_⟩
  all_goals exact ⟨yb,rfl,hy⟩
 | n :: p,G,u,pv,k,v,y,b,yb,k',v',h,hp,hpn,hpl,hr,ho,hki,htt,hf,hy,hoy,hyt=>by
  obtain ⟨pb,po,pc,rfl,_⟩:=hp.expl (by simp)
  have hn:=hpn n (by simp)
  have hpn2 : ∀ m ∈ p,0 ≤ m ∧ m ≤ 999999:=fun m hm=>hpn m (by simp [hm])
  have hpl2 : p.length ≤ 8:=by simp at hpl;omega
  unfold followV at hf
  cases hs : stepV (tys vs) k v n with
  | none=>rw [hs] at hf;cases hf
  | some x =>
   rw [hs] at hf
   obtain ⟨k1,v1⟩:=x
   dsimp only at hf
   obtain ⟨g1,g2⟩:=stepV_ok hw ho hki hn.1 hs
   have g3:=stepV_tot hw ho hki hn.1 hs (N:=400000) htt oM
   have g4:=changeV_tot hw (y:=y) g1 g2 (fun m hm=>(hpn2 m hm).1) hf
   have cx_sty:=StepP.yes (c_stepS h hw hr ho hki hn oM) hs
   have hcut:=cut_ints hp
   have ihz : ∀ {G2 : Gh} {b1 : Nat},Gh.le G G2 → RepR G2 (tys vs) v1 k1 b1 → FnS Tryz.prog 51 [u,Pt b1 0,.slice (some ⟨pb,slO po pc (Int.toNat 1) 1,none⟩) ((n :: p).length - Int.toNat 1) (pc - Int.toNat 1),Pt yb 0] G2 (fun r G'=>∃ b',r = Tu [Pt b' 0,Bo true] ∧ RepR G' (tys vs) (changeV (tys vs) k1 v1 p y) k1 b'):=fun hle hr1 =>
    c_setS hw p (h.mono hle) (hcut.mono hle) hpn2 hpl2 hr1 g1 g2 g3 hf (hy.mono hle) hoy hyt
   rw [changeV_cons hs]
   have hu:=h.sl.one
   cases hrf : refT (tys vs) k with
   | none =>
    obtain ⟨c,kr,rfl⟩:=kind_ne hki
    by_cases hc : c.toNat = 91 ∨ c.toNat = 63
    ·have hst:=stepV_kid (ts:=tys vs) (c:=c) (r:=kr) (v:=v) (n:=n) hc
     rw [hs] at hst
     by_cases hlt : n < ((v.kids.length : Nat) : Int)
     ·rw [if_pos hlt] at hst
      simp only [Option.some.injEq,Prod.mk.injEq] at hst
      obtain ⟨rfl,rfl⟩:=hst
      rcases ofK_inv_c ho oM with ⟨a1,_⟩ | ⟨a1,_⟩ | ⟨a1,_⟩ | ⟨a1,ks,a2,a3,rfl⟩ | ⟨a1,rfl | ⟨w,a3,rfl⟩⟩
      ·omega
      ·omega
      ·omega
      ·obtain rfl:=u8_eq a1 dC
       rw [V.kids] at hlt
       cases hr with
       | leaf w x k tx b h1 h2=>rcases h2 with ⟨h,_⟩ | ⟨h,_⟩ | ⟨h,_⟩ <;> omega
       | lst k b ks bs a c h1 h2 h3 hk =>
        have hbl : bs.length = ks.length:=h3
        refine (c_setKid (u:=u) (n:=n) (m:=n.toNat) (bs:=bs) hu (.inl rfl) oM oM oM hn hp (by rw [hbl];exact h1) (by rw [hbl];exact h2) oM cx_sty ihz).mono ?_
        rintro v G' L' ⟨q1,q2,b',zb,kb,cc,rfl,q3,q4,q5,q6⟩
        refine ⟨q1,q2,b',rfl,?_⟩
        have e1 : setV (tys vs) (91 :: k1) (.nd 91 [] 0 ks) n (changeV (tys vs) k1 (nth ks n.toNat) p y) = .nd 91 [] 0 (ks.set n.toNat (changeV (tys vs) k1 (nth ks n.toNat) p y)):=by
         unfold setV;rw [V.what,if_neg dC,if_pos rfl];rfl
        show RepR G' (tys vs) (setV (tys vs) (91 :: k1) (.nd 91 [] 0 ks) n (changeV (tys vs) k1 (nth ks n.toNat) p y)) (91 :: k1) b'
        rw [e1]
        rw [hbl] at q5 q6
        refine RepR.lst k1 b' _ (bs.set n.toNat zb) (some ⟨kb,0,none⟩) cc (by rw [List.length_set];exact q5) (by rw [List.length_set];exact q6) (by simp [hbl]) fun i hi=>?_
        rw [List.length_set] at hi
        rw [nth_set hi,nth_set oM]
        by_cases him : n.toNat = i
        ·rw [if_pos him,if_pos him];exact q3
        ·rw [if_neg him,if_neg him];exact (hk i hi).mono q4
      ·simp [V.kids] at hlt;omega
      ·obtain rfl:=u8_eq a1 dC
       simp [V.kids] at hlt
       obtain rfl : n = 0:=oM
       cases hr with
       | opt k b kb b' cc v hcc h1 h2 h3 =>
        have h2s : SlV G (.slice (some ⟨kb,0,none⟩) 1 cc) 1 1 (rows ptR [b']):=⟨rfl,.inr ⟨kb,0,cc,rfl,hcc,h2⟩⟩
        refine (c_setKid (u:=u) (n:=0) (m:=0) (bs:=[b']) hu (.inr rfl) rfl (by simp) (by simp) hn hp h1 h2s oM cx_sty ihz).mono ?_
        rintro v G' L' ⟨q1,q2,b2,zb,kb2,cc2,rfl,q3,q4,q5,q6⟩
        refine ⟨q1,q2,b2,rfl,?_⟩
        have q7:=slv_cap q6 (by simp)
        obtain ⟨kb',ko',kc',e9,hs9⟩:=q6.expl (by simp)
        simp only [Value.slice.injEq,Option.some.injEq,Addr.mk.injEq] at e9
        obtain ⟨⟨rfl,rfl,-⟩,-,rfl⟩:=e9
        exact RepR.opt k1 b2 kb2 zb cc2 _ q7 q5 hs9 q3
     ·rw [if_neg hlt] at hst;cases hst
    ·have hno : stepV (tys vs) (c :: kr) v n = none:=by
      rcases plain_kinds hki hc hrf with e | e | e
      all_goals (rw [e];exact stepV_plain dC dC dC)
     rw [hno] at hs;cases hs
   | some t =>
    have hst:=stepV_typ (v:=v) (n:=n) hrf
    rw [hs] at hst
    cases hg : fldT t.fields n with
    | none=>rw [hg] at hst;cases hst
    | some f =>
     rw [hg] at hst
     dsimp only at hst
     by_cases h69 : t.sort = 69
     ·rw [if_pos h69] at hst;cases hst
     ·rw [if_neg h69] at hst
      by_cases h82 : t.sort = 82
      ·rw [if_pos h82] at hst
       simp only [Option.some.injEq,Prod.mk.injEq] at hst
       obtain ⟨rfl,rfl⟩:=hst
       rcases ofK_inv_t ho hrf with ⟨_,fs,rfl,a3,a4,a5,a6⟩ | ⟨a1,_⟩ | ⟨a1,_⟩
       ·have hfs9 : fs.length ≤ 100000:=by
         have h7:=tots_len (fs.map fldV)
         rw [nd_tot] at htt
         have e1 : (fs.map fldV).length = fs.length:=by simp
         omega
        have e1 : ∀ z,setV (tys vs) k (.nd 82 [] 0 (fs.map fldV)) n z = .nd 82 [] 0 (putF (tys vs) f z (fs.map fldV)):=fun z=>by
         unfold setV;rw [V.what,if_pos rfl,hrf]
         dsimp only
         rw [hg];rfl
        rw [e1]
        exact c_setRec h hw hki hrf hg rfl (srt_fs a6) hfs9 hn hp hr oM oM cx_sty ihz
       ·omega
       ·omega
      ·rw [if_neg h82] at hst
       by_cases htg : v.tag = n
       ·rw [if_pos htg] at hst
        simp only [Option.some.injEq,Prod.mk.injEq] at hst
        obtain ⟨rfl,rfl⟩:=hst
        obtain ⟨hft,hfm⟩:=fldT_tag' hg
        cases hr with
        | leaf w x k tx b h1 h2 =>
         rcases h2 with ⟨_,rfl,_⟩ | ⟨_,rfl,_⟩ | ⟨_,rfl,_⟩ <;> exact (refT_no hrf rfl dC).elim
        | lst k b ks bs a c h1 h2 h3 hk=>exact (refT_no hrf rfl dC).elim
        | non k b h1=>exact (refT_no hrf rfl dC).elim
        | opt k b kb b' cc w h0 h1 h2 h3=>exact (refT_no hrf rfl dC).elim
        | recd k b t' fs bs a a2 c c2 h0 h1 h2 h3 h4 h5 hk=>rw [hrf] at h0;obtain rfl:=Option.some.inj h0.1;exact (h82 h0.2).elim
        | enm k b tgb t' d h0 h1 h2 h3=>rw [hrf] at h0;obtain rfl:=Option.some.inj h0.1;exact (h69 h0.2).elim
        | uni k b tgb kb b' cc t' d w hcc h0 h1 h2 h3 h4 hk =>
         rw [hrf] at h0
         obtain rfl:=Option.some.inj h0.1
         have hdf : d = f:=fld_tag (hw.ty _ (refT_mem hrf)) h1 hfm (by rw [hft];exact htg)
         subst hdf
         obtain ⟨r,rfl⟩:=refT_64 hrf
         refine (c_setUni (u:=u) (n:=n) hu hcc hn hp h2 h3 h4 oM cx_sty ihz).mono ?_
         rintro v G' L' ⟨q1,q2,b2,zb,kb2,cc2,rfl,q3,q4,q5,q6,q7⟩
         refine ⟨q1,q2,b2,rfl,?_⟩
         have e1 : ∀ z,setV (tys vs) (64 :: r) (.nd 85 [] d.tag [w]) n z = .nd 85 [] d.tag [z]:=fun z=>by
          unfold setV;rw [V.what,if_neg dC,if_neg dC];rfl
         rw [e1]
         exact RepR.uni _ b2 tgb kb2 zb cc2 _ d _ q4 ⟨hrf,h0.2⟩ h1 q5 q6 q7 q3
       ·rw [if_neg htg] at hst;cases hst
theorem c_l4Back {u : Value} {vs : List TyX} (hw : SchW (tys vs)) (h : SchR G u vs) {k s : List UInt8} (hki : kindIn (tys vs) k = true) :
  FnS Tryz.prog 52 [u,S k,S s] G (fun r _=>r = Tu [S (if (valOf (tys vs) k s).isSome = true then s else []),Bo (valOf (tys vs) k s).isSome]):=by
 obtain ⟨ua,uc,rfl⟩:=h.sl.sl
 by_cases hl : s.length ≤ 400
 ·have cx_rd:=readC_all (u:=.slice ua vs.length uc) (vs:=vs) hw 12 oM G k s h hki oM
  have hvo : valOf (tys vs) k s = match rd (tys vs) 12 k s with
   | some (v,[])=>some v
   | _=>none:=by
   unfold valOf;rw [if_pos hl]
   all_goals (rcases rd (tys vs) 12 k s with _ | ⟨v,_ | _⟩ <;> rfl)
  refine jB [(0,_),(1,_),(2,_)] Tryz.func52 Tryz.ntmps52 fun B hok hB hW=>?_
  repeat' (first | (refine jR ?_) | (refine jo ?_;first | refine jV (g_bld rfl rfl) ?_ | (refine jAt rfl ?_) | (refine jAf rfl ?_) | (refine c_fns rfl rfl rfl cx_rd rfl ?_;rintro _ G hle ⟨q1,r1,ok1,rfl,hyes,hno⟩;skip)) | refine k_gb rfl rfl (fun _=>?_) (fun _=>?_) | (refine k_tt rfl rfl ?_) | (refine k_ff rfl (dFf oM) ?_) | refine k_if rfl (fun _=>?_) (fun _=>?_))
  all_goals refine jZ (vs:=[_,_]) rfl ⟨rfl,rfl,trivial⟩ rfl ⟨hle,rfl,?_⟩
  ·rename_i hz
   rw [hno (by simpa using hz)] at hvo
   rw [hvo];rfl
  ·rename_i hz hr
   obtain ⟨w,b,rfl,hf,hrep⟩:=hyes (by simpa using hz)
   rw [hf] at hvo
   have hvo2 : valOf (tys vs) k s = none:=by
    rw [hvo]
    cases r1 with
    | nil=>exact absurd rfl hr
    | cons c r=>rfl
   rw [hvo2];rfl
  ·rename_i hz hr
   obtain ⟨w,b,rfl,hf,hrep⟩:=hyes (by simpa using hz)
   obtain rfl : r1 = []:=by simpa using hr
   rw [hf] at hvo
   rw [hvo];rfl
 ·have hvo : valOf (tys vs) k s = none:=by unfold valOf;rw [if_neg hl]
  rw [hvo]
  refine jB [(0,_),(1,_),(2,_)] Tryz.func52 Tryz.ntmps52 fun B hok hB hW=>?_
  repeat' (first | (refine jR ?_) | (refine k_tt rfl (dTt oM) ?_))
  all_goals refine jZ (vs:=[_,_]) rfl ⟨rfl,rfl,trivial⟩ rfl ⟨Gh.le.refl _,rfl,?_⟩
  all_goals rfl
def pathSetV (s k w p x : List UInt8) : Option (List UInt8):=match schemaOf s,givenV s k w,pathOf p with
 | some ts,some u,some q=>match followV ts k u q with
  | none=>none
  | some (k',_)=>match rd ts 12 k' x with
   | some (y,[])=>if (changeV ts k u q y).out.length ≤ 400 ∧ (changeV ts k u q y).deep ≤ 12 then some (changeV ts k u q y).out else none
   | _=>none
 | _,_,_=>none
def psR (o : Option (List UInt8)) : Value:=Tu [S (o.getD []),Bo o.isSome]
theorem psv_none {s k x : List UInt8} {o : Option (List Int)} : (match schemaOf s,(none : Option V),o with
 | some ts,some u,some q=>match followV ts k u q with
  | none=>none
  | some (k',_)=>match rd ts 12 k' x with
   | some (y,[])=>if (changeV ts k u q y).out.length ≤ 400 ∧ (changeV ts k u q y).deep ≤ 12 then some (changeV ts k u q y).out else none
   | _=>none
 | _,_,_=>none) = none:=by cases schemaOf s <;> rfl
theorem c_PathSetS {s k w p x : List UInt8} (h1 : s.length ≤ 1048576 ∧ k.length ≤ 1048576 ∧ w.length ≤ 1048576 ∧ p.length ≤ 1048576) (hx : x.length ≤ 1048576) : PuG Tryz.prog 29 [S s,S k,S w,S p,S x] G (· = psR (pathSetV s k w p x)):=by
 unfold pathSetV
 cases hg : givenV s k w with
 | none =>
  rw [psv_none]
  have cx_la0:=fun G=>c_l4Of0 (G:=G) (s:=s) (k:=k) (w:=w) oM hg
  cases hpo : pathOf p with
  | none =>
   have cx_sp:=steps_no h1.2.2.2 hpo
   refine jB (Post:=fun v G' L'=>G' = G ∧ L' = [] ∧ _) [(0,_),(1,_),(2,_),(3,_),(4,_)] Tryz.func29 Tryz.ntmps29 fun B hok hB hW=>?_
   repeat' (first | (refine jR ?_) | (refine jo ?_;first | (refine jAt rfl ?_) | (refine c_fns rfl rfl rfl (cx_la0 _) rfl ?_;rintro _ G hle ⟨ua,qa,rfl⟩;skip) | (refine c_fns rfl rfl rfl (cx_sp _) rfl ?_;rintro _ G hle ⟨sa,sc,sn,rfl,hsp⟩;skip)) | (refine k_gt rfl rfl rfl ?_) | (refine k_tt rfl rfl ?_))
   all_goals refine Nx.base hok hB ?_
   all_goals refine jY (vs:=[_,_]) ?_
   all_goals rfl
  | some q =>
   have cx_sp:=steps_yes h1.2.2.2 hpo
   refine jB (Post:=fun v G' L'=>G' = G ∧ L' = [] ∧ _) [(0,_),(1,_),(2,_),(3,_),(4,_)] Tryz.func29 Tryz.ntmps29 fun B hok hB hW=>?_
   repeat' (first | (refine jR ?_) | (refine jo ?_;first | (refine jAt rfl ?_) | (refine c_fns rfl rfl rfl (cx_la0 _) rfl ?_;rintro _ G hle ⟨ua,qa,rfl⟩;skip) | (refine c_fns rfl rfl rfl (cx_sp _) rfl ?_;rintro _ G hle ⟨sa,sc,sn,rfl,hsp⟩;skip)) | (refine k_gt rfl rfl rfl ?_) | (refine k_tt rfl rfl ?_))
   all_goals refine Nx.base hok hB ?_
   all_goals refine jY (vs:=[_,_]) ?_
   all_goals rfl
 | some u =>
  obtain ⟨ts,hs,hki,hvo,hto,hwf⟩:=given_some hg
  have cx_l4x:=c_l4OfX (G:=G) (s:=s) (k:=k) (w:=w) oM hs hki hvo
  rw [hs]
  cases hpo : pathOf p with
  | none =>
   have cx_sp:=steps_no h1.2.2.2 hpo
   refine jB (Post:=fun v G' L'=>G' = G ∧ L' = [] ∧ _) [(0,_),(1,_),(2,_),(3,_),(4,_)] Tryz.func29 Tryz.ntmps29 fun B hok hB hW=>?_
   repeat' (first | (refine jR ?_) | (refine jo ?_;first | (refine jAf rfl ?_) | (refine c_fns rfl rfl rfl cx_l4x rfl ?_;rintro _ G hle ⟨av1,cv1,vs1,b1,rfl,hR1,hT1,hrep⟩;skip) | (refine c_fns rfl rfl rfl (cx_sp _) rfl ?_;rintro _ G hle ⟨sa,sc,sn,rfl,hsp⟩;skip)) | (refine k_gf rfl rfl rfl ?_) | (refine k_tt rfl rfl ?_))
   all_goals refine Nx.base hok hB ?_
   all_goals refine jY (vs:=[_,_]) ?_
   all_goals rfl
  | some q =>
   have cx_sp:=steps_yes h1.2.2.2 hpo
   obtain ⟨hq8,hqn⟩:=pathOf_le hpo
   have hof:=valOf_of_k hvo
   have hw:=schemaOf_w hs
   dsimp only
   refine jB (Post:=fun v G' L'=>G' = G ∧ L' = [] ∧ _) [(0,_),(1,_),(2,_),(3,_),(4,_)] Tryz.func29 Tryz.ntmps29 fun B hok hB hW=>?_
   repeat' (first | (refine jR ?_) | (refine jo ?_;first | (refine jAf rfl ?_) | (refine c_fns rfl rfl rfl cx_l4x rfl ?_;rintro _ G hle ⟨av1,cv1,vs1,b1,rfl,hR1,hT1,hrep⟩;(try have hrep:=RepR.mono hle hrep);(try have hR1:=SchR.mono hR1 hle);(try have hsp:=SlV.mono hsp hle);(try have hsg1:=Seg.mono hsg1 hle)) | (refine c_fns rfl rfl rfl (cx_sp _) rfl ?_;rintro _ G hle ⟨sa,sc,sn,rfl,hsp⟩;(try have hrep:=RepR.mono hle hrep);(try have hR1:=SchR.mono hR1 hle);(try have hsp:=SlV.mono hsp hle);(try have hsg1:=Seg.mono hsg1 hle))) | (refine k_gf rfl rfl rfl ?_) | (refine k_ff rfl rfl ?_))
   obtain ⟨rfl,hsp⟩:=hsp
   subst hT1
   have hwk:=c_walkS hR1 hw hsp hqn oM hrep hof hki oM
   cases hfo : followV (tys vs1) k u q with
   | none =>
    have cx_wan:=StepP.no hwk hfo
    repeat' (first | (refine jR ?_) | (refine jo ?_;(refine c_fns rfl rfl rfl cx_wan rfl ?_;rintro _ G hle ⟨q1,rfl⟩;(try have hrep:=RepR.mono hle hrep);(try have hR1:=SchR.mono hR1 hle);(try have hsp:=SlV.mono hsp hle);(try have hsg1:=Seg.mono hsg1 hle))) | (refine k_tt rfl rfl ?_))
    all_goals refine Nx.base hok hB ?_
    all_goals refine jY (vs:=[_,_]) ?_
    all_goals rfl
   | some y =>
    obtain ⟨k1,v1⟩:=y
    have cx_way:=StepP.yes hwk hfo
    have hqn0:=fun n hn=>(hqn n hn).1
    obtain ⟨_,hk1⟩:=followV_ok hw hof hki hqn0 hfo
    dsimp only
    repeat' (first | (refine jR ?_) | (refine jo ?_;first | refine jV (g_bld rfl rfl) ?_ | (refine c_fns rfl rfl rfl cx_way rfl ?_;rintro _ G hle ⟨b1,rfl,hrep1⟩;(try have hrep:=RepR.mono hle hrep);(try have hR1:=SchR.mono hR1 hle);(try have hsp:=SlV.mono hsp hle);(try have hsg1:=Seg.mono hsg1 hle))) | (refine k_ff rfl rfl ?_))
    obtain ⟨z1,z2,z3,hsg1⟩:=repR_seg hrep1
    have cx_rd:=readC_all (u:=.slice av1 vs1.length cv1) (vs:=vs1) hw 12 oM G k1 x hR1 hk1 oM
    repeat' (first | (refine jR ?_) | (refine jo ?_;first | (refine jAt rfl ?_) | (refine jAf rfl ?_) | refine jV (g_ldS rfl rfl aS rfl rfl) ?_ | (refine c_fns rfl rfl rfl cx_rd rfl ?_;rintro _ G hle ⟨q1,r1,ok1,rfl,hyes,hno⟩;(try have hrep:=RepR.mono hle hrep);(try have hR1:=SchR.mono hR1 hle);(try have hsp:=SlV.mono hsp hle);(try have hsg1:=Seg.mono hsg1 hle))) | refine k_gb rfl rfl (fun _=>?_) (fun _=>?_) | (refine k_tt rfl rfl ?_) | refine k_if rfl (fun _=>?_) (fun _=>?_))
    ·rename_i hz
     rw [hno (by simpa using hz)]
     refine Nx.base hok hB ?_
     refine jY (vs:=[_,_]) ?_
     rfl
    ·rename_i hz hr
     obtain ⟨w2,b2,rfl,hf2,hrep2⟩:=hyes (by simpa using hz)
     rw [hf2]
     refine Nx.base hok hB ?_
     refine jY (vs:=[_,_]) ?_
     cases r1 with
     | nil=>exact absurd rfl hr
     | cons c r=>rfl
    ·rename_i hz hr
     obtain ⟨w2,b2,rfl,hf2,hrep2⟩:=hyes (by simpa using hz)
     obtain rfl : r1 = []:=by simpa using hr
     rw [hf2]
     dsimp only
     have hoy:=rd_of _ _ _ _ hf2
     have hyt:=rd_tot _ _ _ _ hf2
     dsimp only at hoy hyt
     have cx_set:=c_setS hw q hR1 hsp hqn hq8 hrep hof hki oM hfo hrep2 hoy oM
     have hcg:=changeV_ok hw hof hki hqn0 hfo hoy
     have hct:=changeV_tot hw (y:=w2) hof hki hqn0 hfo
     repeat' (first | (refine jR ?_) | (refine jo ?_;(refine c_fns rfl rfl rfl cx_set rfl ?_;rintro _ G hle ⟨bz,rfl,hrepz⟩;(try have hrep:=RepR.mono hle hrep);(try have hR1:=SchR.mono hR1 hle);(try have hsp:=SlV.mono hsp hle);(try have hsg1:=Seg.mono hsg1 hle))) | (refine k_ff rfl rfl ?_))
     have cx_out:=c_outS hw hrepz oM
     have cx_bk:=c_l4Back (s:=(changeV (tys vs1) k u q w2).out) hw hR1 hki
     by_cases hfit : (changeV (tys vs1) k u q w2).out.length ≤ 400 ∧ (changeV (tys vs1) k u q w2).deep ≤ 12
     ·rw [if_pos hfit]
      rw [valOf_in hw hcg hfit.1 hfit.2] at cx_bk
      repeat' (first | (refine jR ?_) | (refine jo ?_;first | (refine c_rt rfl rfl rfl cx_out rfl ?_) | (refine c_fns rfl rfl rfl cx_bk rfl ?_;rintro _ G hle rfl;(try have hrep:=RepR.mono hle hrep);(try have hR1:=SchR.mono hR1 hle);(try have hsp:=SlV.mono hsp hle);(try have hsg1:=Seg.mono hsg1 hle))))
      all_goals refine Nx.base hok hB ?_
      all_goals refine jY (vs:=[_,_]) ?_
      all_goals rfl
     ·rw [if_neg hfit]
      rw [valOf_no_in hw hcg hfit] at cx_bk
      repeat' (first | (refine jR ?_) | (refine jo ?_;first | (refine c_rt rfl rfl rfl cx_out rfl ?_) | (refine c_fns rfl rfl rfl cx_bk rfl ?_;rintro _ G hle rfl;(try have hrep:=RepR.mono hle hrep);(try have hR1:=SchR.mono hR1 hle);(try have hsp:=SlV.mono hsp hle);(try have hsg1:=Seg.mono hsg1 hle))))
      all_goals refine Nx.base hok hB ?_
      all_goals refine jY (vs:=[_,_]) ?_
      all_goals rfl
end Go.E
namespace Go.E
set_option maxRecDepth 20000
set_option maxHeartbeats 2000000
theorem out_list' {ks : List V} : (V.nd 91 [] 0 ks).out = 91 :: (joinB 44 (ks.map V.out) ++ [93]):=by rw [V.out,V.outs_map];rfl
theorem out_rec' {ks : List V} : (V.nd 82 [] 0 ks).out = 123 :: (joinB 44 (ks.map V.out) ++ [125]):=by rw [V.out,V.outs_map];rfl
theorem joinB_mem {xs : List (List UInt8)} {x : List UInt8} (h : x ∈ xs) : x.length ≤ (joinB 44 xs).length:=by
 induction xs with
 | nil=>cases h
 | cons y xs ih =>
  cases xs with
  | nil =>
   simp only [List.mem_singleton] at h;subst h;simp [joinB]
  | cons z xs =>
   rw [joinB,List.length_append,List.length_cons]
   rcases List.mem_cons.1 h with rfl | h
   ·omega
   ·have:=ih h;omega
end Go.E
namespace Go.E
set_option maxRecDepth 20000
set_option maxHeartbeats 2000000
open Go.Proofs
variable {ts : List Ty}
theorem stepV_fits (hw : SchW ts) {k : List UInt8} {v : V} (h : OfK ts k v) (hk : kindIn ts k = true) {n : Int} (hn : 0 ≤ n) {k' : List UInt8} {v' : V} (e : stepV ts k v n = some (k',v')) (hd : v.deep ≤ 12) (hl : v.out.length ≤ 400) : v'.deep ≤ 12 ∧ v'.out.length ≤ 400:=by
 obtain ⟨c,r,rfl⟩:=kind_ne hk
 unfold stepV at e
 dsimp only at e
 split at e
 ·rename_i hc
  split at e
  ·rename_i hlt
   simp only [Option.some.injEq,Prod.mk.injEq] at e
   obtain ⟨rfl,rfl⟩:=e
   rcases ofK_inv_c h oM with ⟨g1,_⟩ | ⟨g1,_⟩ | ⟨g1,_⟩ | ⟨g1,ks,g2,g3,rfl⟩ | ⟨g1,rfl | ⟨u,g3,rfl⟩⟩
   ·omega
   ·omega
   ·omega
   ·rw [V.kids] at hlt ⊢
    have hi : n.toNat < ks.length:=oM
    rw [deep_nd dC] at hd
    rw [out_list'] at hl
    have h1:=V.deep_mem (nth_mem hi)
    have h2:=joinB_mem (xs:=ks.map V.out) (List.mem_map_of_mem (f:=V.out) (nth_mem hi))
    simp only [List.length_cons,List.length_append,List.length_nil] at hl
    exact ⟨oM,oM⟩
   ·simp [V.kids] at hlt;omega
   ·simp [V.kids] at hlt
    obtain rfl : n = 0:=oM
    rw [deep_nd dC] at hd
    have e1 : V.out (.nd 63 [] 0 [u]) = 43 :: u.out:=by rw [V.out];simp [V.outs,joinB,outW]
    rw [e1,List.length_cons] at hl
    have h1:=V.deep_mem (ks:=[u]) (v:=u) (by simp)
    exact ⟨by show u.deep ≤ 12;omega,by show u.out.length ≤ 400;omega⟩
  ·cases e
 ·split at e
  ·cases e
  ·rename_i t hr
   have ht:=refT_mem hr
   split at e
   ·cases e
   ·rename_i f hf
    have hfm:=List.mem_of_find?_eq_some hf
    split at e
    ·cases e
    ·rename_i h69
     split at e
     ·rename_i h82
      simp only [Option.some.injEq,Prod.mk.injEq] at e
      obtain ⟨rfl,rfl⟩:=e
      rcases ofK_inv_t h hr with ⟨_,fs,rfl,g3,g4,_,_⟩ | ⟨g1,_⟩ | ⟨g1,_⟩
      ·unfold getV
       rw [V.kids]
       cases hto : toldV f (fs.map fldV) with
       | none =>
        obtain ⟨a1,a2,a3⟩:=standV_ok hw ht h69 hfm
        unfold valOf at a2
        split at a2
        ·rename_i hl4
         split at a2
         ·rename_i v' hv'
          have:=rd_deep_le _ _ _ _ hv'
          simp only [Option.some.injEq] at a2
          subst a2
          exact ⟨this,by show (standV ts f).out.length ≤ 400;rw [a3];exact hl4⟩
         ·cases a2
        ·cases a2
       | some u =>
        obtain ⟨_,p,hp,_,rfl⟩:=toldV_of (hw.ty t ht) hfm (fun p hp=>⟨g3 p hp,g4 p hp⟩) hto
        rw [deep_nd dC] at hd
        rw [out_rec'] at hl
        have h1:=V.deep_mem (List.mem_map_of_mem (f:=fldV) hp)
        rw [show (fldV p).deep = p.2.deep from deep_fld] at h1
        have h2:=joinB_mem (xs:=(fs.map fldV).map V.out) (List.mem_map_of_mem (f:=V.out) (List.mem_map_of_mem (f:=fldV) hp))
        rw [show (fldV p).out = decI p.1.tag ++ 61 :: p.2.out from out_fld] at h2
        simp only [List.length_cons,List.length_append,List.length_nil] at hl h2
        exact ⟨by show p.2.deep ≤ 12;omega,by show p.2.out.length ≤ 400;omega⟩
      ·omega
      ·omega
     ·rename_i h82
      split at e
      ·simp only [Option.some.injEq,Prod.mk.injEq] at e
       obtain ⟨rfl,rfl⟩:=e
       rcases ofK_inv_t h hr with ⟨h1,_⟩ | ⟨h1,_⟩ | ⟨_,_,d,u,rfl,g4,g5⟩
       ·omega
       ·omega
       ·rw [deep_nd dC] at hd
        have e1 : V.out (.nd 85 [] d.tag [u]) = 60 :: (decI d.tag ++ 61 :: (u.out ++ [62])):=by rw [V.out];simp [V.outs,joinB,outW]
        rw [e1] at hl
        have h1:=V.deep_mem (ks:=[u]) (v:=u) (by simp)
        simp only [List.length_cons,List.length_append,List.length_nil] at hl
        exact ⟨by show u.deep ≤ 12;omega,by show u.out.length ≤ 400;omega⟩
      ·cases e
theorem followV_fits (hw : SchW ts) : ∀ {p : List Int} {k : List UInt8} {v : V} {k' : List UInt8} {v' : V},OfK ts k v → kindIn ts k = true → (∀ n ∈ p,0 ≤ n) → followV ts k v p = some (k',v') → v.deep ≤ 12 → v.out.length ≤ 400 → v'.deep ≤ 12 ∧ v'.out.length ≤ 400
 | [],k,v,k',v',h,hk,_,e,hd,hl=>by
  simp only [followV,Option.some.injEq,Prod.mk.injEq] at e
  obtain ⟨rfl,rfl⟩:=e
  exact ⟨hd,hl⟩
 | n :: p,k,v,k',v',h,hk,hp,e,hd,hl=>by
  unfold followV at e
  cases hs : stepV ts k v n with
  | none=>rw [hs] at e;cases e
  | some x =>
   rw [hs] at e
   obtain ⟨k1,v1⟩:=x
   obtain ⟨h1,h2⟩:=stepV_ok hw h hk (hp n (by simp)) hs
   obtain ⟨h3,h4⟩:=stepV_fits hw h hk (hp n (by simp)) hs hd hl
   exact followV_fits hw h1 h2 (fun m hm=>hp m (by simp [hm])) e h3 h4
def pathText (q : List Int) : List UInt8:=joinB 47 (q.map decI)
theorem stepsOf_inv : ∀ {xs : List (List UInt8)} {p : List Int},stepsOf xs = some p → xs = p.map decI ∧ ∀ n ∈ p,0 ≤ n ∧ n ≤ 999999
 | [],p,h=>by simp only [stepsOf,Option.some.injEq] at h;subst h;simp
 | x :: xs,p,h=>by
  unfold stepsOf at h
  cases hn : numOf x 999999 with
  | none=>rw [hn] at h;cases h
  | some n =>
   rw [hn] at h
   dsimp only at h
   cases hs : stepsOf xs with
   | none=>rw [hs] at h;cases h
   | some q =>
    rw [hs] at h
    simp only [Option.map_some,Option.some.injEq] at h
    subst h
    obtain ⟨h1,h2⟩:=stepsOf_inv hs
    refine ⟨by rw [List.map_cons,← h1,← (numOf_le hn).2.1],fun m hm=>?_⟩
    rcases List.mem_cons.1 hm with rfl | hm
    ·exact ⟨numOf_nn hn,(numOf_le hn).1⟩
    ·exact h2 m hm
theorem pathOf_text {s : List UInt8} {q : List Int} (h : pathOf s = some q) : s = pathText q ∧ q.length ≤ 8 ∧ (∀ n ∈ q,0 ≤ n ∧ n ≤ 999999) ∧ (s = [] ↔ q = []):=by
 unfold pathOf at h
 split at h
 ·rename_i hs
  simp only [Option.some.injEq] at h;subst h
  exact ⟨by rw [hs];rfl,by simp,by simp,by simp [hs]⟩
 ·rename_i hs
  split at h
  ·rename_i q' hq
   split at h
   ·rename_i h8
    simp only [Option.some.injEq] at h;subst h
    obtain ⟨h1,h2⟩:=stepsOf_inv hq
    have h3:=cut_join 47 s
    have h4 : (47 : UInt8).toNat = 47:=rfl
    rw [h4,h1] at h3
    refine ⟨h3.symm,h8,h2,fun h=>absurd h hs,fun h=>?_⟩
    rw [h] at h3
    exact h3.symm
   ·cases h
  ·cases h
end Go.E
namespace Go.E
set_option maxRecDepth 20000
set_option maxHeartbeats 2000000
open Go.Proofs
variable {G : Gh}
theorem putF_mem {ts : List Ty} {f : Fld} {y : V} (h : y.out ≠ standF ts f) : ∀ {vs : List V},.nd 61 [] f.tag [y] ∈ putF ts f y vs
 | []=>by rw [putF_nil];unfold nf;rw [if_neg h];simp
 | v :: vs=>by
  rw [putF_cons]
  split
  ·exact List.mem_cons_of_mem _ (putF_mem h)
  ·unfold nf;rw [if_neg h];simp
theorem setV_big {ts : List Ty} (hw : SchW ts) {k : List UInt8} {v : V} (h : OfK ts k v) (hk : kindIn ts k = true) {n : Int} (hn : 0 ≤ n) {k1 : List UInt8} {v1 : V} (e : stepV ts k v n = some (k1,v1)) {y : V} (hy : 400 < y.out.length) : 400 < (setV ts k v n y).out.length:=by
 obtain ⟨c,r,rfl⟩:=kind_ne hk
 unfold stepV at e
 dsimp only at e
 split at e
 ·rename_i hc
  split at e
  ·rename_i hlt
   rcases ofK_inv_c h oM with ⟨g1,_⟩ | ⟨g1,_⟩ | ⟨g1,_⟩ | ⟨g1,ks,g2,g3,rfl⟩ | ⟨g1,rfl | ⟨u,g3,rfl⟩⟩
   ·omega
   ·omega
   ·omega
   ·rw [V.kids] at hlt
    unfold setV
    rw [V.what,if_neg dC,if_pos rfl,V.kids]
    show 400 < (V.nd 91 [] 0 (ks.set n.toNat y)).out.length
    rw [out_list']
    have hm : y ∈ ks.set n.toNat y:=List.mem_iff_getElem.2 ⟨n.toNat,by rw [List.length_set];omega,by simp⟩
    have:=joinB_mem (xs:=(ks.set n.toNat y).map V.out) (List.mem_map_of_mem (f:=V.out) hm)
    simp only [List.length_cons,List.length_append]
    omega
   ·simp [V.kids] at hlt;omega
   ·unfold setV
    rw [V.what,if_neg dC,if_neg dC]
    have e1 : V.out (.nd 63 [] 0 [y]) = 43 :: y.out:=by rw [V.out];simp [V.outs,joinB,outW]
    show 400 < (V.nd 63 [] 0 [y]).out.length
    rw [e1,List.length_cons];omega
  ·cases e
 ·split at e
  ·cases e
  ·rename_i t hr
   have ht:=refT_mem hr
   split at e
   ·cases e
   ·rename_i f hf
    have hfm:=List.mem_of_find?_eq_some hf
    split at e
    ·cases e
    ·rename_i h69
     split at e
     ·rename_i h82
      rcases ofK_inv_t h hr with ⟨_,fs,rfl,g3,g4,_,_⟩ | ⟨g1,_⟩ | ⟨g1,_⟩
      ·have e1 : setV ts (c :: r) (.nd 82 [] 0 (fs.map fldV)) n y = .nd 82 [] 0 (putF ts f y (fs.map fldV)):=by
        unfold setV;rw [V.what,if_pos rfl,hr]
        dsimp only
        rw [hf];rfl
       have hst:=(valOf_rd (standV_ok hw ht h69 hfm).2.1).2
       have hne : y.out ≠ standF ts f:=fun e=>by rw [e] at hy;omega
       have:=joinB_mem (xs:=(putF ts f y (fs.map fldV)).map V.out) (List.mem_map_of_mem (f:=V.out) (putF_mem hne))
       rw [out_fld] at this
       rw [e1,out_rec']
       simp only [List.length_cons,List.length_append] at this ⊢
       omega
      ·omega
      ·omega
     ·rename_i h82
      split at e
      ·rcases ofK_inv_t h hr with ⟨h1,_⟩ | ⟨h1,_⟩ | ⟨_,_,d,u,rfl,g4,g5⟩
       ·omega
       ·omega
       ·unfold setV
        rw [V.what,if_neg dC,if_neg dC]
        have e1 : V.out (.nd 85 [] d.tag [y]) = 60 :: (decI d.tag ++ 61 :: (y.out ++ [62])):=by rw [V.out];simp [V.outs,joinB,outW]
        show 400 < (V.nd 85 [] d.tag [y]).out.length
        rw [e1]
        simp only [List.length_cons,List.length_append]
        omega
      ·cases e
theorem changeV_big {ts : List Ty} (hw : SchW ts) : ∀ {p : List Int} {k : List UInt8} {v y : V} {k' : List UInt8} {v' : V},OfK ts k v → kindIn ts k = true → (∀ n ∈ p,0 ≤ n) → followV ts k v p = some (k',v') → 400 < y.out.length → 400 < (changeV ts k v p y).out.length
 | [],k,v,y,k',v',h,hk,_,e,hy=>by rw [changeV];exact hy
 | n :: p,k,v,y,k',v',h,hk,hp,e,hy=>by
  unfold followV at e
  cases hs : stepV ts k v n with
  | none=>rw [hs] at e;cases e
  | some x =>
   rw [hs] at e
   obtain ⟨k1,v1⟩:=x
   have hn:=hp n (by simp)
   obtain ⟨h1,h2⟩:=stepV_ok hw h hk hn hs
   rw [changeV_cons hs]
   exact setV_big hw h hk hn hs (changeV_big hw h1 h2 (fun m hm=>hp m (by simp [hm])) e hy)
theorem c_PathSetI {s k w p x : List UInt8} (h1 : s.length ≤ 1048576 ∧ k.length ≤ 1048576 ∧ w.length ≤ 1048576 ∧ p.length ≤ 1048576) (hx : x.length ≤ 1048576) : PuG Tryz.prog 32 [S s,S k,S w,S p,S x] G (· = psR (pathSetV s k w p x)):=by
 unfold pathSetV
 cases hg : givenV s k w with
 | none =>
  rw [psv_none]
  have cx_gi0:=c_given0 (G:=G) (s:=s) (k:=k) (w:=w) oM hg
  cases hpo : pathOf p with
  | none =>
   have cx_sp:=readPath_no h1.2.2.2 hpo
   refine jB (Post:=fun v G' L'=>G' = G ∧ L' = [] ∧ _) [(0,_),(1,_),(2,_),(3,_),(4,_)] Tryz.func32 Tryz.ntmps32 fun B hok hB hW=>?_
   repeat' (first | (refine jR ?_) | (refine jo ?_;first | refine jL fun _=>?_ | refine jC rfl rfl rfl ?_ | (refine jAt rfl ?_) | (refine c_fns rfl rfl rfl cx_gi0 rfl ?_;rintro _ G hle ⟨p1,a1,b1,c1,rfl⟩;skip) | (refine c_fns rfl rfl rfl (cx_sp _) rfl ?_;rintro _ G hle ⟨sa,sc,sn,rfl,hsp⟩;skip)) | (refine k_gt rfl rfl rfl ?_) | (refine k_tt rfl rfl ?_))
   all_goals refine Nx.base hok hB ?_
   all_goals refine jY (vs:=[_,_]) ?_
   all_goals rfl
  | some q =>
   have cx_sp:=readPath_yes h1.2.2.2 hpo
   refine jB (Post:=fun v G' L'=>G' = G ∧ L' = [] ∧ _) [(0,_),(1,_),(2,_),(3,_),(4,_)] Tryz.func32 Tryz.ntmps32 fun B hok hB hW=>?_
   repeat' (first | (refine jR ?_) | (refine jo ?_;first | refine jL fun _=>?_ | refine jC rfl rfl rfl ?_ | (refine jAt rfl ?_) | (refine c_fns rfl rfl rfl cx_gi0 rfl ?_;rintro _ G hle ⟨p1,a1,b1,c1,rfl⟩;skip) | (refine c_fns rfl rfl rfl (cx_sp _) rfl ?_;rintro _ G hle ⟨sa,sc,sn,rfl,hsp⟩;skip)) | (refine k_gt rfl rfl rfl ?_) | (refine k_tt rfl rfl ?_))
   all_goals refine Nx.base hok hB ?_
   all_goals refine jY (vs:=[_,_]) ?_
   all_goals rfl
 | some u =>
  obtain ⟨ts,hs,hki,hvo,hto,hwf⟩:=given_some hg
  have cx_gi1:=c_given1 (G:=G) (s:=s) (k:=k) (w:=w) oM hs hki hvo
  rw [hs]
  cases hpo : pathOf p with
  | none =>
   have cx_sp:=readPath_no h1.2.2.2 hpo
   refine jB (Post:=fun v G' L'=>G' = G ∧ L' = [] ∧ _) [(0,_),(1,_),(2,_),(3,_),(4,_)] Tryz.func32 Tryz.ntmps32 fun B hok hB hW=>?_
   repeat' (first | (refine jR ?_) | (refine jo ?_;first | refine jL fun _=>?_ | refine jC rfl rfl rfl ?_ | (refine jAf rfl ?_) | (refine c_fns rfl rfl rfl cx_gi1 rfl ?_;rintro _ G hle ⟨bg,qg,cv,rfl,hTg,hRg,hrv⟩;skip) | (refine c_fns rfl rfl rfl (cx_sp _) rfl ?_;rintro _ G hle ⟨sa,sc,sn,rfl,hsp⟩;skip)) | (refine k_gf rfl rfl rfl ?_) | (refine k_tt rfl rfl ?_))
   all_goals refine Nx.base hok hB ?_
   all_goals refine jY (vs:=[_,_]) ?_
   all_goals rfl
  | some q =>
   have cx_sp:=readPath_yes h1.2.2.2 hpo
   obtain ⟨hq8,hqn⟩:=pathOf_le hpo
   have hof:=valOf_of_k hvo
   have hw:=schemaOf_w hs
   have hqn0 : ∀ n ∈ q,0 ≤ n:=fun n hn=>(hqn n hn).1
   dsimp only
   cases hfo : followV ts k u q with
   | none =>
    dsimp only
    refine jB (Post:=fun v G' L'=>G' = G ∧ L' = [] ∧ _) [(0,_),(1,_),(2,_),(3,_),(4,_)] Tryz.func32 Tryz.ntmps32 fun B hok hB hW=>?_
    repeat' (first | (refine jR ?_) | (refine jo ?_;first | refine jL fun _=>?_ | refine jC rfl rfl rfl ?_ | (refine jAf rfl ?_) | refine jAm rfl ?_ | (refine c_fns rfl rfl rfl cx_gi1 rfl ?_;rintro _ G hle ⟨bg,qg,cv,rfl,hTg,hRg,hrv⟩;(try have hru:=rep_mono hle hru);(try have hRg:=ScI.mono hRg hle);(try have hsp:=SlV.mono hsp hle)) | (refine c_fns rfl rfl rfl (cx_sp _) rfl ?_;rintro _ G hle ⟨sa,sc,sn,rfl,hsp⟩;(try have hru:=rep_mono hle hru);(try have hRg:=ScI.mono hRg hle);(try have hsp:=SlV.mono hsp hle))) | (refine k_gf rfl rfl rfl ?_) | (refine k_ff rfl rfl ?_))
    obtain ⟨rfl,hsp⟩:=hsp
    subst hTg
    have hru:=rep_mono hle hrv
    have hfl:=c_followI hRg hw hsp hqn oM hru hof hki oM
    unfold kdF at hfl
    rw [show vcF cv = [U8 (cv.what : Nat),S cv.text,I cv.tag,.slice cv.a cv.n cv.c] from rfl] at hfl
    have cx_fon:=StepPI.no hfl hfo
    repeat' (first | (refine jR ?_) | (refine jo ?_;first | refine jL fun _=>?_ | refine jC rfl rfl rfl ?_ | (refine c_fns rfl rfl rfl cx_fon rfl ?_;rintro _ G hle rfl;(try have hru:=rep_mono hle hru);(try have hRg:=ScI.mono hRg hle);(try have hsp:=SlV.mono hsp hle))) | (refine k_tt rfl rfl ?_))
    all_goals refine Nx.base hok hB ?_
    all_goals refine jY (vs:=[_,_]) ?_
    all_goals rfl
   | some y =>
    obtain ⟨k1,v1⟩:=y
    obtain ⟨_,hk1⟩:=followV_ok hw hof hki hqn0 hfo
    dsimp only
    cases hvx : valOf ts k1 x with
    | none =>
     suffices key : PuG Tryz.prog 32 [S s,S k,S w,S p,S x] G (· = psR none) by
      rcases hrd : rd ts 12 k1 x with _ | ⟨y,_ | _⟩
      ·exact key
      ·have hxl : ¬ x.length ≤ 400:=fun hl=>by
        unfold valOf at hvx
        rw [if_pos hl,hrd] at hvx
        cases hvx
       have hyo:=rd_out _ _ _ _ hrd
       dsimp only at hyo
       rw [List.append_nil] at hyo
       have:=changeV_big hw (y:=y) hof hki hqn0 hfo (by rw [← hyo];omega)
       dsimp only
       rw [if_neg (fun h=>by omega)]
       exact key
      ·exact key
     refine jB (Post:=fun v G' L'=>G' = G ∧ L' = [] ∧ _) [(0,_),(1,_),(2,_),(3,_),(4,_)] Tryz.func32 Tryz.ntmps32 fun B hok hB hW=>?_
     repeat' (first | (refine jR ?_) | (refine jo ?_;first | refine jL fun _=>?_ | refine jC rfl rfl rfl ?_ | (refine jAf rfl ?_) | refine jAm rfl ?_ | (refine c_fns rfl rfl rfl cx_gi1 rfl ?_;rintro _ G hle ⟨bg,qg,cv,rfl,hTg,hRg,hrv⟩;(try have hru:=rep_mono hle hru);(try have hRg:=ScI.mono hRg hle);(try have hsp:=SlV.mono hsp hle)) | (refine c_fns rfl rfl rfl (cx_sp _) rfl ?_;rintro _ G hle ⟨sa,sc,sn,rfl,hsp⟩;(try have hru:=rep_mono hle hru);(try have hRg:=ScI.mono hRg hle);(try have hsp:=SlV.mono hsp hle))) | (refine k_gf rfl rfl rfl ?_) | (refine k_ff rfl rfl ?_))
     obtain ⟨rfl,hsp⟩:=hsp
     subst hTg
     have hru:=rep_mono hle hrv
     have hfl:=c_followI hRg hw hsp hqn oM hru hof hki oM
     unfold kdF at hfl
     rw [show vcF cv = [U8 (cv.what : Nat),S cv.text,I cv.tag,.slice cv.a cv.n cv.c] from rfl] at hfl
     have cx_foy:=StepPI.yes hfl hfo
     repeat' (first | (refine jR ?_) | (refine jo ?_;first | refine jL fun _=>?_ | refine jC rfl rfl rfl ?_ | refine jAm rfl ?_ | (refine c_fns rfl rfl rfl cx_foy rfl ?_;rintro _ G hle ⟨cv,rfl,hrv⟩;(try have hru:=rep_mono hle hru);(try have hRg:=ScI.mono hRg hle);(try have hsp:=SlV.mono hsp hle))) | (refine k_ff rfl rfl ?_))
     have cx_rin : FnS Tryz.prog 57 [Pt bg 0,Ag [S (sg k1),S (bs k1),S (nm k1)],S x] G (fun v _=>v = Tu [zP,Bo false]):=by
      refine (c_readI (G:=G) (b:=bg) (s:=x) hRg hw hk1 oM).mono ?_
      rintro v G' L' ⟨a1,a2,⟨_,a3⟩ | ⟨u',c',a4,_⟩⟩
      ·exact ⟨a1,a2,a3⟩
      ·rw [hvx] at a4;cases a4
     repeat' (first | (refine jR ?_) | (refine jo ?_;first | refine jL fun _=>?_ | refine jC rfl rfl rfl ?_ | (refine c_fns rfl rfl rfl cx_rin rfl ?_;rintro _ G hle rfl;(try have hru:=rep_mono hle hru);(try have hRg:=ScI.mono hRg hle);(try have hsp:=SlV.mono hsp hle))) | (refine k_tt rfl rfl ?_))
     all_goals refine Nx.base hok hB ?_
     all_goals refine jY (vs:=[_,_]) ?_
     all_goals rfl
    | some y =>
     obtain ⟨hrd,hxl⟩:=valOf_rd hvx
     rw [hrd]
     dsimp only
     have hoy:=valOf_of_k hvx
     have hyt:=rd_tot _ _ _ _ hrd
     dsimp only at hyt
     have hcg:=changeV_ok hw hof hki hqn0 hfo hoy
     have hct:=changeV_tot hw (y:=y) hof hki hqn0 hfo
     obtain ⟨o,ho⟩ : ∃ o,(if (changeV ts k u q y).out.length ≤ 400 ∧ (changeV ts k u q y).deep ≤ 12 then some (changeV ts k u q y).out else none) = o:=⟨_,rfl⟩
     rw [ho]
     refine jB (Post:=fun v G' L'=>G' = G ∧ L' = [] ∧ _) [(0,_),(1,_),(2,_),(3,_),(4,_)] Tryz.func32 Tryz.ntmps32 fun B hok hB hW=>?_
     repeat' (first | (refine jR ?_) | (refine jo ?_;first | refine jL fun _=>?_ | refine jC rfl rfl rfl ?_ | (refine jAf rfl ?_) | refine jAm rfl ?_ | (refine c_fns rfl rfl rfl cx_gi1 rfl ?_;rintro _ G hle ⟨bg,qg,cv,rfl,hTg,hRg,hrv⟩;(try have hru:=rep_mono hle hru);(try have hRg:=ScI.mono hRg hle);(try have hsp:=SlV.mono hsp hle)) | (refine c_fns rfl rfl rfl (cx_sp _) rfl ?_;rintro _ G hle ⟨sa,sc,sn,rfl,hsp⟩;(try have hru:=rep_mono hle hru);(try have hRg:=ScI.mono hRg hle);(try have hsp:=SlV.mono hsp hle))) | (refine k_gf rfl rfl rfl ?_) | (refine k_ff rfl rfl ?_))
     obtain ⟨rfl,hsp⟩:=hsp
     subst hTg
     have hru:=rep_mono hle hrv
     have hfl:=c_followI hRg hw hsp hqn oM hru hof hki oM
     unfold kdF at hfl
     rw [show vcF cv = [U8 (cv.what : Nat),S cv.text,I cv.tag,.slice cv.a cv.n cv.c] from rfl] at hfl
     have cx_foy:=StepPI.yes hfl hfo
     repeat' (first | (refine jR ?_) | (refine jo ?_;first | refine jL fun _=>?_ | refine jC rfl rfl rfl ?_ | refine jAm rfl ?_ | (refine c_fns rfl rfl rfl cx_foy rfl ?_;rintro _ G hle ⟨cv,rfl,hrv⟩;(try have hru:=rep_mono hle hru);(try have hRg:=ScI.mono hRg hle);(try have hsp:=SlV.mono hsp hle))) | (refine k_ff rfl rfl ?_))
     have cx_ris : FnS Tryz.prog 57 [Pt bg 0,Ag [S (sg k1),S (bs k1),S (nm k1)],S x] G (fun v G'=>∃ cv,v = Tu [Ag (vcF cv),Bo true] ∧ V.rep G' y cv):=by
      refine (c_readI (G:=G) (b:=bg) (s:=x) hRg hw hk1 oM).mono ?_
      rintro v G' L' ⟨a1,a2,⟨a4,_⟩ | ⟨u',c',a4,rfl,a5⟩⟩
      ·rw [hvx] at a4;cases a4
      ·rw [hvx] at a4;obtain rfl:=Option.some.inj a4;exact ⟨a1,a2,c',rfl,a5⟩
     repeat' (first | (refine jR ?_) | (refine jo ?_;first | refine jL fun _=>?_ | refine jC rfl rfl rfl ?_ | refine jAm rfl ?_ | (refine c_fns rfl rfl rfl cx_ris rfl ?_;rintro _ G hle ⟨cv,rfl,hrv⟩;(try have hru:=rep_mono hle hru);(try have hRg:=ScI.mono hRg hle);(try have hsp:=SlV.mono hsp hle))) | (refine k_ff rfl rfl ?_))
     have cx_ch:=c_changeI hw q hRg hsp hqn hq8 hru hof hki oM hfo hrv hoy oM
     simp only [kdF,vcF,VC.sl] at cx_ch
     dsimp only [vcF,VC.sl]
     repeat' (first | (refine jR ?_) | (refine jo ?_;first | refine jL fun _=>?_ | refine jC rfl rfl rfl ?_ | refine jAm rfl ?_ | (refine c_fns rfl rfl rfl cx_ch rfl ?_;rintro _ G hle ⟨cz,rfl,hrz⟩;(try have hru:=rep_mono hle hru);(try have hRg:=ScI.mono hRg hle);(try have hsp:=SlV.mono hsp hle))))
     have cx_fit:=c_fits hrz oM
     have cx_pr:=c_print (G:=G) (c:=cz) _ (Nat.le_refl _) oM hrz
     simp only [vcF,VC.sl] at cx_fit cx_pr
     by_cases hfit : (changeV (tyq qg) k u q y).out.length ≤ 400 ∧ (changeV (tyq qg) k u q y).deep ≤ 12
     ·rw [if_pos hfit] at ho
      subst ho
      rw [decide_eq_true hfit] at cx_fit
      repeat' (first | (refine jR ?_) | (refine jo ?_;first | refine jAm rfl ?_ | (refine c_rt rfl rfl rfl cx_fit rfl ?_) | (refine c_rt rfl rfl rfl cx_pr rfl ?_)) | (refine k_ff rfl rfl ?_))
      all_goals refine Nx.base hok hB ?_
      all_goals refine jY (vs:=[_,_]) ?_
      all_goals rfl
     ·rw [if_neg hfit] at ho
      subst ho
      rw [decide_eq_false hfit] at cx_fit
      repeat' (first | (refine jR ?_) | (refine jo ?_;(refine c_rt rfl rfl rfl cx_fit rfl ?_)) | (refine k_tt rfl rfl ?_))
      all_goals refine Nx.base hok hB ?_
      all_goals refine jY (vs:=[_,_]) ?_
      all_goals rfl
end Go.E
namespace Go.E
set_option maxRecDepth 20000
set_option maxHeartbeats 2000000
open Go.Proofs
theorem pgv_in {s k w p k1 : List UInt8} {ts : List Ty} {u v1 : V} {q : List Int} (h1 : schemaOf s = some ts) (h2 : givenV s k w = some u) (h3 : pathOf p = some q) (h4 : followV ts k u q = some (k1,v1)) : pathGetV s k w p = some (k1,v1.out):=by
 unfold pathGetV
 rw [h1,h2,h3]
 dsimp only
 rw [h4];rfl
theorem psv_some {s k w p x z : List UInt8} (h : pathSetV s k w p x = some z) : ∃ ts u q k1 v1 y,schemaOf s = some ts ∧ givenV s k w = some u ∧ pathOf p = some q ∧ followV ts k u q = some (k1,v1) ∧ rd ts 12 k1 x = some (y,[]) ∧ ((changeV ts k u q y).out.length ≤ 400 ∧ (changeV ts k u q y).deep ≤ 12) ∧ z = (changeV ts k u q y).out:=by
 unfold pathSetV at h
 split at h
 ·rename_i ts u q h1 h2 h3
  cases hf : followV ts k u q with
  | none=>rw [hf] at h;cases h
  | some y =>
   rw [hf] at h
   obtain ⟨k',v'⟩:=y
   dsimp only at h
   split at h
   ·rename_i y hy
    split at h
    ·rename_i hc
     simp only [Option.some.injEq] at h
     exact ⟨ts,u,q,k',v',y,h1,h2,h3,hf,hy,hc,h.symm⟩
    ·cases h
   ·cases h
 ·cases h
theorem psv_in {s k w p x k1 : List UInt8} {ts : List Ty} {u v1 y : V} {q : List Int} (h1 : schemaOf s = some ts) (h2 : givenV s k w = some u) (h3 : pathOf p = some q) (h4 : followV ts k u q = some (k1,v1)) (h5 : rd ts 12 k1 x = some (y,[])) (h6 : (changeV ts k u q y).out.length ≤ 400 ∧ (changeV ts k u q y).deep ≤ 12) : pathSetV s k w p x = some (changeV ts k u q y).out:=by
 unfold pathSetV
 rw [h1,h2,h3]
 dsimp only
 rw [h4]
 dsimp only
 rw [h5]
 dsimp only
 rw [if_pos h6]
theorem given_in {s k w : List UInt8} {ts : List Ty} {u : V} (h1 : schemaOf s = some ts) (h2 : kindIn ts k = true) (h3 : valOf ts k w = some u) : givenV s k w = some u:=by
 unfold givenV
 rw [h1]
 dsimp only
 rw [if_pos h2,h3]
theorem rd_in0 {ts : List Ty} (hw : SchW ts) {k : List UInt8} {v : V} (h : OfK ts k v) (hd : v.deep ≤ 12) : rd ts 12 k v.out = some (v,[]):=by
 have:=rd_in hw 12 h hd [] dl_nil
 rwa [List.append_nil] at this
theorem path_set {s k w p x z : List UInt8} (h : pathSetV s k w p x = some z) : ∃ k1 old,pathGetV s k w p = some (k1,old) ∧ pathGetV s k z p = some (k1,x) ∧ pathSetV s k z p old = some w:=by
 obtain ⟨ts,u,q,k1,v1,y,h1,h2,h3,h4,h5,h6,rfl⟩:=psv_some h
 obtain ⟨ts',g1,g2,g3,g4,g5⟩:=given_some h2
 obtain rfl : ts = ts':=Option.some.inj (h1.symm.trans g1)
 have hw:=schemaOf_w h1
 have ho:=valOf_of_k g3
 obtain ⟨a1,a2,a3⟩:=valOf_out g3
 obtain ⟨b1,b2,b3,b4⟩:=pathOf_text h3
 have hq0 : ∀ n ∈ q,0 ≤ n:=fun n hn=>(b3 n hn).1
 obtain ⟨c1,c2⟩:=followV_ok hw ho g2 hq0 h4
 obtain ⟨d1,d2⟩:=followV_fits hw ho g2 hq0 h4 a3 (by rw [a1];exact a2)
 have hy:=rd_of _ _ _ _ h5
 dsimp only at hy
 have hyx:=rd_out _ _ _ _ h5
 dsimp only at hyx
 rw [List.append_nil] at hyx
 have hc:=changeV_ok hw ho g2 hq0 h4 hy
 have hz:=given_in h1 g2 (valOf_in hw hc h6.1 h6.2)
 obtain ⟨e1,e2,e3⟩:=change_follow hw (x:=y) (y:=v1) ho g2 hq0 h4 hy
 have e4:=e3.trans e2
 refine ⟨k1,v1.out,pgv_in h1 h2 h3 h4,by rw [hyx];exact pgv_in h1 hz h3 e1,?_⟩
 have:=psv_in (x:=v1.out) h1 hz h3 e1 (rd_in0 hw c1 d1) (by rw [e4,a1];exact ⟨a2,a3⟩)
 rwa [e4,a1] at this
theorem psv_ok {s k w p x z : List UInt8} (h : pathSetV s k w p x = some z) : okV s k z = true ∧ z.length ≤ 400:=by
 obtain ⟨ts,u,q,k1,v1,y,h1,h2,h3,h4,h5,h6,rfl⟩:=psv_some h
 obtain ⟨ts',g1,g2,g3,g4,g5⟩:=given_some h2
 obtain rfl : ts = ts':=Option.some.inj (h1.symm.trans g1)
 have hw:=schemaOf_w h1
 have ho:=valOf_of_k g3
 obtain ⟨b1,b2,b3,b4⟩:=pathOf_text h3
 have hq0 : ∀ n ∈ q,0 ≤ n:=fun n hn=>(b3 n hn).1
 have hy:=rd_of _ _ _ _ h5
 have hc:=changeV_ok hw ho g2 hq0 h4 hy
 exact ⟨by unfold okV;rw [given_in h1 g2 (valOf_in hw hc h6.1 h6.2)];rfl,h6.1⟩
end Go.E
namespace Go.E
set_option maxRecDepth 20000
set_option maxHeartbeats 2000000
open Go.Proofs
variable {G : Gh}
def chgV (s k : List UInt8) : List UInt8 → List Ch → Option (List UInt8)
 | w,[]=>some w
 | w,c :: r=>match pathSetV s k w c.1 c.2 with
  | none=>none
  | some t=>chgV s k t r
end Go.E
namespace Go.E
set_option maxRecDepth 20000
set_option maxHeartbeats 2000000
open Go.Proofs
theorem chgV_app (s k : List UInt8) : ∀ (a b : List Ch) (w : List UInt8),chgV s k w (a ++ b) = (chgV s k w a).bind fun t=>chgV s k t b
 | [],b,w=>rfl
 | c :: a,b,w=>by
  rw [List.cons_append,chgV,chgV]
  cases pathSetV s k w c.1 c.2 with
  | none=>rfl
  | some t=>exact chgV_app s k a b t
def backV (s k : List UInt8) : List UInt8 → List Ch → Option (List Ch)
 | _,[]=>some []
 | w,c :: r=>match pathGetV s k w c.1 with
  | none=>none
  | some g=>match pathSetV s k w c.1 c.2 with
   | none=>none
   | some t=>match backV s k t r with
    | none=>none
    | some o=>some (o ++ [(c.1,g.2)])
theorem back_law {s k : List UInt8} : ∀ {l : List Ch} {w : List UInt8} {o : List Ch},backV s k w l = some o → ∃ z,chgV s k w l = some z ∧ chgV s k z o = some w ∧ o.length = l.length
 | [],w,o,h=>by rw [backV] at h;cases h;exact ⟨w,rfl,rfl,rfl⟩
 | c :: r,w,o,h=>by
  rw [backV] at h
  cases hg : pathGetV s k w c.1 with
  | none=>rw [hg] at h;cases h
  | some g =>
   cases hp : pathSetV s k w c.1 c.2 with
   | none=>rw [hg,hp] at h;cases h
   | some t =>
    cases hb : backV s k t r with
    | none=>rw [hg,hp] at h;dsimp only at h;rw [hb] at h;cases h
    | some o1 =>
     rw [hg,hp] at h
     dsimp only at h
     rw [hb] at h
     cases h
     obtain ⟨z,h1,h2,h3⟩:=back_law hb
     obtain ⟨k1,old,g1,g2,g3⟩:=path_set hp
     obtain rfl : g = (k1,old):=Option.some.inj (hg.symm.trans g1)
     refine ⟨z,by rw [chgV,hp];exact h1,?_,by rw [List.length_append,h3];rfl⟩
     rw [chgV_app,h2,Option.bind_some,chgV]
     dsimp only
     rw [g3]
     rfl
theorem nth_setR {α : Type} [Inhabited α] {l : List α} {i p : Nat} {c : α} (hp : p < l.length) : nth (l.set i c) p = if p = i then c else nth l p:=by
 rw [nth_set hp]
 by_cases e : i = p
 ·rw [if_pos e,if_pos e.symm]
 ·rw [if_neg e,if_neg (fun h=>e h.symm)]
def revS {α : Type} [Inhabited α] (l cur : List α) (i : Nat) : Prop:=cur.length = l.length ∧ ∀ p,p < l.length → nth cur p = if p < i ∨ l.length - 1 - p < i then nth l (l.length - 1 - p) else nth l p
theorem revS_0 {α : Type} [Inhabited α] (l : List α) : revS l l 0:=⟨rfl,fun p hp=>by rw [if_neg oM]⟩
theorem revS_step {α : Type} [Inhabited α] {l cur : List α} {i : Nat} (h : revS l cur i) (hi : 2 * i + 1 < l.length) : revS l ((cur.set i (nth cur (l.length - 1 - i))).set (l.length - 1 - i) (nth cur i)) (i + 1):=by
 obtain ⟨h1,h2⟩:=h
 refine ⟨by simp [h1],fun p hp=>?_⟩
 rw [nth_setR (by rw [List.length_set];omega),nth_setR oM]
 by_cases e1 : p = l.length - 1 - i
 ·rw [if_pos e1,if_pos oM,h2 i oM,if_neg oM]
  congr 1;omega
 ·rw [if_neg e1]
  by_cases e2 : p = i
  ·rw [if_pos e2,if_pos oM,h2 _ oM,if_neg oM]
   congr 1;omega
  ·rw [if_neg e2,h2 p hp]
   by_cases e3 : p < i ∨ l.length - 1 - p < i
   ·rw [if_pos e3,if_pos oM]
   ·rw [if_neg e3,if_neg oM]
theorem revS_end {α : Type} [Inhabited α] {l cur : List α} {i : Nat} (h : revS l cur i) (hi : l.length ≤ 2 * i + 1) : cur = l.reverse:=by
 obtain ⟨h1,h2⟩:=h
 refine List.ext_getElem (by simp [h1]) fun p hp hq=>?_
 rw [← nth_eq hp,h2 p oM,List.getElem_reverse]
 by_cases e : p < i ∨ l.length - 1 - p < i
 ·rw [if_pos e,nth_eq oM]
 ·rw [if_neg e,nth_eq oM]
  congr 1;omega
theorem back_cons {s k w : List UInt8} {c : Ch} {r : List Ch} {g : List UInt8 × List UInt8} {t : List UInt8} (hg : pathGetV s k w c.1 = some g) (hp : pathSetV s k w c.1 c.2 = some t) : backV s k w (c :: r) = (backV s k t r).map fun o=>o ++ [(c.1,g.2)]:=by
 rw [backV,hg]
 dsimp only
 rw [hp]
 dsimp only
 cases backV s k t r <;> rfl
theorem back_noG {s k w : List UInt8} {c : Ch} {r : List Ch} (hg : pathGetV s k w c.1 = none) : backV s k w (c :: r) = none:=by
 rw [backV,hg]
theorem back_noS {s k w : List UInt8} {c : Ch} {r : List Ch} (hp : pathSetV s k w c.1 c.2 = none) : backV s k w (c :: r) = none:=by
 rw [backV]
 cases pathGetV s k w c.1 with
 | none=>rfl
 | some g=>dsimp only;rw [hp]
def doBackV (s k w : List UInt8) (l : List Ch) : Option (List Ch):=if okV s k w = true then backV s k w l else none
theorem opt_map_map {α : Type} (o : Option (List α)) (a b : List α) : (o.map fun x=>x ++ a).map (fun x=>x ++ b) = o.map fun x=>x ++ (a ++ b):=by
 cases o with
 | none=>rfl
 | some x=>simp
end Go.E
namespace Go.E
set_option maxRecDepth 20000
set_option maxHeartbeats 2000000
open Go.Proofs
variable {G : Gh}
theorem back_n0 {s k t : List UInt8} {l : List Ch} {out : List Ch} {c : Ch} {r : List Ch} (hl : l = c :: r) (h : pathGetV s k t c.1 = none ∨ pathSetV s k t c.1 c.2 = none) : (backV s k t l).map (fun o=>o ++ out) = none:=by
 subst hl
 rcases h with h | h
 ·rw [back_noG h];rfl
 ·rw [back_noS h];rfl
theorem all1_chF : ∀ cs : List Ch,all1 (rows chF cs) = true
 | []=>rfl
 | c :: cs=>by rw [rows_cons,all1_append,all1_chF cs];rfl
theorem c_ChangesBackS {s k w : List UInt8} {u : Value} {l : List Ch} (h : s.length ≤ 1048576 ∧ k.length ≤ 1048576 ∧ w.length ≤ 1048576) (hu : SlV G u 2 l.length (rows chF l)) (hn : l.length ≤ 1048576) (hl : ∀ x ∈ l,ChL x) :
  FnS Tryz.prog 10 [S s,S k,S w,u] G (fun v G'=>∃ p c,v = Tu [.slice p ((doBackV s k w l).getD []).length c,Bo (doBackV s k w l).isSome] ∧ SlV G' (.slice p ((doBackV s k w l).getD []).length c) 2 ((doBackV s k w l).getD []).length (rows chF ((doBackV s k w l).getD []))):=by
 unfold doBackV
 have cx_wo:=c_ValueOkS (G:=G) h
 cases ho : okV s k w with
 | false =>
  rw [ho] at cx_wo
  rw [if_neg (by simp)]
  refine jB [(0,_),(1,_),(2,_),(3,_)] Tryz.func10 Tryz.ntmps10 fun B hok hB hW=>?_
  repeat' (first | (refine jR ?_) | (refine jo ?_;first | refine jF fun _=>?_ | (refine c_rt rfl rfl rfl cx_wo rfl ?_)) | (refine k_tt rfl rfl ?_))
  rename_i y
  refine Nx.blkAcc (m:=0) (sz:=2) .here rfl ?_
  refine Nx.sealS (v:=.slice (some ⟨y,0,none⟩) 0 0) fun G3 hG3 hsl3=>?_
  all_goals refine jZ (vs:=[_,_]) rfl ⟨rfl,rfl,trivial⟩ rfl ⟨hG3,rfl,?_⟩
  exact ⟨_,_,rfl,hsl3⟩
 | true =>
  rw [ho] at cx_wo
  rw [if_pos rfl]
  refine jB [(0,_),(1,_),(2,_),(3,_)] Tryz.func10 Tryz.ntmps10 fun B hok hB hW=>?_
  repeat' (first | (refine jR ?_) | (refine jo ?_;first | refine jF fun _=>?_ | (refine c_rt rfl rfl rfl cx_wo rfl ?_)) | (refine k_ff rfl rfl ?_))
  rename_i y
  refine Nx.blkAcc (m:=0) (sz:=2) .here rfl ?_
  refine Nx.sealS (v:=.slice (some ⟨y,0,none⟩) 0 0) fun G3 hG3 hsl3=>?_
  refine k_loop (ι:=Nat × List UInt8 × List Ch × Option Addr × Nat × Gh) (fun j=>((j.1 ≤ l.length ∧ j.2.2.1.length = j.1) ∧ backV s k w l = (backV s k j.2.1 (l.drop j.1)).map (fun o=>o ++ j.2.2.1) ∧ j.2.1.length ≤ 1048576) ∧ Gh.le G3 j.2.2.2.2.2 ∧ SlV j.2.2.2.2.2 (.slice j.2.2.2.1 j.2.2.1.length j.2.2.2.2.1) 2 j.2.2.1.length (rows chF j.2.2.1)) (fun j=>[(0,S s),(1,S k),(2,S j.2.1),(3,u),(10,.slice j.2.2.2.1 j.2.2.1.length j.2.2.2.2.1),(11,I (j.1 : Nat))]) (fun j=>j.2.2.2.2.2) (fun j=>[]) (fun j=>l.length - j.1) (0,w,[],some ⟨y,0,none⟩,0,G3) ?_ tU rfl sRr (fun j Hj=>?_)
  ·refine ⟨⟨⟨Nat.zero_le _,rfl⟩,?_,h.2.2⟩,Gh.le.refl _,hsl3⟩
   show backV s k w l = (backV s k w l).map (fun o=>o ++ [])
   simp
  obtain ⟨i,t,out,pa,pc,Gq⟩:=j
  dsimp only at Hj ⊢
  obtain ⟨⟨⟨hj1,hjl⟩,hj2,hj3⟩,hgq,hso⟩:=Hj
  have hGa:=hG3.trans hgq
  by_cases hi : i < l.length
  ·obtain ⟨ba,oa,ca,rfl,sa⟩:=(hu.mono hGa).expl oM
   have hx:=hl _ (nth_mem hi)
   have cx_ss2:=c_PathGetS (G:=Gq) (s:=s) (k:=k) (w:=t) (p:=(nth l i).1) ⟨h.1,h.2.1,hj3,hx.1⟩
   have cx_ps2:=c_PathSetS (G:=Gq) (s:=s) (k:=k) (w:=t) (p:=(nth l i).1) (x:=(nth l i).2) ⟨h.1,h.2.1,hj3,hx.1⟩ hx.2
   unfold psR at cx_ps2
   unfold pgR at cx_ss2
   cases hg : pathGetV s k t (nth l i).1 with
   | none =>
    rw [back_n0 (drop_nth hi) (.inl hg)] at hj2
    rw [hg] at cx_ss2
    simp only [Option.map_none,Option.getD_none,Option.isSome_none] at cx_ss2
    rw [hj2]
    repeat' (first | (refine jR ?_) | (refine jo ?_;first | refine jF fun _=>?_ | refine jV (g_lenL rfl) ?_ | (refine jV (g_iaddrN rfl rfl oM) ?_) | (refine jV (g_ldRF rfl rfl aS ?_ rfl rfl) ?_;(focus ((omega);done))) | (refine jAt rfl ?_) | (refine c_rt rfl rfl rfl cx_ss2 rfl ?_)) | (refine k_gt rfl rfl rfl ?_) | (refine k_tt rfl (by first | rfl | (refine decide_eq_true ?_;(omega))) ?_) | (refine k_any (s_any (id:=8) _ (fun _ h=>h) mixed ?_);refine jT 12 [0,1,2,3,4,8,9] (bts 19 799) ?_;(refine jG (bts 19 831) 5 rfl (g_iaddrN rfl rfl oM) ?_);refine jT 10 [6] (bts 19 895) ?_;((refine jG (bts 19 1023) 7 rfl (g_ldRF rfl rfl aS ?_ rfl rfl) ?_;(focus ((omega);done))));(refine jG (bts 19 2047) 10 rfl (g_iaddrN rfl rfl oM) ?_);refine jT 7 [11] (bts 19 4095) ?_;((refine jG (bts 19 8191) 12 rfl (g_ldRF rfl rfl aS ?_ rfl rfl) ?_;(focus ((omega);done))));refine jA 13 rfl ?_;(refine c_rt rfl rfl rfl cx_ps2 rfl ?_);refine jS (bts 19 16383) ?_;refine jT 0 [14,15,16,17,18] (bts 19 524287) ?_;refine jQ ?_))
    all_goals rename_i z
    all_goals refine Nx.blkAcc (m:=0) (sz:=2) .here rfl ?_
    all_goals refine Nx.sealS (v:=.slice (some ⟨z,0,none⟩) 0 0) fun G4 hG4 hsl4=>?_
    all_goals refine jZ (vs:=[_,_]) rfl ⟨rfl,rfl,trivial⟩ rfl ⟨(hGa.trans hG4),rfl,?_⟩
    all_goals exact ⟨_,_,rfl,hsl4⟩
   | some g =>
    rw [hg] at cx_ss2
    simp only [Option.map_some,Option.getD_some,Option.isSome_some] at cx_ss2
    cases hp : pathSetV s k t (nth l i).1 (nth l i).2 with
    | none =>
     rw [back_n0 (drop_nth hi) (.inr hp)] at hj2
     rw [hp] at cx_ps2
     dsimp only [Option.getD,Option.isSome] at cx_ps2
     rw [hj2]
     repeat' (first | (refine jR ?_) | (refine jo ?_;first | refine jF fun _=>?_ | refine jV (g_lenL rfl) ?_ | (refine jV (g_iaddrN rfl rfl oM) ?_) | (refine jV (g_ldRF rfl rfl aS ?_ rfl rfl) ?_;(focus ((omega);done))) | (refine jAf rfl ?_) | (refine c_rt rfl rfl rfl cx_ss2 rfl ?_)) | (refine k_gf rfl rfl rfl ?_) | (refine k_tt rfl (by first | rfl | (refine decide_eq_true ?_;(omega))) ?_) | (refine k_any (s_any (id:=8) _ (fun _ h=>h) mixed ?_);refine jT 12 [0,1,2,3,4,8,9] (bts 19 799) ?_;(refine jG (bts 19 831) 5 rfl (g_iaddrN rfl rfl oM) ?_);refine jT 10 [6] (bts 19 895) ?_;((refine jG (bts 19 1023) 7 rfl (g_ldRF rfl rfl aS ?_ rfl rfl) ?_;(focus ((omega);done))));(refine jG (bts 19 2047) 10 rfl (g_iaddrN rfl rfl oM) ?_);refine jT 7 [11] (bts 19 4095) ?_;((refine jG (bts 19 8191) 12 rfl (g_ldRF rfl rfl aS ?_ rfl rfl) ?_;(focus ((omega);done))));refine jA 13 rfl ?_;(refine c_rt rfl rfl rfl cx_ps2 rfl ?_);refine jS (bts 19 16383) ?_;refine jT 0 [14,15,16,17,18] (bts 19 524287) ?_;refine jQ ?_))
     all_goals rename_i z
     all_goals refine Nx.blkAcc (m:=0) (sz:=2) .here rfl ?_
     all_goals refine Nx.sealS (v:=.slice (some ⟨z,0,none⟩) 0 0) fun G4 hG4 hsl4=>?_
     all_goals refine jZ (vs:=[_,_]) rfl ⟨rfl,rfl,trivial⟩ rfl ⟨(hGa.trans hG4),rfl,?_⟩
     all_goals exact ⟨_,_,rfl,hsl4⟩
    | some z =>
     have hz:=(psv_ok hp).2
     rw [hp] at cx_ps2
     dsimp only [Option.getD,Option.isSome] at cx_ps2
     rw [drop_nth hi,back_cons hg hp,opt_map_map] at hj2
     repeat' (first | (refine jR ?_) | (refine jo ?_;first | refine jF fun _=>?_ | refine jV (g_lenL rfl) ?_ | (refine jV (g_iaddrN rfl rfl oM) ?_) | (refine jV (g_ldRF rfl rfl aS ?_ rfl rfl) ?_;(focus ((omega);done))) | (refine jAf rfl ?_) | refine jV (g_bld rfl rfl) ?_ | (refine c_rt rfl rfl rfl cx_ss2 rfl ?_)) | (refine k_gf rfl rfl rfl ?_) | (refine k_tt rfl (dTt oM) ?_) | (refine k_ff rfl rfl ?_) | (refine k_any (s_any (id:=8) _ (fun _ h=>h) mixed ?_);refine jT 12 [0,1,2,3,4,8,9] (bts 19 799) ?_;(refine jG (bts 19 831) 5 rfl (g_iaddrN rfl rfl oM) ?_);refine jT 10 [6] (bts 19 895) ?_;((refine jG (bts 19 1023) 7 rfl (g_ldRF rfl rfl aS ?_ rfl rfl) ?_;(focus ((omega);done))));(refine jG (bts 19 2047) 10 rfl (g_iaddrN rfl rfl oM) ?_);refine jT 7 [11] (bts 19 4095) ?_;((refine jG (bts 19 8191) 12 rfl (g_ldRF rfl rfl aS ?_ rfl rfl) ?_;(focus ((omega);done))));refine jA 13 rfl ?_;(refine c_rt rfl rfl rfl cx_ps2 rfl ?_);refine jS (bts 19 16383) ?_;refine jT 0 [14,15,16,17,18] (bts 19 524287) ?_;refine jQ ?_))
     refine Nx.blkAcc (m:=1) (sz:=2) .here rfl ?_
     refine jo ?_
     refine c_apV rfl rfl hso rfl (all1_chF _) rfl rfl rfl rfl oM fun v'=>?_
     refine Nx.shp (.head _) fun hsh=>?_
     obtain ⟨b',c',rfl⟩:=hsh.pos oM
     rw [Nat.add_comm 1]
     refine Nx.sealS (v:=.slice (some ⟨b',0,none⟩) (out.length + 1) c') fun G4 hG4 hsl4=>?_
     repeat' (refine jM ?_)
     exact k_rd (i + 1,z,((nth l i).1,g.2) :: out,some ⟨b',0,none⟩,c',G4) ⟨⟨⟨by dsimp only;omega,by dsimp only;rw [List.length_cons,hjl]⟩,hj2,by dsimp only;omega⟩,hgq.trans hG4,hsl4⟩ (by dsimp only;omega) tU rfl sRr
  ·have ei : i = l.length:=oM
   rw [ei,List.drop_length,backV] at hj2
   rw [hj2]
   repeat' (first | (refine jR ?_) | (refine jo ?_;(refine jV (g_lenV rfl aS) ?_)) | (refine k_ff rfl (dFf oM) ?_))
   all_goals refine jZ (vs:=[_,_]) rfl ⟨rfl,rfl,trivial⟩ rfl ⟨hGa,rfl,?_⟩
   exact ⟨_,_,rfl,hso⟩
abbrev tChI : TypeId:=48
theorem c_ReverseI {p : Option Addr} {c : Nat} {l : List Ch} (hn : l.length ≤ 1048576) :
  FnG Tryz.prog 33 [.slice p l.length c] G [.acc (.slice p l.length c) tChI 2 l.length (rows chF l)] (fun _ L'=>L' = [.acc (.slice p l.length c) tChI 2 l.length (rows chF l.reverse)]):=by
 refine jH [(0,_)] Tryz.func33 Tryz.ntmps33 fun B hB hW=>?_
 repeat' (first | refine jM ?_ | (refine jo ?_;(refine jV (g_lenL rfl) ?_)))
 rw [show ((l.length : Nat) : Int) - 1 = ((l.length : Nat) : Int) - 1 - ((0 : Nat) : Int) by omega]
 refine k_loop (ι:=Nat × List Ch) (fun i=>revS l i.2 i.1 ∧ 2 * i.1 ≤ l.length + 1) (fun i=>[(0,.slice p l.length c),(2,I (i.1 : Nat)),(3,I ((l.length : Nat) - 1 - (i.1 : Nat)))]) (fun _=>G) (fun i=>[.acc (.slice p l.length c) tChI 2 l.length (rows chF i.2)]) (fun i=>l.length - i.1) (0,l) ?_ tU rfl sRr (fun i Hi=>?_)
 ·exact ⟨revS_0 l,by dsimp only;omega⟩
 obtain ⟨i,cur⟩:=i
 dsimp only at Hi ⊢
 obtain ⟨h1,h2⟩:=Hi
 have hcl:=h1.1
 by_cases hi : 2 * i + 1 < l.length
 ·obtain ⟨j,hj⟩ : ∃ j : Nat,((l.length : Nat) : Int) - 1 - (i : Nat) = (j : Nat):=⟨l.length - 1 - i,oM⟩
  have hjl : l.length - 1 - i = j:=oM
  have hst:=revS_step h1 hi
  rw [hjl] at hst
  rw [hj]
  refine Nx.shp (.head _) fun hsh=>?_
  obtain ⟨b,cc,e⟩:=hsh.pos oM
  simp only [Value.slice.injEq] at e
  obtain ⟨rfl,-,rfl⟩:=e
  repeat' (first | (refine jR ?_) | (refine k_tt rfl (dTt oM) ?_))
  (refine k_any (s_any (id:=3) [] (fun _ h=>absurd h (by simp)) mixed ?_);refine jW 8 [0,1,2,3,4,5,8,9] (bts 16 831) ?_;((refine jG (bts 16 895) 6 rfl (g_iaddrN rfl rfl ?_) ?_;(focus ((omega);done))));((refine jG (bts 16 1919) 10 rfl (g_iaddrN rfl rfl ?_) ?_;(focus ((omega);done))));refine x_all [7,11] kR dC ⟨?_,?_,trivial⟩;(focus (refine x_opg rfl rfl ?_;((refine jV (g_ldBR rfl rfl rfl ?_) ?_;(focus ((omega);done))));refine jK (bts 16 2047) ?_;refine jA 11 rfl ?_;((refine jV (g_ldBR rfl rfl rfl ?_) ?_;(focus ((omega);done))));refine jK (bts 16 4095) ?_;((refine jG (bts 16 8191) 12 rfl (g_iaddrN rfl rfl ?_) ?_;(focus ((omega);done))));refine jA 13 rfl ?_;(refine c_stAR (f:=chF) (cs:=cur) (i:=i) (c:=nth cur j) rfl rfl rfl rfl rfl oM oM ?_);refine jK (bts 16 16383) ?_;((refine jG (bts 16 32767) 14 rfl (g_iaddrN rfl rfl ?_) ?_;(focus ((omega);done))));refine jA 15 rfl ?_;(refine c_stAR (f:=chF) (cs:=cur.set i (nth cur j)) (i:=j) (c:=nth cur i) rfl rfl rfl rfl rfl oM (by rw [List.length_set];omega) ?_);refine jK (bts 16 65535) ?_;refine jQ ?_));rotate_left 1;(focus (refine x_opg rfl rfl ?_;((refine jV (g_ldBR rfl rfl rfl ?_) ?_;(focus ((omega);done))));refine jK (bts 16 3967) ?_;refine jA 7 rfl ?_;((refine jV (g_ldBR rfl rfl rfl ?_) ?_;(focus ((omega);done))));refine jK (bts 16 4095) ?_;((refine jG (bts 16 8191) 12 rfl (g_iaddrN rfl rfl ?_) ?_;(focus ((omega);done))));refine jA 13 rfl ?_;(refine c_stAR (f:=chF) (cs:=cur) (i:=i) (c:=nth cur j) rfl rfl rfl rfl rfl oM oM ?_);refine jK (bts 16 16383) ?_;((refine jG (bts 16 32767) 14 rfl (g_iaddrN rfl rfl ?_) ?_;(focus ((omega);done))));refine jA 15 rfl ?_;(refine c_stAR (f:=chF) (cs:=cur.set i (nth cur j)) (i:=j) (c:=nth cur i) rfl rfl rfl rfl rfl oM (by rw [List.length_set];omega) ?_);refine jK (bts 16 65535) ?_;refine jQ ?_));rotate_left 1)
  all_goals repeat' (refine jM ?_)
  all_goals rw [show ((j : Nat) : Int) - 1 = ((l.length : Nat) : Int) - 1 - ((i + 1 : Nat) : Int) by omega]
  all_goals exact k_rd (i + 1,(cur.set i (nth cur j)).set j (nth cur i)) ⟨hst,by dsimp only;omega⟩ (by dsimp only;omega) tU rfl sRr
 ·obtain rfl:=revS_end h1 oM
  repeat' (first | (refine jR ?_) | (refine k_ff rfl (dFf oM) ?_))
  exact k_re (vs:=[]) rfl trivial rfl sRr ⟨rfl,rfl⟩
theorem c_ChangesBackI {s k w : List UInt8} {u : Value} {l : List Ch} (h : s.length ≤ 1048576 ∧ k.length ≤ 1048576 ∧ w.length ≤ 1048576) (hu : SlV G u 2 l.length (rows chF l)) (hn : l.length ≤ 1048576) (hl : ∀ x ∈ l,ChL x) :
  FnG Tryz.prog 12 [S s,S k,S w,u] G [] (fun v L'=>∃ p c,v = Tu [.slice p ((doBackV s k w l).getD []).length c,Bo (doBackV s k w l).isSome] ∧ L' = [.acc (.slice p ((doBackV s k w l).getD []).length c) tChI 2 ((doBackV s k w l).getD []).length (rows chF ((doBackV s k w l).getD []))]):=by
 unfold doBackV
 have cx_o1:=c_ValueOkI (G:=G) h
 cases ho : okV s k w with
 | false =>
  rw [ho] at cx_o1
  rw [if_neg (by simp)]
  refine jH [(0,_),(1,_),(2,_),(3,_)] Tryz.func12 Tryz.ntmps12 fun B hB hW=>?_
  repeat' (first | (refine jR ?_) | (refine jo ?_;(refine c_rt rfl rfl rfl cx_o1 rfl ?_)) | (refine k_tt rfl rfl ?_))
  all_goals refine Nx.addNil tChI 2 ?_
  all_goals refine k_rr (vs:=[_,_]) rfl ⟨rfl,rfl,trivial⟩ rfl sRr ⟨rfl,_,_,rfl,rfl⟩
 | true =>
  rw [ho] at cx_o1
  rw [if_pos rfl]
  refine jH [(0,_),(1,_),(2,_),(3,_)] Tryz.func12 Tryz.ntmps12 fun B hB hW=>?_
  repeat' (first | (refine jR ?_) | (refine jo ?_;first | refine jV (g_lenV rfl aS) ?_ | (refine c_rt rfl rfl rfl cx_o1 rfl ?_)) | (refine k_ff rfl rfl ?_))
  refine Nx.addNil tChI 2 ?_
  refine k_loop (ι:=Nat × List UInt8 × List Ch × Option Addr × Nat) (fun j=>(j.1 ≤ l.length ∧ j.2.2.1.length = j.1) ∧ backV s k w l = (backV s k j.2.1 (l.drop j.1)).map (fun o=>o ++ j.2.2.1.reverse) ∧ j.2.1.length ≤ 1048576) (fun j=>[(0,S s),(1,S k),(2,S j.2.1),(10,.slice j.2.2.2.1 j.2.2.1.length j.2.2.2.2),(21,u),(22,I (l.length : Nat)),(23,I (j.1 : Nat))]) (fun _=>G) (fun j=>[.acc (.slice j.2.2.2.1 j.2.2.1.length j.2.2.2.2) tChI 2 j.2.2.1.length (rows chF j.2.2.1)]) (fun j=>l.length - j.1) (0,w,[],none,0) ?_ tU rfl sRr (fun j Hj=>?_)
  ·refine ⟨⟨Nat.zero_le _,rfl⟩,?_,h.2.2⟩
   show backV s k w l = (backV s k w l).map (fun o=>o ++ [])
   simp
  obtain ⟨i,t,out,pa,pc⟩:=j
  dsimp only at Hj ⊢
  obtain ⟨⟨hj1,hjl⟩,hj2,hj3⟩:=Hj
  by_cases hi : i < l.length
  ·obtain ⟨ba,oa,ca,rfl,sa⟩:=hu.expl oM
   have hx:=hl _ (nth_mem hi)
   have cx_ss1:=c_PathGetI (G:=G) (s:=s) (k:=k) (w:=t) (p:=(nth l i).1) ⟨h.1,h.2.1,hj3,hx.1⟩
   have cx_ps1:=c_PathSetI (G:=G) (s:=s) (k:=k) (w:=t) (p:=(nth l i).1) (x:=(nth l i).2) ⟨h.1,h.2.1,hj3,hx.1⟩ hx.2
   unfold psR at cx_ps1
   unfold pgR at cx_ss1
   cases hg : pathGetV s k t (nth l i).1 with
   | none =>
    rw [back_n0 (drop_nth hi) (.inl hg)] at hj2
    rw [hg] at cx_ss1
    simp only [Option.map_none,Option.getD_none,Option.isSome_none] at cx_ss1
    rw [hj2]
    repeat' (first | (refine jR ?_) | (refine jo ?_;first | (refine jV (g_iaddrN rfl rfl oM) ?_) | refine jAl rfl ?_ | (refine jV (g_ldR rfl rfl aS ?_) ?_;(focus ((omega);done))) | refine jL fun _=>?_ | refine jC rfl rfl rfl ?_ | (refine c_rt rfl rfl rfl cx_ss1 rfl ?_)) | (refine k_tt rfl (by first | rfl | (refine decide_eq_true ?_;(omega))) ?_))
    all_goals refine Nx.addNil tChI 2 ?_
    all_goals refine k_rr (vs:=[_,_]) rfl ⟨rfl,rfl,trivial⟩ rfl sB ⟨rfl,_,_,rfl,rfl⟩
   | some g =>
    rw [hg] at cx_ss1
    simp only [Option.map_some,Option.getD_some,Option.isSome_some] at cx_ss1
    cases hp : pathSetV s k t (nth l i).1 (nth l i).2 with
    | none =>
     rw [back_n0 (drop_nth hi) (.inr hp)] at hj2
     rw [hp] at cx_ps1
     dsimp only [Option.getD,Option.isSome] at cx_ps1
     rw [hj2]
     repeat' (first | (refine jR ?_) | (refine jo ?_;first | (refine jV (g_iaddrN rfl rfl oM) ?_) | refine jAl rfl ?_ | (refine jV (g_ldR rfl rfl aS ?_) ?_;(focus ((omega);done))) | refine jL fun _=>?_ | refine jC rfl rfl rfl ?_ | (refine c_rt rfl rfl rfl cx_ss1 rfl ?_) | (refine c_rt rfl rfl rfl cx_ps1 rfl ?_)) | (refine k_tt rfl (by first | rfl | (refine decide_eq_true ?_;(omega))) ?_) | (refine k_ff rfl rfl ?_))
     all_goals refine Nx.addNil tChI 2 ?_
     all_goals refine k_rr (vs:=[_,_]) rfl ⟨rfl,rfl,trivial⟩ rfl sB ⟨rfl,_,_,rfl,rfl⟩
    | some z =>
     have hz:=(psv_ok hp).2
     have hrow : rows chF (out ++ [((nth l i).1,g.2)]) = rows chF out ++ [S (nth l i).1,S g.2]:=rows_snoc chF out _
     rw [hp] at cx_ps1
     dsimp only [Option.getD,Option.isSome] at cx_ps1
     rw [drop_nth hi,back_cons hg hp,opt_map_map] at hj2
     repeat' (first | refine jM ?_ | (refine jo ?_;first | (refine jV (g_iaddrN rfl rfl oM) ?_) | refine jAl rfl ?_ | (refine jV (g_ldR rfl rfl aS ?_) ?_;(focus ((omega);done))) | refine jL fun _=>?_ | refine jC rfl rfl rfl ?_ | refine jV (g_bld rfl rfl) ?_ | refine jF fun _=>?_ | (refine c_apX rfl rfl rfl rfl rfl rfl rfl rfl rfl oM fun _ _=>?_) | (refine c_rt rfl rfl rfl cx_ss1 rfl ?_) | (refine c_rt rfl rfl rfl cx_ps1 rfl ?_)) | (refine k_tt rfl (dTt oM) ?_) | (refine k_ff rfl rfl ?_))
     rename_i x1 x2 b' c'
     exact k_rd (i + 1,z,out ++ [((nth l i).1,g.2)],some ⟨b',0,none⟩,c') ⟨⟨by dsimp only;omega,by dsimp only;rw [List.length_append,hjl];rfl⟩,by dsimp only;rw [hj2,List.reverse_append];rfl,by dsimp only;omega⟩ (by dsimp only;omega) (by dsimp only;rw [List.length_append];repeat (first | exact trivial | refine ⟨rfl,?_⟩)) rfl (by dsimp only;rw [List.length_append,hrow];repeat (first | exact List.nil_sublist _ | apply List.Sublist.cons_cons))
  ·have ei : i = l.length:=oM
   rw [ei,List.drop_length,backV] at hj2
   rw [hj2]
   have cx_rv:=c_ReverseI (G:=G) (p:=pa) (c:=pc) (l:=out) oM
   simp only [Option.map_some,List.nil_append,Option.getD_some,List.length_reverse,Option.isSome_some]
   repeat' (first | (refine jR ?_) | (refine jo ?_;(refine c_accg rfl rfl rfl cx_rv rfl ?_;rintro _ _ rfl;dsimp only [zA,fA])) | (refine k_ff rfl (dFf oM) ?_))
   refine k_rr (vs:=[_,_]) rfl ⟨rfl,rfl,trivial⟩ rfl sRr ⟨rfl,_,_,rfl,rfl⟩
theorem c_ChangesBackIo {s k w : List UInt8} {p0 : Option Addr} {c0 : Nat} {T : TypeId} {l : List Ch} (h : s.length ≤ 1048576 ∧ k.length ≤ 1048576 ∧ w.length ≤ 1048576) (hn : l.length ≤ 1048576) (hl : ∀ x ∈ l,ChL x) :
  FnG Tryz.prog 12 [S s,S k,S w,.slice p0 l.length c0] G [.acc (.slice p0 l.length c0) T 2 l.length (rows chF l)] (fun v L'=>∃ p c,v = Tu [.slice p ((doBackV s k w l).getD []).length c,Bo (doBackV s k w l).isSome] ∧ L' = [.acc (.slice p ((doBackV s k w l).getD []).length c) tChI 2 ((doBackV s k w l).getD []).length (rows chF ((doBackV s k w l).getD [])),.acc (.slice p0 l.length c0) T 2 l.length (rows chF l)]):=by
 unfold doBackV
 have cx_o1:=c_ValueOkI (G:=G) h
 cases ho : okV s k w with
 | false =>
  rw [ho] at cx_o1
  rw [if_neg (by simp)]
  refine jH [(0,_),(1,_),(2,_),(3,_)] Tryz.func12 Tryz.ntmps12 fun B hB hW=>?_
  repeat' (first | (refine jR ?_) | (refine jo ?_;(refine c_rt rfl rfl rfl cx_o1 rfl ?_)) | (refine k_tt rfl rfl ?_))
  all_goals refine Nx.addNil tChI 2 ?_
  all_goals refine k_rr (vs:=[_,_]) rfl ⟨rfl,rfl,trivial⟩ rfl sRr ⟨rfl,_,_,rfl,rfl⟩
 | true =>
  rw [ho] at cx_o1
  rw [if_pos rfl]
  refine jH [(0,_),(1,_),(2,_),(3,_)] Tryz.func12 Tryz.ntmps12 fun B hB hW=>?_
  repeat' (first | (refine jR ?_) | (refine jo ?_;first | refine jV (g_lenL rfl) ?_ | (refine c_rt rfl rfl rfl cx_o1 rfl ?_)) | (refine k_ff rfl rfl ?_))
  refine Nx.addNil tChI 2 ?_
  refine k_loop (ι:=Nat × List UInt8 × List Ch × Option Addr × Nat) (fun j=>(j.1 ≤ l.length ∧ j.2.2.1.length = j.1) ∧ backV s k w l = (backV s k j.2.1 (l.drop j.1)).map (fun o=>o ++ j.2.2.1.reverse) ∧ j.2.1.length ≤ 1048576) (fun j=>[(0,S s),(1,S k),(2,S j.2.1),(10,.slice j.2.2.2.1 j.2.2.1.length j.2.2.2.2),(21,.slice p0 l.length c0),(22,I (l.length : Nat)),(23,I (j.1 : Nat))]) (fun _=>G) (fun j=>[.acc (.slice j.2.2.2.1 j.2.2.1.length j.2.2.2.2) tChI 2 j.2.2.1.length (rows chF j.2.2.1),.acc (.slice p0 l.length c0) T 2 l.length (rows chF l)]) (fun j=>l.length - j.1) (0,w,[],none,0) ?_ tU rfl sRr (fun j Hj=>?_)
  ·refine ⟨⟨Nat.zero_le _,rfl⟩,?_,h.2.2⟩
   show backV s k w l = (backV s k w l).map (fun o=>o ++ [])
   simp
  obtain ⟨i,t,out,pa,pc⟩:=j
  dsimp only at Hj ⊢
  obtain ⟨⟨hj1,hjl⟩,hj2,hj3⟩:=Hj
  by_cases hi : i < l.length
  ·refine Nx.shp (.tail _ (.head _)) fun hsh=>?_
   obtain ⟨ba,ca,e⟩:=hsh.pos oM
   simp only [Value.slice.injEq] at e
   obtain ⟨rfl,-,rfl⟩:=e
   have hx:=hl _ (nth_mem hi)
   have cx_ss1:=c_PathGetI (G:=G) (s:=s) (k:=k) (w:=t) (p:=(nth l i).1) ⟨h.1,h.2.1,hj3,hx.1⟩
   have cx_ps1:=c_PathSetI (G:=G) (s:=s) (k:=k) (w:=t) (p:=(nth l i).1) (x:=(nth l i).2) ⟨h.1,h.2.1,hj3,hx.1⟩ hx.2
   unfold psR at cx_ps1
   unfold pgR at cx_ss1
   cases hg : pathGetV s k t (nth l i).1 with
   | none =>
    rw [back_n0 (drop_nth hi) (.inl hg)] at hj2
    rw [hg] at cx_ss1
    simp only [Option.map_none,Option.getD_none,Option.isSome_none] at cx_ss1
    rw [hj2]
    repeat' (first | (refine jR ?_) | (refine jo ?_;first | (refine jV (g_iaddrN rfl rfl oM) ?_) | refine jAl rfl ?_ | (refine jV (g_ldBR rfl rfl rfl oM) ?_) | refine jL fun _=>?_ | refine jC rfl rfl rfl ?_ | (refine c_rt rfl rfl rfl cx_ss1 rfl ?_)) | (refine k_tt rfl (by first | rfl | (refine decide_eq_true ?_;(omega))) ?_))
    all_goals refine Nx.addNil tChI 2 ?_
    all_goals refine k_rr (vs:=[_,_]) rfl ⟨rfl,rfl,trivial⟩ rfl sB ⟨rfl,_,_,rfl,rfl⟩
   | some g =>
    rw [hg] at cx_ss1
    simp only [Option.map_some,Option.getD_some,Option.isSome_some] at cx_ss1
    cases hp : pathSetV s k t (nth l i).1 (nth l i).2 with
    | none =>
     rw [back_n0 (drop_nth hi) (.inr hp)] at hj2
     rw [hp] at cx_ps1
     dsimp only [Option.getD,Option.isSome] at cx_ps1
     rw [hj2]
     repeat' (first | (refine jR ?_) | (refine jo ?_;first | (refine jV (g_iaddrN rfl rfl oM) ?_) | refine jAl rfl ?_ | (refine jV (g_ldBR rfl rfl rfl oM) ?_) | refine jL fun _=>?_ | refine jC rfl rfl rfl ?_ | (refine c_rt rfl rfl rfl cx_ss1 rfl ?_) | (refine c_rt rfl rfl rfl cx_ps1 rfl ?_)) | (refine k_tt rfl (by first | rfl | (refine decide_eq_true ?_;(omega))) ?_) | (refine k_ff rfl rfl ?_))
     all_goals refine Nx.addNil tChI 2 ?_
     all_goals refine k_rr (vs:=[_,_]) rfl ⟨rfl,rfl,trivial⟩ rfl sB ⟨rfl,_,_,rfl,rfl⟩
    | some z =>
     have hz:=(psv_ok hp).2
     have hrow : rows chF (out ++ [((nth l i).1,g.2)]) = rows chF out ++ [S (nth l i).1,S g.2]:=rows_snoc chF out _
     rw [hp] at cx_ps1
     dsimp only [Option.getD,Option.isSome] at cx_ps1
     rw [drop_nth hi,back_cons hg hp,opt_map_map] at hj2
     repeat' (first | refine jM ?_ | (refine jo ?_;first | (refine jV (g_iaddrN rfl rfl oM) ?_) | refine jAl rfl ?_ | (refine jV (g_ldBR rfl rfl rfl oM) ?_) | refine jL fun _=>?_ | refine jC rfl rfl rfl ?_ | refine jV (g_bld rfl rfl) ?_ | refine jF fun _=>?_ | (refine c_apX rfl rfl rfl rfl rfl rfl rfl rfl rfl oM fun _ _=>?_) | (refine c_rt rfl rfl rfl cx_ss1 rfl ?_) | (refine c_rt rfl rfl rfl cx_ps1 rfl ?_)) | (refine k_tt rfl (dTt oM) ?_) | (refine k_ff rfl rfl ?_))
     rename_i x1 x2 b' c'
     exact k_rd (i + 1,z,out ++ [((nth l i).1,g.2)],some ⟨b',0,none⟩,c') ⟨⟨by dsimp only;omega,by dsimp only;rw [List.length_append,hjl];rfl⟩,by dsimp only;rw [hj2,List.reverse_append];rfl,by dsimp only;omega⟩ (by dsimp only;omega) (by dsimp only;rw [List.length_append];repeat (first | exact trivial | refine ⟨rfl,?_⟩)) rfl (by dsimp only;rw [List.length_append,hrow];repeat (first | exact List.Sublist.refl _ | apply List.Sublist.cons_cons | apply List.Sublist.cons))
  ·have ei : i = l.length:=oM
   rw [ei,List.drop_length,backV] at hj2
   rw [hj2]
   have cx_rv:=c_ReverseI (G:=G) (p:=pa) (c:=pc) (l:=out) oM
   simp only [Option.map_some,List.nil_append,Option.getD_some,List.length_reverse,Option.isSome_some]
   repeat' (first | (refine jR ?_) | (refine jo ?_;(refine c_accg rfl rfl rfl cx_rv rfl ?_;rintro _ _ rfl;dsimp only [zA,fA])) | (refine k_ff rfl (dFf oM) ?_))
   refine k_rr (vs:=[_,_]) rfl ⟨rfl,rfl,trivial⟩ rfl sRr ⟨rfl,_,_,rfl,rfl⟩
def dgs (k : Int) : List UInt8:=if k = 0 then [] else decI k
theorem dgs_step {k : Int} (h : 0 < k) : dgs k = dgs (k / 10) ++ [u8 (48 + k % 10)]:=by
 unfold dgs
 rw [if_neg oM]
 by_cases h10 : k < 10
 ·rw [if_pos oM,decI_lo h10 oM,show k % 10 = k by omega];rfl
 ·rw [if_neg oM,decI_hi h10]
def mkT (k : Int) : List UInt8:=109 :: decI k
theorem c_markText {k : Int} (h : 1 ≤ k ∧ k ≤ 9000000000000000000) : PuG Tryz.prog 35 [I k] G (· = S (mkT k)):=by
 refine jE [(0,_)] Tryz.func35 Tryz.ntmps35 fun B hB=>?_
 repeat' (first | (refine jR ?_) | (refine k_ff rfl (dFf oM) ?_))
 refine k_loop (ι:=Int × List UInt8) (fun i=>(0 ≤ i.1 ∧ i.1 ≤ 9000000000000000000) ∧ dgs i.1 ++ i.2 = decI k) (fun i=>[(0,I i.1),(3,S i.2)]) (fun _=>G) (fun i=>[]) (fun i=>i.1.toNat) (k,[]) ?_ tU rfl sRr (fun i Hi=>?_)
 ·refine ⟨⟨by dsimp only;omega,h.2⟩,?_⟩
  show dgs k ++ [] = decI k
  unfold dgs
  rw [if_neg oM,List.append_nil]
 obtain ⟨i,out⟩:=i
 dsimp only at Hi ⊢
 obtain ⟨hi,he⟩:=Hi
 have hlen : out.length ≤ 19:=by
  have h1:=decI_len (n:=k) oM
  rw [← he,List.length_append] at h1
  omega
 by_cases hp : 0 < i
 ·repeat' (first | (refine jX ?_) | (refine jo ?_;first | refine jF fun _=>?_ | refine jV (g_bsB rfl rfl (by (repeat (first | exact BL.nil | apply BL.cons));done)) ?_) | (refine k_tt rfl (dTt ‹_›) ?_))
  refine k_rd (i / 10,[u8 (48 + i % 10)] ++ out) ⟨⟨by dsimp only;omega,by dsimp only;omega⟩,?_⟩ (by dsimp only;omega) tU rfl (by repeat (exact List.nil_sublist _))
  dsimp only
  rw [← he,dgs_step hp,List.append_assoc]
 ·obtain rfl : i = 0:=oM
  have he : out = decI k:=he
  subst he
  repeat' (first | (refine jX ?_) | (refine k_ff rfl rfl ?_))
  refine jY (vs:=[_]) ?_
  rfl
def mkC (n : Nat) (k : Int) : List Ch:=(List.range n).map fun i : Nat=>(mkT (k + 2 * i),mkT (k + 2 * i + 1))
theorem mkC_len (n : Nat) (k : Int) : (mkC n k).length = n:=by unfold mkC;simp
theorem mkC_nth {n : Nat} {k : Int} {i : Nat} (h : i < n) : nth (mkC n k) i = (mkT (k + 2 * i),mkT (k + 2 * i + 1)):=by
 rw [nth_eq (by rw [mkC_len];exact h)]
 unfold mkC
 simp
section
variable {P : Program} {n : Nat} {D : List Deferred} {E : Env} {B : Base} {G : Gh} {L : List Own} {K : Act → World → Prop} {Q : Exit → Act → World → Prop} {ty : TypeId} {pos : String} {aft : Array Edge} {gd : Option (Nat × Bool)}
theorem c_stCh {j : Nat} {cs : List Ch} {c : Ch} {i : Nat} {x1 : List UInt8} {T T0 : TypeId} {x y : Operand} {desc : TypeDesc} {bytes b o m cap : Nat} {zero : Value} {xs : List Value} {L' : List Own} [TI P T desc 1 bytes zero] [hu : UpdA b (rows chF (cs.set i c)) L m cap T0 2 xs L']
  (hc : (j = 0 ∧ c = (x1,(nth cs i).2)) ∨ (j = 1 ∧ c = ((nth cs i).1,x1))) (hx : ev E x = some (Pt b o)) (hy : ev E y = some (S x1)) (hxs : xs = rows chF cs) (ho : o = i * 2 + j) (hi : i < cs.length)
  (k : Nx n D E B G L' K) : Nx n D E B G L (ow P ⟨none,.store T x y,ty,pos,aft,gd⟩ Q K):=by
 refine c_stAcc (vs:=[S x1]) hx hy rfl rfl rfl rfl hu.upd ?_ k
 subst hxs
 have e1 : cs = cs.take i ++ cs[i] :: cs.drop (i + 1):=by rw [List.getElem_cons_drop,List.take_append_drop]
 have e2 : cs.set i c = cs.take i ++ c :: cs.drop (i + 1):=by rw [List.set_eq_take_append_cons_drop,if_pos hi]
 have hlen:=rows_len (f:=chF) (cs.take i)
 rw [List.length_take,Nat.min_eq_left oM] at hlen
 have e3 : rows chF cs = rows chF (cs.take i) ++ (chF cs[i] ++ rows chF (cs.drop (i + 1))):=by rw [← rows_cons,← rows_app,← e1]
 have hn : nth cs i = cs[i]:=nth_eq hi
 rw [e2,e3,rows_app,rows_cons]
 rcases hc with ⟨rfl,rfl⟩ | ⟨rfl,rfl⟩
 ·rw [ho,Nat.add_zero,← hlen,hn]
  exact puts_mid (rows chF (cs.take i)) (z:=[S cs[i].1]) (vs:=[S x1]) (r:=S cs[i].2 :: rows chF (cs.drop (i + 1))) rfl (by simp)
 ·rw [ho,hn]
  have:=puts_mid (rows chF (cs.take i) ++ [S cs[i].1]) (z:=[S cs[i].2]) (vs:=[S x1]) (r:=rows chF (cs.drop (i + 1))) rfl (by simp)
  rw [List.length_append,hlen] at this
  simpa [chF,List.append_assoc] using this
end
theorem c_markS {p : Option Addr} {c : Nat} {T : TypeId} {l : List Ch} {k : Int} (hk : 1 ≤ k ∧ k ≤ 1000000000000) (hn : l.length ≤ 1048576) :
  FnG Tryz.prog 14 [.slice p l.length c,I k] G [.acc (.slice p l.length c) T 2 l.length (rows chF l)] (fun v L'=>v = I (k + 2 * (l.length : Nat)) ∧ L' = [.acc (.slice p l.length c) T 2 l.length (rows chF (mkC l.length k))]):=by
 refine jH [(0,_),(1,_)] Tryz.func14 Tryz.ntmps14 fun B hB hW=>?_
 repeat' (refine jR ?_)
 rw [show I k = I (k + 2 * ((0 : Nat) : Int)) by rw [show k + 2 * ((0 : Nat) : Int) = k by omega]]
 refine k_loop (ι:=Nat × List Ch) (fun i=>i.2.length = l.length ∧ i.1 ≤ l.length ∧ ∀ j,j < i.1 → nth i.2 j = (mkT (k + 2 * j),mkT (k + 2 * j + 1))) (fun i=>[(0,.slice p l.length c),(1,I (k + 2 * (i.1 : Nat))),(5,I (i.1 : Nat))]) (fun _=>G) (fun i=>[.acc (.slice p l.length c) T 2 l.length (rows chF i.2)]) (fun i=>l.length - i.1) (0,l) ?_ tU rfl sRr (fun i Hi=>?_)
 ·exact ⟨rfl,Nat.zero_le _,fun j hj=>absurd hj (Nat.not_lt_zero _)⟩
 obtain ⟨i,cur⟩:=i
 dsimp only at Hi ⊢
 obtain ⟨h1,h2,h3⟩:=Hi
 by_cases hi : i < l.length
 ·refine Nx.shp (.head _) fun hsh=>?_
  obtain ⟨b,cc,e⟩:=hsh.pos oM
  simp only [Value.slice.injEq] at e
  obtain ⟨rfl,-,rfl⟩:=e
  have cx_mt1:=c_markText (G:=G) (k:=k + 2 * (i : Nat)) oM
  have cx_mt2:=c_markText (G:=G) (k:=k + 2 * (i : Nat) + 1) oM
  repeat' (first | refine jM ?_ | (refine jo ?_;first | refine jV (g_lenL rfl) ?_ | (refine jV (g_iaddrN rfl rfl oM) ?_) | refine c_stCh (j:=0) (cs:=cur) (i:=i) (x1:=mkT (k + 2 * (i : Nat))) (.inl ⟨rfl,rfl⟩) rfl rfl rfl oM oM ?_ | refine c_stCh (j:=1) (cs:=cur.set i (mkT (k + 2 * (i : Nat)),(nth cur i).2)) (i:=i) (x1:=mkT (k + 2 * (i : Nat) + 1)) (.inr ⟨rfl,rfl⟩) rfl rfl rfl oM (by rw [List.length_set];omega) ?_ | (refine c_rt rfl rfl rfl cx_mt1 rfl ?_) | (refine c_rt rfl rfl rfl cx_mt2 rfl ?_)) | (refine k_tt rfl (dTt oM) ?_))
  rw [show k + 2 * (i : Nat) + 1 + 1 = k + 2 * ((i + 1 : Nat) : Int) by omega]
  refine k_rd (i + 1,(cur.set i (mkT (k + 2 * (i : Nat)),(nth cur i).2)).set i ((nth (cur.set i (mkT (k + 2 * (i : Nat)),(nth cur i).2)) i).1,mkT (k + 2 * (i : Nat) + 1))) ⟨by simp [h1],by dsimp only;omega,fun j hj=>?_⟩ (by dsimp only;omega) tU rfl sRr
  dsimp only at hj ⊢
  rw [nth_setR (by rw [List.length_set];omega),nth_setR oM,nth_setR oM,if_pos rfl]
  by_cases e : j = i
  ·subst e;rw [if_pos rfl]
  ·rw [if_neg e,if_neg e]
   exact h3 j oM
 ·obtain rfl : i = l.length:=oM
  have e : cur = mkC l.length k:=by
   refine List.ext_getElem (by rw [mkC_len,h1]) fun j hj hj2=>?_
   rw [← nth_eq hj,← nth_eq hj2,h3 j oM,mkC_nth oM]
  subst e
  repeat' (first | (refine jR ?_) | (refine jo ?_;(refine jV (g_lenL rfl) ?_)) | (refine k_ff rfl (dFf oM) ?_))
  refine k_rr (vs:=[_]) rfl ⟨rfl,trivial⟩ rfl sRr ⟨rfl,rfl,rfl⟩
theorem c_heldS {p : Option Addr} {c n : Nat} {T : TypeId} {k : Int} (hk : 1 ≤ k ∧ k ≤ 1000000000000) (hn : n ≤ 1048576) :
  FnG Tryz.prog 15 [.slice p n c,I k] G [.acc (.slice p n c) T 2 n (rows chF (mkC n k))] (fun v L'=>v = I (k + 2 * (n : Nat)) ∧ L' = [.acc (.slice p n c) T 2 n (rows chF (mkC n k))]):=by
 have hml:=mkC_len n k
 refine jH [(0,_),(1,_)] Tryz.func15 Tryz.ntmps15 fun B hB hW=>?_
 repeat' (refine jR ?_)
 rw [show I k = I (k + 2 * ((0 : Nat) : Int)) by rw [show k + 2 * ((0 : Nat) : Int) = k by omega]]
 refine k_loop (ι:=Nat) (fun i=>i ≤ n) (fun i=>[(0,.slice p n c),(1,I (k + 2 * (i : Nat))),(5,I (i : Nat))]) (fun _=>G) (fun i=>[.acc (.slice p n c) T 2 n (rows chF (mkC n k))]) (fun i=>n - i) 0 ?_ tU rfl sRr (fun i Hi=>?_)
 ·exact Nat.zero_le _
 by_cases hi : i < n
 ·refine Nx.shp (.head _) fun hsh=>?_
  obtain ⟨b,cc,e⟩:=hsh.pos oM
  simp only [Value.slice.injEq] at e
  obtain ⟨rfl,-,rfl⟩:=e
  have cx_mt1:=c_markText (G:=G) (k:=k + 2 * (i : Nat)) oM
  have cx_mt2:=c_markText (G:=G) (k:=k + 2 * (i : Nat) + 1) oM
  have e1 : (nth (mkC n k) i).1 = mkT (k + 2 * (i : Nat)):=by rw [mkC_nth hi]
  have e2 : (nth (mkC n k) i).2 = mkT (k + 2 * (i : Nat) + 1):=by rw [mkC_nth hi]
  repeat' (first | refine jM ?_ | (refine jo ?_;(refine jV (g_lenL rfl) ?_)) | (refine k_tt rfl (dTt oM) ?_) | (refine k_ff rfl ?_ ?_;(focus ((simp [*];done);done))) | (refine k_any (s_any (id:=4) _ (fun _ h=>h) mixed ?_);refine jT 5 [0,1,5] (bts 8 35) ?_;(refine jG (bts 8 39) 2 rfl (g_iaddrN rfl rfl oM) ?_);refine jT 3 [3] (bts 8 47) ?_;(refine jG (bts 8 63) 4 rfl (g_ldBRF rfl rfl rfl oM rfl rfl) ?_);refine jA 6 rfl ?_;(refine c_rt rfl rfl rfl cx_mt1 rfl ?_);refine jS (bts 8 127) ?_;refine jT 0 [7] (bts 8 255) ?_;refine jQ ?_) | (refine k_any (s_any (id:=7) _ (fun _ h=>h) mixed ?_);refine jT 5 [0,1,5] (bts 8 35) ?_;(refine jG (bts 8 39) 2 rfl (g_iaddrN rfl rfl oM) ?_);refine jT 3 [3] (bts 8 47) ?_;(refine jG (bts 8 63) 4 rfl (g_ldBRF rfl rfl rfl oM rfl rfl) ?_);refine jA 6 rfl ?_;(refine c_rt rfl rfl rfl cx_mt2 rfl ?_);refine jS (bts 8 127) ?_;refine jT 0 [7] (bts 8 255) ?_;refine jQ ?_))
  rw [show k + 2 * (i : Nat) + 1 + 1 = k + 2 * ((i + 1 : Nat) : Int) by omega]
  exact k_rd (i + 1) oM oM tU rfl sRr
 ·obtain rfl : i = n:=oM
  repeat' (first | (refine jR ?_) | (refine jo ?_;(refine jV (g_lenL rfl) ?_)) | (refine k_ff rfl (dFf oM) ?_))
  refine k_rr (vs:=[_]) rfl ⟨rfl,trivial⟩ rfl sRr ⟨rfl,rfl,rfl⟩
theorem c_eqChangeSo {p : Option Addr} {c : Nat} {T : TypeId} {v : Value} {a b : List Ch} (hv : SlV G v 2 b.length (rows chF b)) (hn : a.length ≤ 1048576) (hb : b.length ≤ 1048576) :
  FnG Tryz.prog 13 [.slice p a.length c,v] G [.acc (.slice p a.length c) T 2 a.length (rows chF a)] (fun r L'=>r = Bo (decide (a = b)) ∧ L' = [.acc (.slice p a.length c) T 2 a.length (rows chF a)]):=by
 obtain ⟨va,vc,rfl⟩:=hv.sl
 refine jH [(0,_),(1,_)] Tryz.func13 Tryz.ntmps13 fun B hB hW=>?_
 repeat' (first | (refine jR ?_) | (refine jo ?_;(refine jV (g_lenL rfl) ?_)) | refine k_if rfl (fun _=>?_) (fun _=>?_))
 ·rw [decide_eq_false (fun h : a = b=>by subst h;simp_all)]
  refine k_rr (vs:=[_]) rfl ⟨rfl,trivial⟩ rfl sRr ⟨rfl,rfl,rfl⟩
 ·have hl : a.length = b.length:=by simp_all;omega
  refine k_loop (ι:=Nat) (fun i=>i ≤ a.length ∧ a.take i = b.take i) (fun i=>[(0,.slice p a.length c),(1,.slice va b.length vc),(5,I i)]) (fun _=>G) (fun i=>[.acc (.slice p a.length c) T 2 a.length (rows chF a)]) (fun i=>a.length - i) 0 ?_ tU rfl sRr (fun i Hi=>?_)
  ·exact ⟨oM,rfl⟩
  by_cases hi : i < a.length
  ·refine Nx.shp (.head _) fun hsh=>?_
   obtain ⟨ba,ca,e⟩:=hsh.pos oM
   simp only [Value.slice.injEq] at e
   obtain ⟨rfl,-,rfl⟩:=e
   obtain ⟨bb,ob,cb,e,sb⟩:=hv.expl oM
   simp only [Value.slice.injEq] at e
   obtain ⟨rfl,-,rfl⟩:=e
   repeat' (first | refine jM ?_ | (refine jo ?_;(refine jV (g_lenL rfl) ?_)) | (refine k_tt rfl (dTt oM) ?_) | refine k_cd rfl (fun _=>?_) (fun _=>?_) | (refine k_any (s_any (id:=6) _ (fun _ h=>h) mixed ?_);refine jT 6 [0,1,4,5] (bts 10 51) ?_;(refine jG (bts 10 55) 2 rfl (g_iaddrN rfl rfl oM) ?_);(refine jG (bts 10 63) 3 rfl (g_ldBR rfl rfl rfl oM) ?_);(refine jG (bts 10 127) 6 rfl (g_iaddrN rfl rfl oM) ?_);((refine jG (bts 10 255) 7 rfl (g_ldR rfl rfl aS ?_) ?_;(focus ((omega);done))));refine jA 8 rfl ?_;(refine c_rt rfl rfl rfl c_eqChange rfl ?_);refine jS (bts 10 511) ?_;refine jT 0 [9] (bts 10 1023) ?_;refine jQ ?_))
   ·rename_i hne
    rw [decide_eq_false (fun h : a = b=>by subst h;simp at hne)]
    refine k_rr (vs:=[_]) rfl ⟨rfl,trivial⟩ rfl sRr ⟨rfl,rfl,rfl⟩
   ·rename_i hne
    have he : nth a i = nth b i:=by simpa using hne
    refine k_rd (i + 1) ?_ ?_ tU rfl sRr
    ·refine ⟨oM,?_⟩
     rw [take_nth hi,take_nth oM,Hi.2,he]
    ·omega
  ·have ei : i = a.length:=oM
   have heq : a = b:=by
    have:=Hi.2
    rwa [ei,List.take_length,hl,List.take_length] at this
   rw [decide_eq_true heq]
   repeat' (first | (refine jR ?_) | (refine jo ?_;(refine jV (g_lenL rfl) ?_)) | (refine k_ff rfl (dFf oM) ?_))
   refine k_rr (vs:=[_]) rfl ⟨rfl,trivial⟩ rfl sRr ⟨rfl,rfl,rfl⟩
theorem c_toChangeSo {u : Value} {a : List Ch} (hu : SlV G u 2 a.length (rows chF a)) (hn : a.length ≤ 1048576) :
  FnG Tryz.prog 11 [u] G [] (fun v L'=>∃ p c,v = .slice p a.length c ∧ L' = [.acc (.slice p a.length c) tCh2 2 a.length (rows chF a)]):=by
 refine jH [(0,_)] Tryz.func11 Tryz.ntmps11 fun B hB hW=>?_
 repeat' (first | (refine jR ?_) | (refine jo ?_;first | refine jV (g_lenV rfl aS) ?_ | (refine c_mk rfl rfl rfl rfl oM (fun _=>?_))))
 rename_i x
 refine k_loop (ι:=Nat) (fun i=>i ≤ a.length) (fun i=>[(0,u),(3,.slice (some ⟨x,0,none⟩) a.length a.length),(4,I i)]) (fun _=>G) (fun i=>[.blk x (.cells (rows chF (a.take i) ++ zerosL [S [],S []] (a.length - i)).toArray tCh2 (0,0))]) (fun i=>a.length - i) 0 ?_ tU rfl sRr (fun i Hi=>?_)
 ·exact Nat.zero_le _
 by_cases hi : i < a.length
 ·obtain ⟨ba,oa,ca,rfl,sa⟩:=hu.expl oM
  repeat' (first | refine jM ?_ | (refine jo ?_;first | refine jV (g_lenL rfl) ?_ | (refine jV (g_iaddrN rfl rfl oM) ?_) | (refine jV (g_ldR rfl rfl aS ?_) ?_;(focus ((omega);done))) | (refine c_stR rfl rfl rfl rfl rfl rfl ?_ ?_ ?_;(focus ((simp only [List.length_append,List.length_cons,List.length_nil,List.length_take];omega);done));(focus ((omega);done))) | (refine c_rt rfl rfl rfl c_toChange rfl ?_)) | (refine k_tt rfl (dTt oM) ?_))
  refine k_rd (i + 1) oM oM tU rfl (by rw [take_nth hi];exact List.Sublist.refl _)
 ·repeat' (first | (refine jR ?_) | (refine jo ?_;(refine jV (g_lenV rfl aS) ?_)) | (refine k_ff rfl (dFf oM) ?_))
  have ei : i = a.length:=oM
  subst ei
  simp only [List.take_length,Nat.sub_self,zerosL,List.append_nil]
  refine Nx.blkAcc (m:=a.length) (sz:=2) .here (rows_len a) ?_
  refine k_rr (vs:=[_]) rfl ⟨rfl,trivial⟩ rfl sRr ⟨rfl,_,_,rfl,rfl⟩
theorem back_len {s k w : List UInt8} {l : List Ch} (hn : l.length ≤ 1048576) : ((doBackV s k w l).getD []).length ≤ 1048576:=by
 unfold doBackV
 split
 ·cases h : backV s k w l with
  | none=>simp
  | some o =>
   obtain ⟨z,_,_,h3⟩:=back_law h
   simp only [Option.getD_some]
   omega
 ·simp
theorem c_FnExactChangesBack {s k w : List UInt8} {u : Value} {l : List Ch} (hu : SlV G u 2 l.length (rows chF l)) (h : s.length ≤ 9223372036854775807 ∧ k.length ≤ 9223372036854775807 ∧ w.length ≤ 9223372036854775807) (hn : l.length ≤ 9223372036854775807) (hl : ∀ x ∈ l,ChW x) :
  PuG Tryz.prog 3 [S s,S k,S w,u] G (· = Bo true):=by
 have hsz:=c_szChangeS (G:=G) (z:=1048576) ⟨⟨oM,oM⟩,hn⟩ hu hl
 have hU:=fun (_ : True)=>hu
 refine jB (Post:=fun v G' L'=>G' = G ∧ L' = [] ∧ _) [(0,_),(1,_),(2,_),(3,_)] Tryz.func3 Tryz.ntmps3 fun B hok hB hW=>?_
 repeat' (first | (refine jR ?_) | (refine jo ?_;first | (refine c_pu rfl rfl rfl (c_szChangeS ?_ (by (repeat (assumption));done) (by (repeat (assumption));done)) rfl ?_;(focus ((omega);done));rintro _ (rfl | ⟨z,rfl,hz1,hz2⟩)) | (refine c_fns rfl rfl rfl (c_toChangeS (by (repeat (assumption));done) ?_) rfl ?_;(focus ((omega);done));rintro _ G hle ⟨u,rfl,hsl⟩;skip)) | (refine k_tt rfl rfl ?_) | (refine k_ff rfl (dFf oM) ?_) | refine k_if rfl (fun _=>?_) (fun _=>?_))
 ·refine Nx.base hok hB ?_
  refine jY (vs:=[_]) ?_
  rfl
 ·refine Nx.base hok hB ?_
  refine jY (vs:=[_]) ?_
  rfl
 ·refine Nx.base hok hB ?_
  refine jY (vs:=[_]) ?_
  rfl
 ·refine Nx.base hok hB ?_
  refine jY (vs:=[_]) ?_
  rfl
 have hall : l.length ≤ 1048576:=oM
 have hrl:=back_len (s:=s) (k:=k) (w:=w) hall
 have hsd : s.length ≤ 1048576 ∧ k.length ≤ 1048576 ∧ w.length ≤ 1048576:=oM
 refine jo ?_
 refine c_fns rfl rfl rfl (c_ChangesBackS hsd hsl hall hz2) rfl ?_
 rintro _ G2 hle2 ⟨pb,cb,rfl,hw0⟩
 replace hU:=fun (_ : True)=>((hU trivial).mono hle).mono hle2
 clear hu hsl
 have cx_cbo:=fun (G : Gh) (p : Option Addr) (c : Nat)=>c_ChangesBackIo (G:=G) (p0:=p) (c0:=c) (T:=tCh2) hsd hall hz2
 have cx_cbi:=fun (G : Gh) (u : Value) (hu : SlV G u 2 l.length (rows chF l))=>c_ChangesBackI (G:=G) hsd hu hall hz2
 generalize (doBackV s k w l).isSome = ok0 at *
 generalize (doBackV s k w l).getD [] = res at *
 repeat' (refine jR ?_)
 refine jo ?_
 refine c_fng rfl rfl rfl (c_toChangeSo (hU trivial) hall) rfl ?_
 rintro _ _ ⟨px,cx,rfl,rfl⟩
 dsimp only [zA,fA]
 repeat' (refine jR ?_)
 refine jo ?_
 refine c_accg rfl rfl rfl (cx_cbo _ _ _) rfl ?_
 rintro _ _ ⟨pg,cg,rfl,rfl⟩
 dsimp only [zA,fA]
 have cx_eqo:=c_eqChangeSo (G:=G2) (p:=pg) (c:=cg) (T:=tChI) (a:=res) (b:=res) hw0 hrl hrl
 rw [decide_eq_true rfl] at cx_eqo
 repeat' (first | (refine jR ?_) | (refine jo ?_;first | (refine jAf rfl ?_) | (refine c_accg rfl rfl rfl cx_eqo rfl ?_;rintro _ _ ⟨rfl,rfl⟩;dsimp only [zA,fA])) | (refine k_gf rfl rfl rfl ?_) | (refine k_ff rfl ?_ ?_;(focus ((simp [*];done);done))))
 refine jo ?_
 refine c_fns rfl rfl rfl (c_toChangeS (hU trivial) hall) rfl ?_
 rintro _ G3 hle3 ⟨u2,rfl,hs2⟩
 have hw0:=hw0.mono hle3
 have hU:=fun (_ : True)=>(hU trivial).mono hle3
 refine jo ?_
 refine c_accg rfl rfl rfl (c_eqChangeSo (G:=G3) (p:=px) (c:=cx) (T:=tCh2) (a:=l) (b:=l) hs2 hall hall) rfl ?_
 rw [decide_eq_true rfl]
 rintro _ _ ⟨rfl,rfl⟩
 dsimp only [zA,fA]
 have cx_mkx:=c_markS (G:=G3) (p:=px) (c:=cx) (T:=tCh2) (l:=l) (k:=1) oM hall
 have cx_eqo:=c_eqChangeSo (G:=G3) (p:=pg) (c:=cg) (T:=tChI) (a:=res) (b:=res) hw0 hrl hrl
 rw [decide_eq_true rfl] at cx_eqo
 repeat' (first | (refine jR ?_) | (refine jo ?_;first | (refine jAf rfl ?_) | (refine c_accg rfl rfl rfl cx_eqo rfl ?_;rintro _ _ ⟨rfl,rfl⟩;dsimp only [zA,fA]) | (refine c_accg rfl rfl rfl cx_mkx rfl ?_;rintro _ _ ⟨rfl,rfl⟩;dsimp only [zA,fA])) | (refine k_gf rfl rfl rfl ?_) | (refine k_ff rfl ?_ ?_;(focus ((first | rfl | (simp [*];done));done))))
 have cx_mkx:=c_markS (G:=G3) (p:=pg) (c:=cg) (T:=tChI) (l:=res) (k:=1) oM hrl
 have cx_hdx:=c_heldS (G:=G3) (p:=pg) (c:=cg) (T:=tChI) (n:=res.length) (k:=1) oM hrl
 repeat' (first | (refine jR ?_) | (refine jo ?_;first | (refine c_accg rfl rfl rfl cx_mkx rfl ?_;rintro _ _ ⟨rfl,rfl⟩;dsimp only [zA,fA]) | (refine c_accg rfl rfl rfl cx_hdx rfl ?_;rintro _ _ ⟨rfl,rfl⟩;dsimp only [zA,fA])) | (refine k_ff rfl (by first | rfl | (refine decide_eq_false ?_;(omega))) ?_))
 refine jo ?_
 refine c_fns rfl rfl rfl (c_toChangeS (hU trivial) hall) rfl ?_
 rintro _ G4 hle4 ⟨u4,rfl,hs4⟩
 have hw0:=hw0.mono hle4
 repeat' (fail)
 refine jo ?_
 refine c_fng rfl rfl rfl (cx_cbi _ _ hs4) rfl ?_
 rintro _ _ ⟨ph,ch,rfl,rfl⟩
 dsimp only [zA,fA]
 have cx_eqo:=c_eqChangeSo (G:=G4) (p:=ph) (c:=ch) (T:=tChI) (a:=res) (b:=res) hw0 hrl hrl
 rw [decide_eq_true rfl] at cx_eqo
 have cx_hdx:=c_heldS (G:=G4) (p:=pg) (c:=cg) (T:=tChI) (n:=res.length) (k:=1) oM hrl
 repeat' (first | (refine jR ?_) | (refine jo ?_;first | (refine jAf rfl ?_) | (refine c_accg rfl rfl rfl cx_eqo rfl ?_;rintro _ _ ⟨rfl,rfl⟩;dsimp only [zA,fA]) | (refine c_accg rfl rfl rfl cx_hdx rfl ?_;rintro _ _ ⟨rfl,rfl⟩;dsimp only [zA,fA])) | (refine k_gf rfl rfl rfl ?_) | (refine k_ff rfl ?_ ?_;(focus ((first | rfl | (refine decide_eq_false ?_;(omega)) | (simp [*];done));done))))
 all_goals refine Nx.base hok hB ?_
 all_goals refine jY (vs:=[_]) ?_
 all_goals rfl
end Go.E
