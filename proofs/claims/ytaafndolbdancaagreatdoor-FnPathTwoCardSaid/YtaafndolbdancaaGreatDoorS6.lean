/- Contracts and plain laws that the statement rests on, part 6. Conditions: as each says. -/
import Derived.Test.YtaafndolbdancaaGreatDoorS5
set_option linter.unusedVariables false
set_option linter.unusedSimpArgs false
namespace Go.E
set_option maxRecDepth 20000
set_option maxHeartbeats 2000000
open Go.Proofs
variable {G : Gh}
theorem stepV_plain {ts : List Ty} {c : UInt8} {r : List UInt8} {v : V} {n : Int} (h1 : c.toNat ≠ 91) (h2 : c.toNat ≠ 63) (h3 : c.toNat ≠ 64) : stepV ts (c :: r) v n = none := by
 unfold stepV; dsimp only; rw [if_neg (fun h => by rcases h with h | h; exact h1 h; exact h2 h), refT_p h3]
theorem stepV_kid {ts : List Ty} {c : UInt8} {r : List UInt8} {v : V} {n : Int} (h : c.toNat = 91 ∨ c.toNat = 63) : stepV ts (c :: r) v n = if n < (v.kids.length : Nat) then some (r, nth v.kids n.toNat) else none := by
 unfold stepV; dsimp only; rw [if_pos h]
theorem stepV_typ {ts : List Ty} {k : List UInt8} {v : V} {n : Int} {t : Ty} (h : refT ts k = some t) : stepV ts k v n = match fldT t.fields n with
  | none => none
  | some f => if t.sort = 69 then none else if t.sort = 82 then some (f.kind, getV ts v f) else if v.tag = n then some (f.kind, nth v.kids 0) else none := by
 obtain ⟨r, rfl⟩ := refT_64 h
 unfold stepV; dsimp only; rw [if_neg (by decide), h]
 all_goals rfl
theorem c_stepS {u : Value} {vs : List TyX} (h : SchR G u vs) (hw : SchW (tys vs)) {k : List UInt8} {v : V} {b : Nat} (hr : RepR G (tys vs) v k b) (ho : OfK (tys vs) k v) (hki : kindIn (tys vs) k = true) {n : Int} (hn : 0 ≤ n ∧ n ≤ 999999) (htt : v.tot ≤ 1000000) :
  FnS Tryz.prog 82 [u, Pt b 0, I n] G (StepP (tys vs) (stepV (tys vs) k v n)) := by
 have hu := h.sl.one
 obtain ⟨ua, uc, rfl⟩ := h.sl.sl
 cases hr with
 | leaf w x k tx b h1 h2 =>
  have hn82 : ¬ tx = [82] := by
   rcases h2 with ⟨_, _, rfl, h⟩ | ⟨_, _, rfl⟩ | ⟨_, _, rfl, h⟩
   ·rintro rfl; exact absurd (h 82 (by simp)) (by decide)
   ·simp
   ·rcases h with rfl | rfl <;> decide
  have hn85 : ¬ tx = [85] := by
   rcases h2 with ⟨_, _, rfl, h⟩ | ⟨_, _, rfl⟩ | ⟨_, _, rfl, h⟩
   ·rintro rfl; exact absurd (h 85 (by simp)) (by decide)
   ·simp
   ·rcases h with rfl | rfl <;> decide
  have hno : stepV (tys vs) k (.nd w x 0 []) n = none := by
   rcases h2 with ⟨_, rfl, _⟩ | ⟨_, rfl, _⟩ | ⟨_, rfl, _⟩
   all_goals exact stepV_plain (by decide) (by decide) (by decide)
  rw [hno]
  rcases h2 with ⟨rfl, rfl, _⟩ | ⟨rfl, rfl, _⟩ | ⟨rfl, rfl, _⟩
  all_goals
   refine jB [(0, _), (1, _), (2, _)] Tryz.func82 Tryz.ntmps82 fun B hok hB hW => ?_
   repeat' (first | (refine run (t := tb) 400 rfl ?_ ?_; (focus (repeat' (first | exact trivial | apply And.intro | omega | (simp only [List.length_append, List.length_cons, List.length_nil, Int.toNat_natCast]; omega))))) | (refine k_op rfl ?_; first | refine jV (g_ldS rfl rfl (by assumption) rfl rfl) ?_ | (refine jV (g_pickF rfl rfl rfl) ?_)) | (refine k_gf rfl rfl (by first | rfl | (refine decide_eq_false ?_; (assumption))) ?_) | (refine k_ff rfl rfl ?_))
   all_goals refine jZ (vs := [_, _]) rfl ⟨rfl, rfl, trivial⟩ rfl ⟨Gh.le.refl _, rfl, ?_⟩
   all_goals exact .inl ⟨rfl, _, rfl⟩
 | lst k b ks bs a c h1 h2 h3 hk =>
  have hk0 : bt (91 :: k) (Int.toNat 0) = 91 := bt_zero 91 k
  have hkl2 : (91 :: k).length = k.length + 1 := rfl
  have hst := stepV_kid (ts := tys vs) (c := 91) (r := k) (v := .nd 91 [] 0 ks) (n := n) (.inl rfl)
  rw [V.kids] at hst
  rw [hst]
  by_cases hn2 : n < ((ks.length : Nat) : Int)
  ·obtain ⟨i, rfl⟩ : ∃ i : Nat, n = i := ⟨n.toNat, by omega⟩
   obtain ⟨kb, ko, kc, e, hs⟩ := h2.expl (by omega)
   simp only [Value.slice.injEq] at e
   obtain ⟨rfl, -, rfl⟩ := e
   have hxi : nth bs i = nth bs i := rfl
   rw [if_pos hn2]
   refine jB [(0, _), (1, _), (2, _)] Tryz.func82 Tryz.ntmps82 fun B hok hB hW => ?_
   repeat' (first | refine jM ?_ | (refine k_op rfl ?_; first | refine jV (g_ldS rfl rfl (by assumption) rfl rfl) ?_ | (refine jV (g_ldR1x rfl rfl (by assumption) ?_ (by assumption) rfl) ?_; (focus ((omega); done))) | (refine jV (g_pickT rfl rfl rfl) ?_) | refine jV (g_lenL rfl) ?_ | (refine jV (g_iaddrN rfl rfl (by omega)) ?_)) | (refine k_gt rfl rfl rfl ?_) | (refine k_tt rfl rfl ?_) | (refine k_ff rfl (dFf (by omega)) ?_))
   all_goals refine jZ (vs := [_, _]) rfl ⟨rfl, rfl, trivial⟩ rfl ⟨Gh.le.refl _, rfl, ?_⟩
   all_goals exact .inr ⟨_, _, nth bs i, rfl, rfl, hk i (by omega)⟩
  ·rw [if_neg hn2]
   refine jB [(0, _), (1, _), (2, _)] Tryz.func82 Tryz.ntmps82 fun B hok hB hW => ?_
   repeat' (first | refine jM ?_ | (refine k_op rfl ?_; first | refine jV (g_ldS rfl rfl (by assumption) rfl rfl) ?_ | (refine jV (g_pickT rfl rfl rfl) ?_) | refine jV (g_lenL rfl) ?_) | (refine k_gt rfl rfl rfl ?_) | (refine k_tt rfl (by first | rfl | (refine decide_eq_true ?_; (omega))) ?_))
   all_goals refine jZ (vs := [_, _]) rfl ⟨rfl, rfl, trivial⟩ rfl ⟨Gh.le.refl _, rfl, ?_⟩
   all_goals exact .inl ⟨rfl, _, rfl⟩
 | non k b h1 =>
  have hk0 : bt (63 :: k) (Int.toNat 0) = 63 := bt_zero 63 k
  have hkl2 : (63 :: k).length = k.length + 1 := rfl
  have hst := stepV_kid (ts := tys vs) (c := 63) (r := k) (v := .nd 63 [] 0 []) (n := n) (.inr rfl)
  rw [V.kids, if_neg (by simp; omega)] at hst
  rw [hst]
  refine jB [(0, _), (1, _), (2, _)] Tryz.func82 Tryz.ntmps82 fun B hok hB hW => ?_
  repeat' (first | refine jM ?_ | (refine k_op rfl ?_; first | refine jV (g_ldS rfl rfl (by assumption) rfl rfl) ?_ | (refine jV (g_pickF rfl rfl rfl) ?_) | refine jV (g_lenL rfl) ?_) | (refine k_gf rfl rfl rfl ?_) | (refine k_tt rfl (by first | rfl | (refine decide_eq_true ?_; (omega))) ?_))
  all_goals refine jZ (vs := [_, _]) rfl ⟨rfl, rfl, trivial⟩ rfl ⟨Gh.le.refl _, rfl, ?_⟩
  all_goals exact .inl ⟨rfl, _, rfl⟩
 | opt k b kb b' cc w h0 h1 h2 h3 =>
  have hk0 : bt (63 :: k) (Int.toNat 0) = 63 := bt_zero 63 k
  have hkl2 : (63 :: k).length = k.length + 1 := rfl
  have hst := stepV_kid (ts := tys vs) (c := 63) (r := k) (v := .nd 63 [] 0 [w]) (n := n) (.inr rfl)
  rw [V.kids] at hst
  rw [hst]
  by_cases hn2 : n = 0
  ·subst hn2
   rw [if_pos (by simp)]
   refine jB [(0, _), (1, _), (2, _)] Tryz.func82 Tryz.ntmps82 fun B hok hB hW => ?_
   repeat' (first | refine jM ?_ | (refine k_op rfl ?_; first | refine jV (g_ldS rfl rfl (by assumption) rfl rfl) ?_ | (refine jV (g_pickF rfl rfl rfl) ?_) | refine jV (g_lenL rfl) ?_ | (refine jV (g_iaddr rfl rfl (by omega)) ?_)) | (refine k_gf rfl rfl rfl ?_) | (refine k_tt rfl rfl ?_) | (refine k_ff rfl rfl ?_))
   all_goals refine jZ (vs := [_, _]) rfl ⟨rfl, rfl, trivial⟩ rfl ⟨Gh.le.refl _, rfl, ?_⟩
   all_goals exact .inr ⟨_, _, b', rfl, rfl, h3⟩
  ·rw [if_neg (by simp; omega)]
   refine jB [(0, _), (1, _), (2, _)] Tryz.func82 Tryz.ntmps82 fun B hok hB hW => ?_
   repeat' (first | refine jM ?_ | (refine k_op rfl ?_; first | refine jV (g_ldS rfl rfl (by assumption) rfl rfl) ?_ | (refine jV (g_pickF rfl rfl rfl) ?_) | refine jV (g_lenL rfl) ?_) | (refine k_gf rfl rfl rfl ?_) | (refine k_tt rfl (by first | rfl | (refine decide_eq_true ?_; (omega))) ?_))
   all_goals refine jZ (vs := [_, _]) rfl ⟨rfl, rfl, trivial⟩ rfl ⟨Gh.le.refl _, rfl, ?_⟩
   all_goals exact .inl ⟨rfl, _, rfl⟩
 | enm k b tgb t d h0 h1 h2 h3 =>
  have hst := stepV_typ (v := .nd 69 [] d.tag []) (n := n) h0.1
  have hno : stepV (tys vs) k (.nd 69 [] d.tag []) n = none := by
   rw [hst]
   cases fldT t.fields n with
   | none => rfl
   | some f => dsimp only; rw [if_pos h0.2]
  rw [hno]
  obtain ⟨r, rfl⟩ := refT_64 h0.1
  have hk0 : bt (64 :: r) (Int.toNat 0) = 64 := bt_zero 64 r
  have hkl2 : (64 :: r).length = r.length + 1 := rfl
  refine jB [(0, _), (1, _), (2, _)] Tryz.func82 Tryz.ntmps82 fun B hok hB hW => ?_
  repeat' (first | refine jM ?_ | (refine k_op rfl ?_; first | refine jV (g_ldS rfl rfl (by assumption) rfl rfl) ?_ | (refine jV (g_pickF rfl rfl rfl) ?_)) | (refine k_gf rfl rfl rfl ?_) | (refine k_ff rfl rfl ?_))
  all_goals refine jZ (vs := [_, _]) rfl ⟨rfl, rfl, trivial⟩ rfl ⟨Gh.le.refl _, rfl, ?_⟩
  all_goals exact .inl ⟨rfl, _, rfl⟩
 | uni k b tgb kb b' cc t d w hcc h0 h1 h2 h3 h4 hk =>
  have hst := stepV_typ (v := .nd 85 [] d.tag [w]) (n := n) h0.1
  have hTW := hw.ty _ (refT_mem h0.1)
  have hso := h0.2
  obtain ⟨r, rfl⟩ := refT_64 h0.1
  have hk0 : bt (64 :: r) (Int.toNat 0) = 64 := bt_zero 64 r
  have hkl2 : (64 :: r).length = r.length + 1 := rfl
  by_cases hdn : d.tag = n
  ·have hyes : stepV (tys vs) (64 :: r) (.nd 85 [] d.tag [w]) n = some (d.kind, w) := by
    rw [hst, ← hdn, fldT_mem hTW h1]
    dsimp only
    rw [if_neg (by omega), if_neg (by omega), if_pos (show V.tag (.nd 85 [] d.tag [w]) = d.tag from rfl)]; rfl
   rw [hyes]
   refine jB [(0, _), (1, _), (2, _)] Tryz.func82 Tryz.ntmps82 fun B hok hB hW => ?_
   repeat' (first | refine jM ?_ | (refine k_op rfl ?_; first | refine jV (g_ldS rfl rfl (by assumption) rfl rfl) ?_ | (refine jV (g_pickT rfl rfl rfl) ?_) | (refine jV (g_pickF rfl rfl rfl) ?_)) | (refine k_gt rfl rfl rfl ?_) | (refine k_gf rfl rfl rfl ?_) | (refine k_tt rfl rfl ?_) | (refine k_ff rfl rfl ?_))
   (refine k_any (s_any (id := 6) _ (fun _ h => h) mixed ?_); refine jT 9 [0, 1, 2, 6, 7, 8, 12] (bts 16 4551) ?_; (refine jG (bts 16 4559) 3 rfl (g_ldS rfl rfl (by assumption) rfl rfl) ?_); (refine jG (bts 16 4575) 4 rfl (g_iaddr rfl rfl (by omega)) ?_); (refine jG (bts 16 4607) 5 rfl (g_ldS rfl rfl (by assumption) rfl rfl) ?_); refine jT 5 [14] (bts 16 20991) ?_; (refine jG (bts 16 21503) 9 rfl (g_ldS rfl rfl (by assumption) rfl rfl) ?_); (refine jG (bts 16 22527) 10 rfl (g_iaddr rfl rfl (by omega)) ?_); (refine jG (bts 16 24575) 11 rfl (g_ldS rfl rfl (by assumption) rfl rfl) ?_); refine jT 0 [13, 15] (bts 16 65535) ?_; refine x_done (by kernel_rfl) (k_bk ?_))
   all_goals repeat' (refine jR ?_)
   all_goals refine jZ (vs := [_, _]) rfl ⟨rfl, rfl, trivial⟩ rfl ⟨Gh.le.refl _, rfl, ?_⟩
   all_goals (try rw [decide_eq_true hdn])
   all_goals exact .inr ⟨_, _, b', rfl, rfl, hk⟩
  ·have hno : stepV (tys vs) (64 :: r) (.nd 85 [] d.tag [w]) n = none := by
    rw [hst]
    cases fldT t.fields n with
    | none => rfl
    | some f =>
     dsimp only
     rw [if_neg (by omega), if_neg (by omega), if_neg (show ¬ V.tag (.nd 85 [] d.tag [w]) = n from hdn)]
   rw [hno]
   refine jB [(0, _), (1, _), (2, _)] Tryz.func82 Tryz.ntmps82 fun B hok hB hW => ?_
   repeat' (first | refine jM ?_ | (refine k_op rfl ?_; first | refine jV (g_ldS rfl rfl (by assumption) rfl rfl) ?_ | (refine jV (g_pickT rfl rfl rfl) ?_) | (refine jV (g_pickF rfl rfl rfl) ?_)) | (refine k_gt rfl rfl rfl ?_) | (refine k_gf rfl rfl rfl ?_) | (refine k_tt rfl rfl ?_) | (refine k_ff rfl rfl ?_))
   (refine k_any (s_any (id := 6) _ (fun _ h => h) mixed ?_); refine jT 9 [0, 1, 2, 6, 7, 8, 12] (bts 16 4551) ?_; (refine jG (bts 16 4559) 3 rfl (g_ldS rfl rfl (by assumption) rfl rfl) ?_); (refine jG (bts 16 4575) 4 rfl (g_iaddr rfl rfl (by omega)) ?_); (refine jG (bts 16 4607) 5 rfl (g_ldS rfl rfl (by assumption) rfl rfl) ?_); refine jT 5 [14] (bts 16 20991) ?_; (refine jG (bts 16 21503) 9 rfl (g_ldS rfl rfl (by assumption) rfl rfl) ?_); (refine jG (bts 16 22527) 10 rfl (g_iaddr rfl rfl (by omega)) ?_); (refine jG (bts 16 24575) 11 rfl (g_ldS rfl rfl (by assumption) rfl rfl) ?_); refine jT 0 [13, 15] (bts 16 65535) ?_; refine x_done (by kernel_rfl) (k_bk ?_))
   all_goals repeat' (refine jR ?_)
   all_goals refine jZ (vs := [_, _]) rfl ⟨rfl, rfl, trivial⟩ rfl ⟨Gh.le.refl _, rfl, ?_⟩
   all_goals (try rw [decide_eq_false hdn])
   all_goals exact .inl ⟨rfl, _, rfl⟩
 | recd k b t fs bs a a2 c c2 h0 h1 h2 h3 h4 h5 hk =>
  have hst := stepV_typ (v := .nd 82 [] 0 (fs.map fldV)) (n := n) h0.1
  have hTW := hw.ty _ (refT_mem h0.1)
  have hso := h0.2
  have hkk := kindOk_kOk (kindIn_ok hki)
  obtain ⟨r, rfl⟩ := refT_64 h0.1
  have hk0 : bt (64 :: r) (Int.toNat 0) = 64 := bt_zero 64 r
  have hkl2 : (64 :: r).length = r.length + 1 := rfl
  have hvl : vs.length ≤ 8 := by have := hw.len; unfold tys at this; simpa using this
  have href := refV_ty vs (64 :: r)
  have cx_rf := c_ref (k := 64 :: r) h (by omega) hkk.1 (by omega)
  rcases hrv : refV vs (64 :: r) with _ | x
  ·rw [hrv, h0.1] at href; cases href
  rw [hrv] at href cx_rf
  have htx : x.2 = t := by rw [h0.1] at href; exact Option.some.inj href
  subst htx
  have hxm := refV_mem hrv
  have hfl := hTW.len
  have cx_rec := c_l4Record (n := n) hu (h.fl x hxm) (by omega) cx_rf hso
  cases hg : fldT x.2.fields n with
  | none =>
   rw [hg] at hst cx_rec
   have hno : stepV (tys vs) (64 :: r) (.nd 82 [] 0 (fs.map fldV)) n = none := hst
   rw [show (fs.map fun p => V.nd 61 [] p.1.tag [p.2]) = fs.map fldV from rfl, hno]
   refine jB [(0, _), (1, _), (2, _)] Tryz.func82 Tryz.ntmps82 fun B hok hB hW => ?_
   repeat' (first | refine jM ?_ | (refine k_op rfl ?_; first | refine jV (g_ldS rfl rfl (by assumption) rfl rfl) ?_ | (refine jV (g_pickT rfl rfl rfl) ?_) | (refine jV (g_pickF rfl rfl rfl) ?_) | refine c_al rfl rfl fun _ => ?_ | refine c_stA rfl rfl rfl rfl rfl rfl ?_ | (refine c_rt rfl rfl rfl cx_rec rfl ?_)) | (refine k_gt rfl rfl rfl ?_) | (refine k_gf rfl rfl rfl ?_) | (refine k_tt rfl rfl ?_) | (refine k_ff rfl rfl ?_))
   all_goals refine jZ (vs := [_, _]) rfl ⟨rfl, rfl, trivial⟩ rfl ⟨Gh.le.refl _, rfl, ?_⟩
   all_goals exact .inl ⟨rfl, _, rfl⟩
  | some f =>
   rw [hg] at hst cx_rec
   simp only [Option.getD_some, Option.isSome_some] at cx_rec
   have hfm := List.mem_of_find?_eq_some hg
   have hft : f.tag = n := by have := List.find?_some hg; simpa using this
   have hyes : stepV (tys vs) (64 :: r) (.nd 82 [] 0 (fs.map fldV)) n = some (f.kind, getV (tys vs) (.nd 82 [] 0 (fs.map fldV)) f) := by
    rw [hst]; dsimp only; rw [if_neg (by omega), if_pos hso]
   rw [show (fs.map fun p => V.nd 61 [] p.1.tag [p.2]) = fs.map fldV from rfl, hyes]
   have hfs9 : fs.length ≤ 100000 := by
    have h7 := tots_len (fs.map fldV)
    rw [nd_tot] at htt
    have e1 : (fs.map fldV).length = fs.length := by simp
    have e2 : (fs.map fun p => V.nd 61 [] p.1.tag [p.2]) = fs.map fldV := rfl
    rw [e2] at htt
    omega
   have htn : ∀ i, i < fs.length → nth (fs.map fun p : Fld × V => p.1.tag) i = (nth fs i).1.tag := fun i hi => by rw [nth_eq (by simpa using hi), nth_eq hi]; simp
   have htl : (fs.map fun p : Fld × V => p.1.tag).length = fs.length := by simp
   by_cases hex : ∃ j, j < fs.length ∧ (nth fs j).1.tag = n
   ·obtain ⟨j, hj, hjn, hjf⟩ := first_at hex
    have hget : getV (tys vs) (.nd 82 [] 0 (fs.map fldV)) f = (nth fs j).2 := by
     unfold getV
     rw [V.kids, toldV_at hj (by rw [hjn, hft]) (fun i hi => by rw [hft]; exact hjf i hi)]; rfl
    have hkd : (nth fs j).1 = f := fld_tag hTW (h5 j hj) hfm (by rw [hjn, hft])
    rw [hget]
    have cx_at := c_atY (tg := fs.map fun p : Fld × V => p.1.tag) (n := n) (by rw [h4, htl]) (by omega) (by rw [htl]; exact h1) (by rw [htl]; exact h2) (by rw [htl]; exact h3) (by rw [htl]; exact hj) (by rw [htn j hj]; exact hjn) (fun i hi => by rw [htn i (by omega)]; exact hjf i hi)
    have hrj := hk j hj
    rw [hkd] at hrj
    refine jB [(0, _), (1, _), (2, _)] Tryz.func82 Tryz.ntmps82 fun B hok hB hW => ?_
    repeat' (first | refine jM ?_ | (refine k_op rfl ?_; first | refine jV (g_ldS rfl rfl (by assumption) rfl rfl) ?_ | (refine jV (g_pickT rfl rfl rfl) ?_) | (refine jV (g_pickF rfl rfl rfl) ?_) | refine c_al rfl rfl fun _ => ?_ | refine c_stA rfl rfl rfl rfl rfl rfl ?_ | (refine c_rt rfl rfl rfl cx_rec rfl ?_) | (refine c_rt rfl rfl rfl cx_at rfl ?_)) | (refine k_gt rfl rfl rfl ?_) | (refine k_gf rfl rfl rfl ?_) | (refine k_tt rfl rfl ?_) | (refine k_ff rfl rfl ?_))
    all_goals refine jZ (vs := [_, _]) rfl ⟨rfl, rfl, trivial⟩ rfl ⟨Gh.le.refl _, rfl, ?_⟩
    all_goals exact .inr ⟨_, _, nth bs j, rfl, rfl, hrj⟩
   ·have hjno : ∀ i, i < fs.length → (nth fs i).1.tag ≠ n := fun i hi e => hex ⟨i, hi, e⟩
    have hget : getV (tys vs) (.nd 82 [] 0 (fs.map fldV)) f = standV (tys vs) f := by
     unfold getV
     rw [V.kids, toldV_no fun i hi => by rw [hft]; exact hjno i hi]; rfl
    rw [hget]
    obtain ⟨g1, g2, g3⟩ := standV_ok hw (refT_mem h0.1) (by omega) hfm
    obtain ⟨g4, g5⟩ := valOf_rd g2
    have hdk : kindIn (tys vs) f.kind = true := kind_in hw (refT_mem h0.1) (by omega) hfm
    have cx_at := c_atN (tg := fs.map fun p : Fld × V => p.1.tag) (n := n) (by omega) (by rw [htl]; exact h1) (by rw [htl]; exact h2) (fun i hi => by rw [htn i (by omega)]; exact hjno i (by omega))
    have cx_sta := c_standS (f := f) h hw hdk
    have cx_rd := readC_all (u := .slice ua vs.length uc) (vs := vs) hw 12 (by omega) G f.kind (standF (tys vs) f) h hdk (by omega)
    rw [g4] at cx_rd
    refine jB [(0, _), (1, _), (2, _)] Tryz.func82 Tryz.ntmps82 fun B hok hB hW => ?_
    repeat' (first | refine jM ?_ | (refine k_op rfl ?_; first | refine jV (g_ldS rfl rfl (by assumption) rfl rfl) ?_ | (refine jV (g_pickT rfl rfl rfl) ?_) | (refine jV (g_pickF rfl rfl rfl) ?_) | refine c_al rfl rfl fun _ => ?_ | refine c_stA rfl rfl rfl rfl rfl rfl ?_ | (refine c_rt rfl rfl rfl cx_rec rfl ?_) | (refine c_rt rfl rfl rfl cx_at rfl ?_)) | (refine k_gt rfl rfl rfl ?_) | (refine k_gf rfl rfl rfl ?_) | (refine k_tt rfl rfl ?_) | (refine k_ff rfl rfl ?_))
    (refine k_any (s_any (id := 14) _ (fun _ h => h) mixed ?_); refine jT 12 [0, 2, 5] (bts 15 37) ?_; (refine jG (bts 15 39) 1 rfl (g_bld rfl rfl) ?_); (refine jG (bts 15 47) 3 rfl (g_ldA rfl rfl rfl rfl) ?_); (refine jG (bts 15 111) 6 rfl (g_ld rfl rfl rfl) ?_); refine jA 4 rfl ?_; (refine c_rt rfl rfl rfl cx_sta rfl ?_); refine jS (bts 15 127) ?_; refine jA 7 rfl ?_; (refine c_fns rfl rfl rfl cx_rd rfl ?_; rintro _ G hle ⟨q1, r1, ok1, rfl, hyes, hno⟩; skip); refine jS (bts 15 255) ?_; refine jT 0 [8, 9, 10, 11, 12, 13, 14] (bts 15 32767) ?_; refine x_done (by kernel_rfl) (k_bk ?_))
    all_goals
     cases ok1 with
     | false => cases hno rfl
     | true =>
      obtain ⟨w, wb, rfl, hf, hrep⟩ := hyes rfl
      simp only [Option.some.injEq, Prod.mk.injEq] at hf
      obtain ⟨rfl, rfl⟩ := hf
      repeat' (first | (refine jR ?_) | (refine k_op rfl ?_; (refine jV (g_pickT rfl rfl rfl) ?_)) | (refine k_gt rfl rfl rfl ?_))
      all_goals refine jZ (vs := [_, _]) rfl ⟨rfl, rfl, trivial⟩ rfl ⟨hle, rfl, ?_⟩
      all_goals exact .inr ⟨_, _, wb, rfl, rfl, hrep⟩
theorem given_some {s k w : List UInt8} {u : V} (hg : givenV s k w = some u) : ∃ ts, schemaOf s = some ts ∧ kindIn ts k = true ∧ valOf ts k w = some u ∧ u.tot ≤ 40000 ∧ u.wf := by
 obtain ⟨ts, hs, hki, hvo⟩ : ∃ ts, schemaOf s = some ts ∧ kindIn ts k = true ∧ valOf ts k w = some u := by
  unfold givenV at hg
  cases hs : schemaOf s with
  | none => rw [hs] at hg; cases hg
  | some ts =>
   rw [hs] at hg
   dsimp only at hg
   by_cases hk : kindIn ts k = true
   ·rw [if_pos hk] at hg; exact ⟨ts, rfl, hk, hg⟩
   ·rw [if_neg hk] at hg; cases hg
 refine ⟨ts, hs, hki, hvo, ?_, (valOf_wf hvo).1⟩
 unfold valOf at hvo
 split at hvo
 ·split at hvo
  ·rename_i v hv
   obtain rfl := Option.some.inj hvo
   have := rd_tot _ _ _ _ hv
   dsimp only at this; omega
  ·cases hvo
 ·cases hvo
theorem standV_tot {ts : List Ty} (hw : SchW ts) {t : Ty} (ht : t ∈ ts) (hs : t.sort ≠ 69) {d : Fld} (hd : d ∈ t.fields) : (standV ts d).tot ≤ 40000 := by
 obtain ⟨g4, g5⟩ := valOf_rd (standV_ok hw ht hs hd).2.1
 have := rd_tot _ _ _ _ g4
 dsimp only at this
 simp only [List.length_nil] at this
 omega
theorem stepV_tot {ts : List Ty} (hw : SchW ts) {k : List UInt8} {v : V} (h : OfK ts k v) (hk : kindIn ts k = true) {n : Int} (hn : 0 ≤ n) {k' : List UInt8} {v' : V} (e : stepV ts k v n = some (k', v')) {N : Nat} (hv : v.tot ≤ N) (hN : 40000 ≤ N) : v'.tot ≤ N := by
 obtain ⟨c, r, rfl⟩ := kind_ne hk
 unfold stepV at e
 dsimp only at e
 split at e
 ·rename_i hc
  split at e
  ·rename_i hlt
   simp only [Option.some.injEq, Prod.mk.injEq] at e
   obtain ⟨rfl, rfl⟩ := e
   have h1 := tot_nth (ks := v.kids) (i := n.toNat) (by omega)
   obtain ⟨w, x, t, ks⟩ := v
   rw [nd_tot] at hv
   rw [V.kids] at h1 ⊢
   omega
  ·cases e
 ·split at e
  ·cases e
  ·rename_i t hr
   have ht := refT_mem hr
   split at e
   ·cases e
   ·rename_i f hf
    have hfm := List.mem_of_find?_eq_some hf
    split at e
    ·cases e
    ·rename_i h69
     split at e
     ·rename_i h82
      simp only [Option.some.injEq, Prod.mk.injEq] at e
      obtain ⟨rfl, rfl⟩ := e
      rcases ofK_inv_t h hr with ⟨_, fs, rfl, g3, g4, _, _⟩ | ⟨h1, _⟩ | ⟨h1, _⟩
      ·unfold getV
       rw [V.kids]
       cases hto : toldV f (fs.map fldV) with
       | none =>
        have := standV_tot hw ht h69 hfm
        show (standV ts f).tot ≤ N
        omega
       | some u =>
        obtain ⟨_, p, hp, _, rfl⟩ := toldV_of (hw.ty t ht) hfm (fun p hp => ⟨g3 p hp, g4 p hp⟩) hto
        have h2 := tots_mem (List.mem_map_of_mem (f := fldV) hp)
        rw [nd_tot] at hv
        simp only [fldV, nd_tot, V.tots] at h2
        show p.2.tot ≤ N
        omega
      ·omega
      ·omega
     ·rename_i h82
      split at e
      ·simp only [Option.some.injEq, Prod.mk.injEq] at e
       obtain ⟨rfl, rfl⟩ := e
       rcases ofK_inv_t h hr with ⟨h1, _⟩ | ⟨h1, _⟩ | ⟨_, _, d, u, rfl, g4, g5⟩
       ·omega
       ·omega
       ·simp only [nd_tot, V.tots] at hv
        show u.tot ≤ N
        omega
      ·cases e
theorem followV_tot {ts : List Ty} (hw : SchW ts) : ∀ {p : List Int} {k : List UInt8} {v : V} {k' : List UInt8} {v' : V}, OfK ts k v → kindIn ts k = true → (∀ n ∈ p, 0 ≤ n) → followV ts k v p = some (k', v') → ∀ {N : Nat}, v.tot ≤ N → 40000 ≤ N → v'.tot ≤ N
 | [], k, v, k', v', h, hk, _, e, N, hv, hN => by
  simp only [followV, Option.some.injEq, Prod.mk.injEq] at e
  obtain ⟨rfl, rfl⟩ := e
  exact hv
 | n :: p, k, v, k', v', h, hk, hp, e, N, hv, hN => by
  unfold followV at e
  cases hs : stepV ts k v n with
  | none => rw [hs] at e; cases e
  | some x =>
   rw [hs] at e
   obtain ⟨k1, v1⟩ := x
   obtain ⟨h1, h2⟩ := stepV_ok hw h hk (hp n (by simp)) hs
   exact followV_tot hw h1 h2 (fun m hm => hp m (by simp [hm])) e (stepV_tot hw h hk (hp n (by simp)) hs hv hN) hN
theorem followV_drop {ts : List Ty} {p : List Int} {i : Nat} (hi : i < p.length) {k : List UInt8} {v : V} : followV ts k v (p.drop i) = match stepV ts k v (nth p i) with
  | none => none
  | some (k', v') => followV ts k' v' (p.drop (i + 1)) := by
 rw [List.drop_eq_getElem_cons hi, nth_eq hi, followV]
 all_goals (cases stepV ts k v p[i] <;> rfl)
theorem repR_seg {ts : List Ty} {v : V} {k : List UInt8} {b : Nat} (h : RepR G ts v k b) : ∃ x y z, Seg G b 0 [S k, x, y, z] := by
 cases h with
 | leaf w x k tx b h1 h2 => exact ⟨_, _, _, h1⟩
 | lst k b ks bs a c h1 h2 h3 hk => exact ⟨_, _, _, h1⟩
 | non k b h1 => exact ⟨_, _, _, h1⟩
 | opt k b kb b' cc w h0 h1 h2 h3 => exact ⟨_, _, _, h1⟩
 | recd k b t fs bs a a2 c c2 h0 h1 h2 h3 h4 h5 hk => exact ⟨_, _, _, h1⟩
 | enm k b tgb t d h0 h1 h2 h3 => exact ⟨_, _, _, h2⟩
 | uni k b tgb kb b' cc t d w hcc h0 h1 h2 h3 h4 hk => exact ⟨_, _, _, h2⟩
theorem c_walkS {u : Value} {vs : List TyX} (h : SchR G u vs) (hw : SchW (tys vs)) {p : List Int} {pv : Value} (hp : SlV G pv 1 p.length (rows inR p)) (hpn : ∀ n ∈ p, 0 ≤ n ∧ n ≤ 999999) (hpl : p.length ≤ 1000) {k : List UInt8} {v : V} {b : Nat} (hr : RepR G (tys vs) v k b) (ho : OfK (tys vs) k v) (hki : kindIn (tys vs) k = true) (htt : v.tot ≤ 1000000) :
  FnS Tryz.prog 39 [u, Pt b 0, pv] G (StepP (tys vs) (followV (tys vs) k v p)) := by
 have hu := h.sl.one
 obtain ⟨pa, pc, rfl⟩ := hp.sl
 refine jB [(0, _), (1, _), (2, _)] Tryz.func39 Tryz.ntmps39 fun B hok hB hW => ?_
 repeat' (refine jR ?_)
 refine k_loop (ι := List UInt8 × V × Nat × Nat × Gh) (fun j => ((RepR j.2.2.2.2 (tys vs) j.2.1 j.1 j.2.2.1 ∧ OfK (tys vs) j.1 j.2.1) ∧ (kindIn (tys vs) j.1 = true ∧ j.2.1.tot ≤ 1000000)) ∧ (Gh.le G j.2.2.2.2 ∧ j.2.2.2.1 ≤ p.length) ∧ followV (tys vs) k v p = followV (tys vs) j.1 j.2.1 (p.drop j.2.2.2.1)) (fun j => [(0, u), (1, Pt j.2.2.1 0), (2, .slice pa p.length pc), (8, I j.2.2.2.1)]) (fun j => j.2.2.2.2) (fun j => []) (fun j => p.length - j.2.2.2.1) (k, v, b, 0, G) ?_ (by repeat' constructor) rfl sRr (fun j Hj => ?_)
 ·exact ⟨⟨⟨hr, ho⟩, hki, htt⟩, ⟨Gh.le.refl _, Nat.zero_le _⟩, rfl⟩
 obtain ⟨k0, v0, b0, i, Gq⟩ := j
 dsimp only at Hj ⊢
 obtain ⟨⟨⟨hr0, ho0⟩, hk0, ht0⟩, ⟨hgq, hi0⟩, he⟩ := Hj
 by_cases hi : i < p.length
 ·obtain ⟨xb, xo, xc, e, hs1⟩ := (hp.mono hgq).expl (by omega)
  simp only [Value.slice.injEq] at e
  obtain ⟨rfl, -, rfl⟩ := e
  have hni := hpn _ (nth_mem hi)
  have hti : nth p i = nth p i := rfl
  have hstp := c_stepS (h.mono hgq) hw hr0 ho0 hk0 hni ht0
  rw [followV_drop hi] at he
  cases hsv : stepV (tys vs) k0 v0 (nth p i) with
  | none =>
   have cx_stn := StepP.no hstp hsv
   rw [hsv] at he
   repeat' (first | (refine jR ?_) | (refine k_op rfl ?_; first | refine jV (g_lenL rfl) ?_ | (refine jV (g_iaddrN rfl rfl (by omega)) ?_) | (refine jV (g_ldR1x rfl rfl (by assumption) ?_ (by assumption) rfl) ?_; (focus ((omega); done))) | (refine c_fns rfl rfl rfl cx_stn rfl ?_; rintro _ G hle ⟨q1, rfl⟩; skip)) | (refine k_tt rfl (by first | rfl | (refine decide_eq_true ?_; (omega))) ?_))
   all_goals refine jZ (vs := [_, _]) rfl ⟨rfl, rfl, trivial⟩ rfl ⟨hgq.trans hle, rfl, ?_⟩
   all_goals exact .inl ⟨he, _, rfl⟩
  | some y =>
   obtain ⟨k1, v1⟩ := y
   have cx_sty := StepP.yes hstp hsv
   rw [hsv] at he
   obtain ⟨g1, g2⟩ := stepV_ok hw ho0 hk0 hni.1 hsv
   have g3 := stepV_tot hw ho0 hk0 hni.1 hsv ht0 (by omega)
   repeat' (first | refine jM ?_ | (refine k_op rfl ?_; first | refine jV (g_lenL rfl) ?_ | (refine jV (g_iaddrN rfl rfl (by omega)) ?_) | (refine jV (g_ldR1x rfl rfl (by assumption) ?_ (by assumption) rfl) ?_; (focus ((omega); done))) | (refine c_fns rfl rfl rfl cx_sty rfl ?_; rintro _ G hle ⟨b1, rfl, hrep1⟩; skip)) | (refine k_tt rfl (dTt (by omega)) ?_) | (refine k_ff rfl rfl ?_))
   exact k_rd (k1, v1, b1, i + 1, G) ⟨⟨⟨hrep1, g1⟩, g2, g3⟩, ⟨hgq.trans hle, by dsimp only; omega⟩, he⟩ (by dsimp only; omega) (by repeat' constructor) rfl sRr
 ·have hd : p.drop i = [] := List.drop_eq_nil_of_le (by omega)
  rw [hd] at he
  repeat' (first | (refine jR ?_) | (refine k_op rfl ?_; (refine jV (g_lenL rfl) ?_)) | (refine k_ff rfl (dFf (by omega)) ?_))
  all_goals refine jZ (vs := [_, _]) rfl ⟨rfl, rfl, trivial⟩ rfl ⟨hgq, rfl, ?_⟩
  all_goals exact .inr ⟨_, _, b0, he, rfl, hr0⟩
theorem c_l4OfX {s k w : List UInt8} {v : V} {ts : List Ty} (h : s.length ≤ 1048576 ∧ k.length ≤ 1048576 ∧ w.length ≤ 1048576) (hs : schemaOf s = some ts) (hki : kindIn ts k = true) (hvo : valOf ts k w = some v) :
  FnS Tryz.prog 31 [S s, S k, S w] G (fun r G' => ∃ a c vs b, r = Tu [.slice a vs.length c, Pt b 0, Bo true] ∧ SchR G' (.slice a vs.length c) vs ∧ tys vs = ts ∧ RepR G' ts v k b) := by
 have hw := schemaOf_w hs
 have hk : kindS s k = true := by unfold kindS; rw [hs]; exact hki
 obtain ⟨h12, hl⟩ := valOf_rd hvo
 have cx_lka : ∀ G, FnS Tryz.prog 19 [S s, S k] G (fun v G' => ∃ a c vs, v = Tu [.slice a vs.length c, Bo true] ∧ SchR G' (.slice a vs.length c) vs ∧ tys vs = ts) := fun G => by
  refine (c_l3Kind (G := G) (s := s) (k := k) (by omega) (by omega)).mono ?_
  rintro v G' L' ⟨h1, h2, u, vs, rfl, h4, _, h6⟩
  obtain ⟨_, ⟨rfl, h0⟩ | ⟨b, o, cap, rfl, _, _⟩⟩ := h4.sl
  ·exact ⟨h1, h2, none, 0, vs, by rw [hk, h0], by rw [h0]; exact h4, h6 ts hs hki⟩
  ·exact ⟨h1, h2, _, cap, vs, by rw [hk], h4, h6 ts hs hki⟩
 refine jB [(0, _), (1, _), (2, _)] Tryz.func31 Tryz.ntmps31 fun B hok hB hW => ?_
 repeat' (first | (refine jR ?_) | (refine k_op rfl ?_; first | (refine jV (g_pickF rfl rfl rfl) ?_) | refine jV (g_bld rfl rfl) ?_ | (refine c_fns rfl rfl rfl (cx_lka _) rfl ?_; rintro _ G hle ⟨av1, cv1, vs1, rfl, hR1, hT1⟩; skip)) | (refine k_gf rfl rfl rfl ?_) | (refine k_ff rfl (dFf (by omega)) ?_))
 subst hT1
 have cx_rd : FnS Tryz.prog 50 [Ag [.slice av1 vs1.length cv1], S w, S k, I (12 : Nat)] G (fun r G' => ∃ b, r = Tu [Pt b 0, S [], Bo true] ∧ RepR G' (tys vs1) v k b) := by
  refine (readC_all (u := .slice av1 vs1.length cv1) (vs := vs1) hw 12 (by omega) G k w hR1 hki (by omega)).mono ?_
  rintro r G' L' ⟨h1, h2, q, rest, ok, rfl, h3, h4⟩
  cases ok with
  | false => rw [h12] at h4; cases h4 rfl
  | true =>
   obtain ⟨v', b, rfl, h5, h6⟩ := h3 rfl
   rw [h12] at h5
   simp only [Option.some.injEq, Prod.mk.injEq] at h5
   obtain ⟨rfl, rfl⟩ := h5
   exact ⟨h1, h2, b, rfl, h6⟩
 refine k_op rfl ?_
 refine c_fns rfl rfl rfl cx_rd rfl ?_
 rintro _ G2 hle2 ⟨b, rfl, hrep⟩
 repeat' (first | (refine jR ?_) | (refine k_op rfl ?_; (refine jV (g_pickT rfl rfl rfl) ?_)) | (refine k_gt rfl rfl rfl ?_))
 refine jZ (vs := [_, _, _]) rfl ⟨rfl, rfl, rfl, trivial⟩ rfl ⟨(Gh.le.trans hle hle2), rfl, ?_⟩
 exact ⟨_, _, _, b, rfl, hR1.mono hle2, rfl, hrep⟩
def pathGetV (s k w p : List UInt8) : Option (List UInt8 × List UInt8) := match schemaOf s, givenV s k w, pathOf p with
 | some ts, some u, some q => (followV ts k u q).map fun x => (x.1, x.2.out)
 | _, _, _ => none
theorem pgv_none {s k : List UInt8} {o : Option (List Int)} : (match schemaOf s, (none : Option V), o with
 | some ts, some u, some q => (followV ts k u q).map fun x => (x.1, x.2.out)
 | _, _, _ => none) = none := by cases schemaOf s <;> rfl
def pgR (o : Option (List UInt8 × List UInt8)) : Value := Tu [S ((o.map (·.1)).getD []), S ((o.map (·.2)).getD []), Bo o.isSome]
theorem steps_no {s : List UInt8} (h : s.length ≤ 1048576) (hp : pathOf s = none) : ∀ G, FnS Tryz.prog 38 [S s] G (fun v _ => ∃ a c n, v = Tu [.slice a n c, Bo false] ∧ True) := fun G => by
 refine (c_stepsS (G := G) h).mono ?_
 rintro v G' L' ⟨h1, h2, a, c, n, rfl, _⟩
 exact ⟨h1, h2, a, c, n, by rw [hp]; rfl, trivial⟩
theorem steps_yes {s : List UInt8} {p : List Int} (h : s.length ≤ 1048576) (hp : pathOf s = some p) : ∀ G, FnS Tryz.prog 38 [S s] G (fun v G' => ∃ a c n, v = Tu [.slice a n c, Bo true] ∧ n = p.length ∧ SlV G' (.slice a n c) 1 p.length (rows inR p)) := fun G => by
 refine (c_stepsS (G := G) h).mono ?_
 rintro v G' L' ⟨h1, h2, a, c, n, rfl, h3⟩
 exact ⟨h1, h2, a, c, n, by rw [hp]; rfl, h3 p hp⟩
theorem pathOf_le {s : List UInt8} {p : List Int} (h : pathOf s = some p) : p.length ≤ 8 ∧ ∀ n ∈ p, 0 ≤ n ∧ n ≤ 999999 := by
 unfold pathOf at h
 split at h
 ·simp only [Option.some.injEq] at h; subst h; simp
 ·split at h
  ·rename_i q hq
   split at h
   ·rename_i h8
    simp only [Option.some.injEq] at h; subst h
    exact ⟨h8, (stepsOf_len hq).2⟩
   ·cases h
  ·cases h
theorem c_PathGetS {s k w p : List UInt8} (h1 : s.length ≤ 1048576 ∧ k.length ≤ 1048576 ∧ w.length ≤ 1048576 ∧ p.length ≤ 1048576) : PuG Tryz.prog 16 [S s, S k, S w, S p] G (· = pgR (pathGetV s k w p)) := by
 unfold pathGetV
 cases hg : givenV s k w with
 | none =>
  rw [pgv_none]
  have cx_la0 := fun G => c_l4Of0 (G := G) (s := s) (k := k) (w := w) (by omega) hg
  cases hpo : pathOf p with
  | none =>
   have cx_sp := steps_no h1.2.2.2 hpo
   refine jB (Post := fun v G' L' => G' = G ∧ L' = [] ∧ _) [(0, _), (1, _), (2, _), (3, _)] Tryz.func16 Tryz.ntmps16 fun B hok hB hW => ?_
   repeat' (first | (refine jR ?_) | (refine k_op rfl ?_; first | (refine jV (g_pickT rfl rfl rfl) ?_) | (refine c_fns rfl rfl rfl (cx_la0 _) rfl ?_; rintro _ G hle ⟨ua, qa, rfl⟩; skip) | (refine c_fns rfl rfl rfl (cx_sp _) rfl ?_; rintro _ G hle ⟨sa, sc, sn, rfl, hsp⟩; skip)) | (refine k_gt rfl rfl rfl ?_) | (refine k_tt rfl rfl ?_))
   all_goals refine Nx.base hok hB ?_
   all_goals refine jZ (vs := [_, _, _]) rfl ⟨rfl, rfl, rfl, trivial⟩ rfl ⟨rfl, rfl, ?_⟩
   all_goals rfl
  | some q =>
   have cx_sp := steps_yes h1.2.2.2 hpo
   refine jB (Post := fun v G' L' => G' = G ∧ L' = [] ∧ _) [(0, _), (1, _), (2, _), (3, _)] Tryz.func16 Tryz.ntmps16 fun B hok hB hW => ?_
   repeat' (first | (refine jR ?_) | (refine k_op rfl ?_; first | (refine jV (g_pickT rfl rfl rfl) ?_) | (refine c_fns rfl rfl rfl (cx_la0 _) rfl ?_; rintro _ G hle ⟨ua, qa, rfl⟩; skip) | (refine c_fns rfl rfl rfl (cx_sp _) rfl ?_; rintro _ G hle ⟨sa, sc, sn, rfl, hsp⟩; skip)) | (refine k_gt rfl rfl rfl ?_) | (refine k_tt rfl rfl ?_))
   all_goals refine Nx.base hok hB ?_
   all_goals refine jZ (vs := [_, _, _]) rfl ⟨rfl, rfl, rfl, trivial⟩ rfl ⟨rfl, rfl, ?_⟩
   all_goals rfl
 | some u =>
  obtain ⟨ts, hs, hki, hvo, hto, hwf⟩ := given_some hg
  have cx_l4x := c_l4OfX (G := G) (s := s) (k := k) (w := w) (by omega) hs hki hvo
  rw [hs]
  cases hpo : pathOf p with
  | none =>
   have cx_sp := steps_no h1.2.2.2 hpo
   refine jB (Post := fun v G' L' => G' = G ∧ L' = [] ∧ _) [(0, _), (1, _), (2, _), (3, _)] Tryz.func16 Tryz.ntmps16 fun B hok hB hW => ?_
   repeat' (first | (refine jR ?_) | (refine k_op rfl ?_; first | (refine jV (g_pickF rfl rfl rfl) ?_) | (refine c_fns rfl rfl rfl cx_l4x rfl ?_; rintro _ G hle ⟨av1, cv1, vs1, b1, rfl, hR1, hT1, hrep⟩; skip) | (refine c_fns rfl rfl rfl (cx_sp _) rfl ?_; rintro _ G hle ⟨sa, sc, sn, rfl, hsp⟩; skip)) | (refine k_gf rfl rfl rfl ?_) | (refine k_tt rfl rfl ?_))
   all_goals refine Nx.base hok hB ?_
   all_goals refine jZ (vs := [_, _, _]) rfl ⟨rfl, rfl, rfl, trivial⟩ rfl ⟨rfl, rfl, ?_⟩
   all_goals rfl
  | some q =>
   have cx_sp := steps_yes h1.2.2.2 hpo
   obtain ⟨hq8, hqn⟩ := pathOf_le hpo
   have hof := valOf_of_k hvo
   have hw := schemaOf_w hs
   dsimp only
   refine jB (Post := fun v G' L' => G' = G ∧ L' = [] ∧ _) [(0, _), (1, _), (2, _), (3, _)] Tryz.func16 Tryz.ntmps16 fun B hok hB hW => ?_
   repeat' (first | (refine jR ?_) | (refine k_op rfl ?_; first | (refine jV (g_pickF rfl rfl rfl) ?_) | (refine c_fns rfl rfl rfl cx_l4x rfl ?_; rintro _ G hle ⟨av1, cv1, vs1, b1, rfl, hR1, hT1, hrep⟩; (try have hrep := RepR.mono hle hrep); (try have hR1 := SchR.mono hR1 hle)) | (refine c_fns rfl rfl rfl (cx_sp _) rfl ?_; rintro _ G hle ⟨sa, sc, sn, rfl, hsp⟩; (try have hrep := RepR.mono hle hrep); (try have hR1 := SchR.mono hR1 hle))) | (refine k_gf rfl rfl rfl ?_) | (refine k_ff rfl rfl ?_))
   obtain ⟨rfl, hsp⟩ := hsp
   subst hT1
   have hwk := c_walkS hR1 hw hsp hqn (by omega) hrep hof hki (by omega)
   cases hfo : followV (tys vs1) k u q with
   | none =>
    have cx_wan := StepP.no hwk hfo
    repeat' (first | (refine jR ?_) | (refine k_op rfl ?_; (refine c_fns rfl rfl rfl cx_wan rfl ?_; rintro _ G hle ⟨q1, rfl⟩; (try have hrep := RepR.mono hle hrep); (try have hR1 := SchR.mono hR1 hle))) | (refine k_tt rfl rfl ?_))
    all_goals refine Nx.base hok hB ?_
    all_goals refine jZ (vs := [_, _, _]) rfl ⟨rfl, rfl, rfl, trivial⟩ rfl ⟨rfl, rfl, ?_⟩
    all_goals rfl
   | some y =>
    obtain ⟨k1, v1⟩ := y
    have cx_way := StepP.yes hwk hfo
    have g3 := followV_tot hw hof hki (fun n hn => (hqn n hn).1) hfo (N := 1000000) (by omega) (by omega)
    repeat' (first | (refine jR ?_) | (refine k_op rfl ?_; (refine c_fns rfl rfl rfl cx_way rfl ?_; rintro _ G hle ⟨b1, rfl, hrep1⟩; (try have hrep := RepR.mono hle hrep); (try have hR1 := SchR.mono hR1 hle))) | (refine k_ff rfl rfl ?_))
    have cx_out := c_outS hw hrep1 (by omega)
    obtain ⟨q1, q2, q3, hsg1⟩ := repR_seg hrep1
    repeat' (first | (refine jR ?_) | (refine k_any (s_any (id := 8) _ (fun _ h => h) mixed ?_); refine jT 5 [0, 1, 2, 4] (bts 9 23) ?_; (refine jG (bts 9 31) 3 rfl (g_ldS rfl rfl (by assumption) rfl rfl) ?_); refine jA 5 rfl ?_; (refine c_rt rfl rfl rfl cx_out rfl ?_); refine jS (bts 9 63) ?_; refine jT 0 [6, 7, 8] (bts 9 511) ?_; refine x_done (by kernel_rfl) (k_bk ?_)))
    all_goals refine Nx.base hok hB ?_
    all_goals refine jZ (vs := [_, _, _]) rfl ⟨rfl, rfl, rfl, trivial⟩ rfl ⟨rfl, rfl, ?_⟩
    all_goals rfl
abbrev tRdr : TypeId := 115
theorem c_l6Open {v : Value} {l : List UInt8} (h : SlV G v 1 l.length (u8s l)) : FnG Tryz.prog 27 [v] G [] (fun v L' => ∃ b code l', v = Pt b 0 ∧ L' = [rdO b code 0 tRdr] ∧ SlV G code 1 l'.length (u8s l') ∧ l'.length ≤ 2000) := by
 obtain ⟨h1, ⟨rfl, h2⟩ | ⟨c, o, cap, rfl, h2, h3⟩⟩ := id h
 ·refine jH [(0, _)] Tryz.func27 Tryz.ntmps27 fun B hB hW => ?_
  repeat' (first | (refine jR ?_) | (refine k_op rfl ?_; first | refine jV (g_lenL rfl) ?_ | refine jV (g_bld rfl rfl) ?_ | refine c_bx rfl rfl rfl fun _ => ?_) | (refine k_ff rfl rfl ?_))
  refine k_rr (vs := [_]) rfl ⟨rfl, trivial⟩ rfl (List.Sublist.refl _) ⟨rfl, _, _, [], rfl, rfl, ⟨by simp [u8s], .inl ⟨rfl, rfl⟩⟩, by simp⟩
 ·refine jH [(0, _)] Tryz.func27 Tryz.ntmps27 fun B hB hW => ?_
  repeat' (first | (refine jR ?_) | (refine k_op rfl ?_; first | refine jV (g_lenL rfl) ?_ | (refine jV (g_slTo rfl rfl (by omega)) ?_) | refine jV (g_bld rfl rfl) ?_ | refine c_bx rfl rfl rfl fun _ => ?_) | refine k_if rfl (fun _ => ?_) (fun _ => ?_))
  ·refine k_rr (vs := [_]) rfl ⟨rfl, trivial⟩ rfl (List.Sublist.refl _) ⟨rfl, _, _, l.take 2000, rfl, rfl, ?_, by simp; omega⟩
   have e : (l.take 2000).length = 2000 := by simp; omega
   rw [e]
   refine ⟨by simp [u8s]; omega, .inr ⟨c, o, cap, rfl, by omega, ?_⟩⟩
   have := h3.take 2000
   simpa [u8s] using this
  ·exact k_rr (vs := [_]) rfl ⟨rfl, trivial⟩ rfl (List.Sublist.refl _) ⟨rfl, _, _, l, rfl, rfl, h, by omega⟩
theorem c_pick {b : Nat} {code : Value} {p n : Int} {l : List UInt8} (hp : 0 ≤ p ∧ p ≤ 1000000000000 ∧ n ≤ 1000000000000) (hs : SlV G code 1 l.length (u8s l)) :
  FnG Tryz.prog 33 [Pt b 0, I n] G [rdO b code p tRdr] (fun v L' => ∃ k, v = I k ∧ L' = [rdO b code (p + 1) tRdr] ∧ 0 ≤ k ∧ (k < n ∨ k = 0)) := by
 obtain ⟨h1, ⟨rfl, h2⟩ | ⟨c, o, cap, rfl, h2, h3⟩⟩ := id hs
 ·refine jH [(0, _), (1, _)] Tryz.func33 Tryz.ntmps33 fun B hB hW => ?_
  repeat' (first | (refine run (t := tb) 400 rfl ?_ ?_; (focus (repeat' (first | exact trivial | apply And.intro | omega)))) | (refine k_op rfl ?_; first | refine jV (g_ld rfl rfl rfl) ?_ | refine c_st1 rfl rfl rfl rfl ?_ | refine jV (g_lenL rfl) ?_ | (refine jV (g_pickT rfl rfl rfl) ?_) | (refine jV (g_pickF rfl rfl rfl) ?_)) | refine k_g rfl rfl (fun _ => ?_) (fun _ => ?_) | (refine k_tt rfl rfl ?_))
  all_goals exact k_rr (vs := [_]) rfl ⟨rfl, trivial⟩ rfl (List.Sublist.refl _) ⟨rfl, _, rfl, rfl, by omega, by omega⟩
 ·have b1 := bt_lt l (p + 1 - 1).toNat
  have b2 := bt_lt l ((p + 1 - 1) % (l.length : Int)).toNat
  have b3 := bt_lt l (((p + 1 - 1) * 7 + 3) % (l.length : Int)).toNat
  have e1 := fun h => Int.emod_nonneg (p + 1 - 1) (b := (l.length : Int)) h
  have e2 := fun h => Int.emod_lt_of_pos (p + 1 - 1) (b := (l.length : Int)) h
  have e3 := fun h => Int.emod_nonneg ((p + 1 - 1) * 7 + 3) (b := (l.length : Int)) h
  have e4 := fun h => Int.emod_lt_of_pos ((p + 1 - 1) * 7 + 3) (b := (l.length : Int)) h
  have e5 := fun h => Int.ediv_nonneg (a := p + 1 - 1) (b := (l.length : Int)) h (by omega)
  have e6 := fun h => Int.ediv_le_self (a := p + 1 - 1) (l.length : Int) h
  refine jH [(0, _), (1, _)] Tryz.func33 Tryz.ntmps33 fun B hB hW => ?_
  repeat' (first | (refine run (t := tb) 400 rfl ?_ ?_; (focus (repeat' (first | exact trivial | apply And.intro | omega)))) | (refine k_op rfl ?_; first | refine jV (g_ld rfl rfl rfl) ?_ | (refine jV (g_ldU rfl (by assumption) ?_) ?_; (focus ((omega); done))) | refine c_st1 rfl rfl rfl rfl ?_ | refine jV (g_lenL rfl) ?_ | (refine jV (g_pickT rfl rfl rfl) ?_) | (refine jV (g_pickF rfl rfl rfl) ?_) | (refine jV (g_iaddr rfl rfl (by omega)) ?_) | (refine jV (g_xorP rfl rfl (by omega)) ?_)) | refine k_g rfl rfl (fun _ => ?_) (fun _ => ?_) | (refine k_tt rfl rfl ?_) | refine k_if rfl (fun _ => ?_) (fun _ => ?_) | (refine k_any (s_any (id := 7) _ (fun _ h => h) mixed ?_); refine jU 24 [0, 1, 2, 4, 5, 6, 7, 15, 16, 17, 19, 20, 21, 22, 23, 24, 33, 34, 36, 37, 38, 39] (bts 46 1056595214583) ?_ ?_; (focus (repeat' (first | exact trivial | apply And.intro | omega))); (refine jG (bts 46 1056595214591) 3 rfl (g_ld rfl rfl rfl) ?_); (refine jG (bts 46 1056595214847) 8 rfl (g_ld rfl rfl rfl) ?_); (refine jG (bts 46 1056595215359) 9 rfl (g_lenL rfl) ?_); refine jU 20 [10] (bts 46 1056595216383) ?_ ?_; (focus (repeat' (first | exact trivial | apply And.intro | omega))); (refine jG (bts 46 1056595218431) 11 rfl (g_iaddr rfl rfl (by omega)) ?_); ((refine jG (bts 46 1056595222527) 12 rfl (g_ldU rfl (by assumption) ?_) ?_; (focus ((omega); done)))); refine jU 16 [13, 14] (bts 46 1056595247103) ?_ ?_; (focus (repeat' (first | exact trivial | apply And.intro | omega))); (refine jG (bts 46 1056595509247) 18 rfl (g_ld rfl rfl rfl) ?_); (refine jG (bts 46 1056629063679) 25 rfl (g_ld rfl rfl rfl) ?_); (refine jG (bts 46 1056696172543) 26 rfl (g_lenL rfl) ?_); refine jU 12 [27] (bts 46 1056830390271) ?_ ?_; (focus (repeat' (first | exact trivial | apply And.intro | omega))); (refine jG (bts 46 1057098825727) 28 rfl (g_iaddr rfl rfl (by omega)) ?_); ((refine jG (bts 46 1057635696639) 29 rfl (g_ldU rfl (by assumption) ?_) ?_; (focus ((omega); done)))); refine jU 6 [30, 31, 32, 35] (bts 46 1099511627775) ?_ ?_; (focus (repeat' (first | exact trivial | apply And.intro | omega))); (refine jG (bts 46 2199023255551) 40 rfl (g_ld rfl rfl rfl) ?_); (refine jG (bts 46 4398046511103) 41 rfl (g_lenL rfl) ?_); refine jU 0 [42, 43, 44, 45] (bts 46 70368744177663) ?_ ?_; (focus (repeat' (first | exact trivial | apply And.intro | omega))); refine x_done (by kernel_rfl) (k_bk ?_)))
  all_goals (first | exact k_rr (vs := [_]) rfl ⟨rfl, trivial⟩ rfl (List.Sublist.refl _) ⟨rfl, _, rfl, rfl, by omega, by omega⟩ | exact k_rr (vs := [_]) rfl ⟨rfl, trivial⟩ rfl (List.Sublist.refl _) ⟨rfl, _, rfl, rfl, Int.emod_nonneg _ (by omega), .inl (Int.emod_lt_of_pos _ (by omega))⟩ | exact xorI_nn _ _)
theorem c_l91Kind {r : Nat} {code : Value} {p : Int} {l : List UInt8} (hp : 0 ≤ p ∧ p ≤ 900000000000) (hs : SlV G code 1 l.length (u8s l)) :
  FnG Tryz.prog 106 [Pt r 0] G [rdO r code p tRdr] (fun v L' => ∃ x q, v = S x ∧ x.length ≤ 400 ∧ L' = [rdO r code q tRdr] ∧ p ≤ q ∧ q ≤ p + 10) := by
 refine jH [(0, _)] Tryz.func106 Tryz.ntmps106 fun B hB hW => ?_
 repeat' (first | (refine jR ?_) | (refine k_op rfl ?_; first | refine c_bsl rfl rfl rfl rfl rfl rfl fun _ => ?_ | (refine jV (g_iaddr rfl rfl (by omega)) ?_) | (refine c_ldMS 64 rfl rfl rfl ?_ rfl (fun xs hxs => ?_); (focus ((simp only [List.length_append, List.length_cons, List.length_nil, List.length_take]; omega); done))) | (refine c_m1g rfl rfl rfl (c_pick ?_ (by (repeat (assumption)); done)) rfl ?_; (focus ((omega); done)); rintro _ _ ⟨k, rfl, rfl, hk0, hk1⟩; dsimp only [zA, fA])))
 refine k_loop (ι := List UInt8 × Int × Int) (fun j => (0 ≤ j.2.1 ∧ j.2.1 ≤ 3) ∧ ((j.1.length : Nat) : Int) ≤ 64 * (4 - j.2.1) ∧ p ≤ j.2.2 ∧ j.2.2 ≤ p + 5 - j.2.1) (fun j => [(0, Pt r 0), (3, S j.1), (4, I j.2.1)]) (fun _ => G) (fun j => [rdO r code j.2.2 tRdr]) (fun j => j.2.1.toNat) (xs, k, p + 1 + 1) ?_ (by repeat' constructor) rfl (by repeat (first | exact List.nil_sublist _ | apply List.Sublist.cons_cons)) (fun j Hj => ?_)
 ·dsimp only; omega
 obtain ⟨s, kk, q⟩ := j
 dsimp only at Hj ⊢
 obtain ⟨hk, hsl, hq0, hq1⟩ := Hj
 by_cases h1 : 1 < kk
 ·repeat' (first | refine jM ?_ | (refine k_op rfl ?_; first | refine c_bsl rfl rfl rfl rfl rfl rfl fun _ => ?_ | (refine jV (g_iaddr rfl rfl (by omega)) ?_) | (refine c_ldMS 64 rfl rfl rfl ?_ rfl (fun xs hxs => ?_); (focus ((simp only [List.length_append, List.length_cons, List.length_nil, List.length_take]; omega); done))) | (refine c_m1g rfl rfl rfl (c_pick ?_ (by (repeat (assumption)); done)) rfl ?_; (focus ((omega); done)); rintro _ _ ⟨k, rfl, rfl, hk0, hk1⟩; dsimp only [zA, fA])) | (refine k_tt rfl (dTt ‹_›) ?_))
  exact k_rd (xs ++ s, kk - 1, q + 1) (by dsimp only; rw [List.length_append]; omega) (by dsimp only; omega) (by repeat' constructor) rfl (by repeat (first | exact List.nil_sublist _ | apply List.Sublist.cons_cons))
 ·repeat' (first | (refine jR ?_) | (refine k_op rfl ?_; first | refine c_bsl rfl rfl rfl rfl rfl rfl fun _ => ?_ | (refine jV (g_iaddr rfl rfl (by omega)) ?_) | (refine c_ldMS 64 rfl rfl rfl ?_ rfl (fun xs hxs => ?_); (focus ((simp only [List.length_append, List.length_cons, List.length_nil, List.length_take]; omega); done))) | (refine c_m1g rfl rfl rfl (c_pick ?_ (by (repeat (assumption)); done)) rfl ?_; (focus ((omega); done)); rintro _ _ ⟨k, rfl, rfl, hk0, hk1⟩; dsimp only [zA, fA])) | (refine k_ff rfl (dFf ‹_›) ?_) | refine k_if rfl (fun _ => ?_) (fun _ => ?_))
  all_goals exact k_rr (vs := [_]) rfl ⟨rfl, trivial⟩ rfl (by repeat (first | exact List.Sublist.refl _ | exact List.nil_sublist _ | apply List.Sublist.cons_cons)) ⟨rfl, _, _, rfl, by omega, rfl, by omega, by omega⟩
theorem c_l91Text {r : Nat} {code : Value} {p : Int} {l : List UInt8} (hp : 0 ≤ p ∧ p ≤ 900000000000) (hs : SlV G code 1 l.length (u8s l)) :
  FnG Tryz.prog 143 [Pt r 0] G [rdO r code p tRdr] (fun v L' => ∃ x q, v = S (39 :: (x ++ [39])) ∧ x.length ≤ 64 ∧ L' = [rdO r code q tRdr] ∧ p ≤ q ∧ q ≤ p + 10) := by
 refine jH [(0, _)] Tryz.func143 Tryz.ntmps143 fun B hB hW => ?_
 repeat' (first | (refine run (t := tb) 400 rfl ?_ ?_; (focus (repeat' (first | exact trivial | apply And.intro | (simp only [List.length_append, List.length_cons, List.length_nil, Int.toNat_natCast]; omega))))) | (refine k_op rfl ?_; first | refine c_bsl rfl rfl rfl rfl rfl rfl fun _ => ?_ | (refine jV (g_iaddr rfl rfl (by omega)) ?_) | (refine c_ldMS 64 rfl rfl rfl ?_ rfl (fun xs hxs => ?_); (focus ((simp only [List.length_append, List.length_cons, List.length_nil, List.length_take]; omega); done))) | (refine c_m1g rfl rfl rfl (c_pick ?_ (by (repeat (assumption)); done)) rfl ?_; (focus ((omega); done)); rintro _ _ ⟨k, rfl, rfl, hk0, hk1⟩; dsimp only [zA, fA])))
 exact k_rr (vs := [_]) rfl ⟨rfl, trivial⟩ rfl (by repeat (first | exact List.nil_sublist _ | apply List.Sublist.cons_cons)) ⟨rfl, xs, _, rfl, by omega, rfl, by omega, by omega⟩
theorem c_l91Field {r : Nat} {code : Value} {p tag : Int} {l so nm : List UInt8} (hp : 0 ≤ p ∧ p ≤ 800000000000) (hs : SlV G code 1 l.length (u8s l)) (ht : 0 ≤ tag ∧ tag ≤ 1000000) (hnm : nm.length ≤ 100) :
  FnG Tryz.prog 142 [Pt r 0, S so, I tag, S nm] G [rdO r code p tRdr] (fun v L' => ∃ x q, v = S x ∧ x.length ≤ 1000 ∧ L' = [rdO r code q tRdr] ∧ p ≤ q ∧ q ≤ p + 20) := by
 have hdl := decI_len (n := tag) (by omega)
 refine jH [(0, _), (1, _), (2, _), (3, _)] Tryz.func142 Tryz.ntmps142 fun B hB hW => ?_
 repeat' (first | (refine run (t := tb) 400 rfl ?_ ?_; (focus (repeat' (first | exact trivial | apply And.intro | omega | (simp only [List.length_append, List.length_cons, List.length_nil, Int.toNat_natCast]; omega))))) | (refine k_op rfl ?_; first | (refine jV (g_pickT rfl rfl rfl) ?_) | (refine jV (g_pickF rfl rfl rfl) ?_) | refine c_bsl rfl rfl rfl rfl rfl rfl fun _ => ?_ | (refine jV (g_iaddr rfl rfl (by omega)) ?_) | (refine c_ldMS 64 rfl rfl rfl ?_ rfl (fun xs hxs => ?_); (focus ((simp only [List.length_append, List.length_cons, List.length_nil, List.length_take]; omega); done))) | (refine c_rt rfl rfl rfl (c_l6Dec (by omega)) rfl ?_) | (refine c_m1g rfl rfl rfl (c_l91Kind ?_ (by (repeat (assumption)); done)) rfl ?_; (focus ((omega); done)); rintro _ _ ⟨kd, q1, rfl, hkd, rfl, hq1, hq2⟩; dsimp only [zA, fA]) | (refine c_m1g rfl rfl rfl (c_pick ?_ (by (repeat (assumption)); done)) rfl ?_; (focus ((omega); done)); rintro _ _ ⟨k, rfl, rfl, hk0, hk1⟩; dsimp only [zA, fA])) | refine k_g rfl rfl (fun _ => ?_) (fun _ => ?_) | (refine k_ff rfl rfl ?_) | refine k_if rfl (fun _ => ?_) (fun _ => ?_))
 all_goals exact k_rr (vs := [_]) rfl ⟨rfl, trivial⟩ rfl (by repeat (first | exact List.Sublist.refl _ | exact List.nil_sublist _ | apply List.Sublist.cons_cons)) ⟨rfl, _, _, rfl, by simp only [List.length_append, List.length_cons, List.length_nil]; omega, rfl, by omega, by omega⟩
theorem c_l91Type {r : Nat} {code : Value} {p : Int} {l so nm : List UInt8} (hp : 0 ≤ p ∧ p ≤ 700000000000) (hs : SlV G code 1 l.length (u8s l)) (hso : so.length ≤ 64) (hnm : nm.length ≤ 64) :
  FnG Tryz.prog 104 [Pt r 0, S so, S nm] G [rdO r code p tRdr] (fun v L' => ∃ x q, v = S x ∧ x.length ≤ 6000 ∧ 1 ≤ x.length ∧ L' = [rdO r code q tRdr] ∧ p ≤ q ∧ q ≤ p + 200) := by
 refine jH [(0, _), (1, _), (2, _)] Tryz.func104 Tryz.ntmps104 fun B hB hW => ?_
 repeat' (first | (refine run (t := tb) 400 rfl ?_ ?_; (focus (repeat' (first | exact trivial | apply And.intro | omega | (simp only [List.length_append, List.length_cons, List.length_nil, Int.toNat_natCast]; omega))))) | (refine k_op rfl ?_; first | (refine jV (g_pickT rfl rfl rfl) ?_) | (refine jV (g_pickF rfl rfl rfl) ?_) | (refine c_m1g rfl rfl rfl (c_pick ?_ (by (repeat (assumption)); done)) rfl ?_; (focus ((omega); done)); rintro _ _ ⟨k, rfl, rfl, hk0, hk1⟩; dsimp only [zA, fA])) | refine k_g rfl rfl (fun _ => ?_) (fun _ => ?_) | (refine k_ff rfl rfl ?_) | refine k_if rfl (fun _ => ?_) (fun _ => ?_))
 all_goals
  have cx_pk2 : ∀ {p : Int}, 0 ≤ p ∧ p ≤ 1000000000000 → FnG Tryz.prog 33 [Pt r 0, I 2] G [rdO r code p tRdr] (fun v L' => L' = [rdO r code (p + 1) tRdr] ∧ (v = I 0 ∨ v = I 1)) := fun {p} hp => (c_pick (b := r) (p := p) (n := 2) ⟨hp.1, hp.2, by decide⟩ hs).mono fun v G' L' ⟨h1, k, h2, h3, h4, h5⟩ => ⟨h1, h3, by subst h2; rcases (show k = 0 ∨ k = 1 by omega) with rfl | rfl; exact .inl rfl; exact .inr rfl⟩
  refine k_loop (ι := List UInt8 × Int × Int × Int × Int) (fun j => (0 ≤ j.2.2.1 ∧ j.2.2.1 ≤ j.2.2.2.1 ∧ j.2.2.2.1 ≤ 4) ∧ (0 ≤ j.2.1 ∧ j.2.1 ≤ 10 * j.2.2.1) ∧ (1 ≤ j.1.length ∧ ((j.1.length : Nat) : Int) ≤ 200 + 1001 * j.2.2.1) ∧ p ≤ j.2.2.2.2 ∧ j.2.2.2.2 ≤ p + 4 + 30 * j.2.2.1) (fun j => [(0, Pt r 0), (1, S so), (7, S j.1), (8, I j.2.1), (9, I j.2.2.2.1), (10, I j.2.2.1)]) (fun _ => G) (fun j => [rdO r code j.2.2.2.2 tRdr]) (fun j => (j.2.2.2.1 - j.2.2.1).toNat) (so ++ nm ++ [61], 0, 0, _, _) ?_ (by repeat' constructor) rfl sRr (fun j Hj => ?_)
  ·dsimp only; simp only [List.length_append, List.length_cons, List.length_nil]; omega
  obtain ⟨s, tag, kk, n, q⟩ := j
  dsimp only at Hj ⊢
  obtain ⟨hk, htg, hsl, hq0, hq1⟩ := Hj
  by_cases h1 : kk < n
  ·repeat' (first | (refine run (t := tb) 400 rfl ?_ ?_; (focus (repeat' (first | exact trivial | apply And.intro | omega | (simp only [List.length_append, List.length_cons, List.length_nil, Int.toNat_natCast]; omega))))) | (refine k_op rfl ?_; first | refine c_bsl rfl rfl rfl rfl rfl rfl fun _ => ?_ | refine jV (g_bsB rfl rfl (by (repeat (first | exact BL.nil | apply BL.cons)); done)) ?_ | (refine c_m1g rfl rfl rfl (cx_pk2 (by omega)) rfl ?_; rintro _ _ ⟨rfl, rfl | rfl⟩ <;> dsimp only [zA, fA]) | (refine c_m1g rfl rfl rfl (c_pick ?_ (by (repeat (assumption)); done)) rfl ?_; (focus ((omega); done)); rintro _ _ ⟨k, rfl, rfl, hk0, hk1⟩; dsimp only [zA, fA]) | (refine c_m1g rfl rfl rfl (c_l91Field ?_ (by (repeat (assumption)); done) ?_ ?_) rfl ?_; (focus ((omega); done)); (focus ((omega); done)); (focus ((simp; done); done)); rintro _ _ ⟨fd, q1, rfl, hfd, rfl, hq1, hq2⟩; dsimp only [zA, fA])) | (refine k_tt rfl (dTt ‹_›) ?_) | refine k_if rfl (fun _ => ?_) (fun _ => ?_))
   all_goals (refine k_rd (_, _, kk + 1, n, _) ?_ ?_ (by repeat' constructor) rfl (by repeat (first | exact List.nil_sublist _ | apply List.Sublist.cons_cons)))
   all_goals (first | (dsimp only; simp only [List.length_append, List.length_cons, List.length_nil]; omega) | (dsimp only; omega))
  ·repeat' (first | (refine run (t := tb) 400 rfl ?_ ?_; (focus (repeat' (first | exact trivial | apply And.intro | (simp only [List.length_append, List.length_cons, List.length_nil, Int.toNat_natCast]; omega))))) | (refine k_ff rfl (dFf ‹_›) ?_))
   exact k_rr (vs := [_]) rfl ⟨rfl, trivial⟩ rfl sRr ⟨rfl, _, _, rfl, by simp only [List.length_append, List.length_cons, List.length_nil]; omega, by simp only [List.length_append, List.length_cons, List.length_nil]; omega, rfl, by omega, by omega⟩
def DrawC (u : Value) (vs : List TyX) (k : List UInt8) (deep cp : Int) (ct : Nat) : Prop := ∀ (G : Gh) (r : Nat) (code : Value) (p : Int) (l : List UInt8), SchR G u vs → SlV G code 1 l.length (u8s l) → 0 ≤ p ∧ p + cp ≤ 600000000000 →
 FnM Tryz.prog 107 [Pt r 0, u, S k, I deep] G [rdO r code p tRdr] (fun v G' L' => ∃ w b q, v = Pt b 0 ∧ RepR G' (tys vs) w k b ∧ w.tot ≤ ct ∧ 1 ≤ w.out.length ∧ L' = [rdO r code q tRdr] ∧ p ≤ q ∧ q ≤ p + cp)
theorem DrawC.le {u : Value} {vs : List TyX} {k : List UInt8} {deep cp cp' : Int} {ct ct' : Nat} (h : DrawC u vs k deep cp ct) (h1 : cp ≤ cp') (h2 : ct ≤ ct') : DrawC u vs k deep cp' ct' := fun G r code p l h3 h4 h5 =>
 (h G r code p l h3 h4 ⟨h5.1, by omega⟩).mono fun _ _ _ ⟨h6, w, b, q, h7, h8, h9, h10, h11, h12, h13⟩ => ⟨h6, w, b, q, h7, h8, by omega, h10, h11, h12, by omega⟩
theorem dv_flag {u : Value} {vs : List TyX} {deep : Int} : DrawC u vs [102] deep 15 200 := by
 intro G r code p l hR hs hp
 have cx_pk2 : ∀ {p : Int}, 0 ≤ p ∧ p ≤ 1000000000000 → FnG Tryz.prog 33 [Pt r 0, I 2] G [rdO r code p tRdr] (fun v L' => L' = [rdO r code (p + 1) tRdr] ∧ (v = I 0 ∨ v = I 1)) := fun {p} hp => (c_pick (b := r) (p := p) (n := 2) ⟨hp.1, hp.2, by decide⟩ hs).mono fun v G' L' ⟨h1, k, h2, h3, h4, h5⟩ => ⟨h1, h3, by subst h2; rcases (show k = 0 ∨ k = 1 by omega) with rfl | rfl; exact .inl rfl; exact .inr rfl⟩
 refine m_enter [(0, _), (1, _), (2, _), (3, _)] Tryz.func107 (by kernel_rfl) Tryz.ntmps107 rfl rfl (by repeat' constructor) fun B hB hW => ?_
 repeat' (first | (refine run (t := tb) 400 rfl ?_ ?_; (focus (repeat' (first | exact trivial | apply And.intro | omega | (simp only [List.length_append, List.length_cons, List.length_nil, Int.toNat_natCast]; omega))))) | (refine k_op rfl ?_; first | refine jV (g_bld rfl rfl) ?_ | refine c_bx rfl rfl rfl fun _ => ?_ | refine c_bsl rfl rfl rfl rfl rfl rfl fun _ => ?_ | (refine jV (g_iaddr rfl rfl (by omega)) ?_) | refine jV (g_ld rfl rfl rfl) ?_ | refine c_st1 rfl rfl rfl rfl ?_ | (refine c_m1g rfl rfl rfl (cx_pk2 (by omega)) rfl ?_; rintro _ _ ⟨rfl, rfl | rfl⟩ <;> dsimp only [zA, fA])) | (refine k_tt rfl rfl ?_) | (refine k_ff rfl rfl ?_))
 all_goals rename_i y _
 all_goals refine Nx.sealC (b := y) fun G2 hG2 hsy => ?_
 ·exact k_rr (vs := [_]) rfl ⟨rfl, trivial⟩ rfl (by repeat (first | exact List.nil_sublist _ | apply List.Sublist.cons_cons)) ⟨hG2, .nd 102 [121, 101, 115] 0 [], y, _, rfl, .leaf 102 _ _ _ y hsy (.inr (.inr ⟨rfl, rfl, rfl, .inl rfl⟩)), by simp [nd_tot, V.tots], by rw [V.out]; simp [outW], rfl, by omega, by omega⟩
 ·exact k_rr (vs := [_]) rfl ⟨rfl, trivial⟩ rfl (by repeat (first | exact List.nil_sublist _ | apply List.Sublist.cons_cons)) ⟨hG2, .nd 102 [110, 111] 0 [], y, _, rfl, .leaf 102 _ _ _ y hsy (.inr (.inr ⟨rfl, rfl, rfl, .inr rfl⟩)), by simp [nd_tot, V.tots], by rw [V.out]; simp [outW], rfl, by omega, by omega⟩
end Go.E
namespace Go.E
set_option maxRecDepth 20000
set_option maxHeartbeats 2000000
open Go.Proofs
variable {G : Gh}
abbrev tPtr4 : TypeId := 38
theorem dec_dg {m : Int} (h : 0 ≤ m) : ∀ c ∈ decI m, isDg c = true := (digF_decI m.toNat (Nat.le_refl _) h).2
theorem dv_num {u : Value} {vs : List TyX} {deep : Int} : DrawC u vs [110] deep 15 200 := by
 intro G r code p l hR hs hp
 refine m_enter [(0, _), (1, _), (2, _), (3, _)] Tryz.func107 (by kernel_rfl) Tryz.ntmps107 rfl rfl (by repeat' constructor) fun B hB hW => ?_
 repeat' (first | (refine run (t := tb) 400 rfl ?_ ?_; (focus (repeat' (first | exact trivial | apply And.intro | omega | (simp only [List.length_append, List.length_cons, List.length_nil, Int.toNat_natCast]; omega))))) | (refine k_op rfl ?_; first | refine jV (g_bld rfl rfl) ?_ | refine c_bx rfl rfl rfl fun _ => ?_ | refine c_bsl rfl rfl rfl rfl rfl rfl fun _ => ?_ | (refine jV (g_iaddr rfl rfl (by omega)) ?_) | (refine c_ldMI 999999 rfl rfl rfl ?_ ?_ (fun iz hz0 hz1 => ?_); (focus ((simp only [List.length_append, List.length_cons, List.length_nil, List.length_take]; omega); done)); (focus ((repeat' (first | exact intsIn_nil | (refine intsIn_cons ⟨by omega, by omega⟩ ?_))); done))) | refine c_st1 rfl rfl rfl rfl ?_ | (refine c_m1g rfl rfl rfl (c_pick ?_ (by (repeat (assumption)); done)) rfl ?_; (focus ((omega); done)); rintro _ _ ⟨k, rfl, rfl, hk0, hk1⟩; dsimp only [zA, fA]) | (refine c_rt rfl rfl rfl (c_l6Dec (by omega)) rfl ?_)) | (refine k_tt rfl rfl ?_))
 rename_i y _ _ _ _
 have hdl := decI_len (n := iz) (by omega)
 have hdp := decI_pos iz
 refine Nx.sealC (b := y) fun G2 hG2 hsy => ?_
 exact k_rr (vs := [_]) rfl ⟨rfl, trivial⟩ rfl (by repeat (first | exact List.nil_sublist _ | apply List.Sublist.cons_cons)) ⟨hG2, .nd 110 (decI iz) 0 [], y, _, rfl, .leaf 110 _ _ _ y hsy (.inl ⟨rfl, rfl, rfl, dec_dg hz0⟩), by rw [nd_tot, V.tots]; omega, by rw [V.out]; exact hdp, rfl, by omega, by omega⟩
theorem dv_txt {u : Value} {vs : List TyX} {deep : Int} : DrawC u vs [116] deep 15 200 := by
 intro G r code p l hR hs hp
 refine m_enter [(0, _), (1, _), (2, _), (3, _)] Tryz.func107 (by kernel_rfl) Tryz.ntmps107 rfl rfl (by repeat' constructor) fun B hB hW => ?_
 repeat' (first | (refine run (t := tb) 400 rfl ?_ ?_; (focus (repeat' (first | exact trivial | apply And.intro | omega | (simp only [List.length_append, List.length_cons, List.length_nil, Int.toNat_natCast]; omega))))) | (refine k_op rfl ?_; first | refine jV (g_bld rfl rfl) ?_ | refine c_bx rfl rfl rfl fun _ => ?_ | refine c_st1 rfl rfl rfl rfl ?_ | (refine c_m1g rfl rfl rfl (c_l91Text ?_ (by (repeat (assumption)); done)) rfl ?_; (focus ((omega); done)); rintro _ _ ⟨tx, q1, rfl, htx, rfl, hq1, hq2⟩; dsimp only [zA, fA])) | (refine k_tt rfl rfl ?_) | (refine k_ff rfl rfl ?_))
 rename_i y
 refine Nx.sealC (b := y) fun G2 hG2 hsy => ?_
 exact k_rr (vs := [_]) rfl ⟨rfl, trivial⟩ rfl sRr ⟨hG2, .nd 116 tx 0 [], y, _, rfl, .leaf 116 _ _ _ y hsy (.inr (.inl ⟨rfl, rfl, rfl⟩)), by rw [nd_tot, V.tots]; omega, by rw [V.out]; simp [outW], rfl, by omega, by omega⟩
theorem reps_snocR {ts : List Ty} {k : List UInt8} {ks : List V} {bs : List Nat} {w : V} {b : Nat} (hl : bs.length = ks.length) (h : ∀ i, i < ks.length → RepR G ts (nth ks i) k (nth bs i)) (hw : RepR G ts w k b) : ∀ i, i < (ks ++ [w]).length → RepR G ts (nth (ks ++ [w]) i) k (nth (bs ++ [b]) i) := fun i hi => by
 by_cases h1 : i < ks.length
 ·have e1 : nth (ks ++ [w]) i = nth ks i := by rw [nth_eq hi, nth_eq h1, List.getElem_append_left h1]
  have e2 : nth (bs ++ [b]) i = nth bs i := by rw [nth_eq (by simp; omega), nth_eq (by omega), List.getElem_append_left (by omega)]
  rw [e1, e2]; exact h i h1
 ·have h2 : i = ks.length := by simp at hi; omega
  have e1 : nth (ks ++ [w]) i = w := by rw [nth_eq hi]; simp [h2]
  have e2 : nth (bs ++ [b]) i = b := by rw [nth_eq (by simp; omega)]; simp [h2, hl]
  rw [e1, e2]; exact hw
theorem dv_list {u : Value} {vs : List TyX} {kd : List UInt8} {deep cp : Int} {ct : Nat} (hcp : 0 ≤ cp ∧ cp ≤ 100000000) (hct : ct ≤ 100000000) (hD : 0 < deep → DrawC u vs kd (deep - 1) cp ct) (hu : u.oneCell' = true) (hkl : kd.length ≤ 1000) (hd : -1000 ≤ deep ∧ deep ≤ 1000) : DrawC u vs (91 :: kd) deep (3 * cp + 10) (3 * ct + 200) := by
 intro G r code p l hR hs hp
 have hkd0 : bt (91 :: kd) (Int.toNat 0) = 91 := bt_zero 91 kd
 have hkl2 : (91 :: kd).length = kd.length + 1 := rfl
 refine m_enter [(0, _), (1, _), (2, _), (3, _)] Tryz.func107 (by kernel_rfl) Tryz.ntmps107 rfl rfl (by repeat' constructor) fun B hB hW => ?_
 repeat' (first | refine jM ?_ | (refine k_op rfl ?_; first | refine jV (g_bld rfl rfl) ?_ | refine c_bx rfl rfl rfl fun _ => ?_ | (refine c_m1g rfl rfl rfl (c_pick ?_ (by (repeat (assumption)); done)) rfl ?_; (focus ((omega); done)); rintro _ _ ⟨k, rfl, rfl, hk0, hk1⟩; dsimp only [zA, fA])) | (refine k_tt rfl rfl ?_) | (refine k_ff rfl rfl ?_))
 rename_i y
 refine Nx.addNil tPtr4 1 ?_
 refine k_loop (ι := List V × List Nat × Option Addr × Nat × Int × Int × Gh) (fun j => ((j.2.1.length = j.1.length ∧ ∀ i, i < j.1.length → RepR j.2.2.2.2.2.2 (tys vs) (nth j.1 i) kd (nth j.2.1 i)) ∧ Gh.le G j.2.2.2.2.2.2) ∧ (0 ≤ j.2.2.2.2.1 ∧ ((j.1.length : Nat) : Int) + j.2.2.2.2.1 ≤ 3) ∧ V.tots j.1 ≤ ct * j.1.length ∧ p ≤ j.2.2.2.2.2.1 ∧ j.2.2.2.2.2.1 ≤ p + 1 + cp * ((j.1.length : Nat) : Int)) (fun j => [(0, Pt r 0), (1, u), (2, S (91 :: kd)), (3, I deep), (9, Pt y 0), (10, I j.2.2.2.2.1)]) (fun j => j.2.2.2.2.2.2) (fun j => [.acc (.slice j.2.2.1 j.1.length j.2.2.2.1) tPtr4 1 j.1.length (rows ptR j.2.1), rdO r code j.2.2.2.2.2.1 tRdr, .blk y (.cells (List.toArray [S (91 :: kd), S [], nilS, .slice j.2.2.1 j.1.length j.2.2.2.1]) tLv (0, 0))]) (fun j => j.2.2.2.2.1.toNat) ([], [], none, 0, k, p + 1, G) ?_ (by repeat' constructor) rfl sRr (fun j Hj => ?_)
 ·refine ⟨⟨⟨rfl, fun i hi => absurd hi (by simp)⟩, Gh.le.refl _⟩, ?_, ?_, ?_, ?_⟩
  ·dsimp only; simp only [List.length_nil]; omega
  ·simp [V.tots]
  ·dsimp only; omega
  ·dsimp only; simp
 obtain ⟨ks, bs, a, c, kk, q, Gq⟩ := j
 dsimp only at Hj ⊢
 obtain ⟨⟨⟨hbl, hreps⟩, hgq⟩, hk, htt, hq0, hq1⟩ := Hj
 have hcl : cp * ((ks.length : Nat) : Int) ≤ cp * 3 := Int.mul_le_mul_of_nonneg_left (by omega) hcp.1
 have hcl0 : 0 ≤ cp * ((ks.length : Nat) : Int) := Int.mul_nonneg hcp.1 (by omega)
 have htl : ct * ks.length ≤ ct * 3 := Nat.mul_le_mul_left _ (by omega)
 by_cases hgo : 0 < kk ∧ 0 < deep
 ·obtain ⟨hk0, hd0⟩ := hgo
  have hcl3 : cp * ((ks.length : Nat) : Int) + cp ≤ cp * 3 := by
   have := Int.mul_le_mul_of_nonneg_left (show ((ks.length : Nat) : Int) + 1 ≤ 3 by omega) hcp.1
   rwa [Int.mul_add, Int.mul_one] at this
  have cx_dv := fun {p : Int} (hp : 0 ≤ p ∧ p + cp ≤ 600000000000) => hD hd0 Gq r code p l (hR.mono hgq) (hs.mono hgq) hp
  repeat' (first | (refine jR ?_) | (refine k_op rfl ?_; (refine jV (g_pickT rfl rfl rfl) ?_)) | (refine k_gt rfl rfl (dTt ‹_›) ?_) | (refine k_tt rfl (dTt ‹_›) ?_))
  (refine k_any (s_any (id := 16) [] (fun _ h => absurd h (by simp)) mixed ?_); refine jU 7 [0, 1, 2, 3, 5, 6, 7, 8, 9, 10] (bts 17 2031) ?_ ?_; (focus (repeat' (first | exact trivial | apply And.intro | omega))); refine x_all [4, 11] (by kernel_rfl) (by decide) ⟨?_, ?_, trivial⟩; (focus (refine x_opg rfl rfl ?_; (refine jV (g_ld rfl rfl rfl) ?_); refine jK (bts 17 2047) ?_; refine jA 11 rfl ?_; ((refine c_m1s rfl rfl rfl (cx_dv ?_) rfl ?_; (focus ((omega); done)); rintro _ G1 _ hle ⟨w1, b1, q1, rfl, hrep, htot, hone, rfl, hq1, hq2⟩; dsimp only [zA, fA]; skip)); refine jK (bts 17 4095) ?_; refine jA 12 rfl ?_; (refine c_bsl rfl rfl rfl rfl rfl rfl fun _ => ?_); refine jK (bts 17 8191) ?_; refine jA 13 rfl ?_; ((refine c_apX rfl rfl rfl rfl rfl rfl rfl rfl rfl ?_ fun _ _ => ?_; (focus ((omega); done)))); refine jK (bts 17 16383) ?_; refine jU 1 [14, 15] (bts 17 65535) ?_ ?_; (focus (repeat' (exact trivial))); refine jA 16 rfl ?_; (refine c_st1 rfl rfl rfl rfl ?_); refine jK (bts 17 131071) ?_; refine x_done (by kernel_rfl) (k_bk ?_))); rotate_left 1; (focus (refine x_opg rfl rfl ?_; ((refine c_m1s rfl rfl rfl (cx_dv ?_) rfl ?_; (focus ((omega); done)); rintro _ G1 _ hle ⟨w1, b1, q1, rfl, hrep, htot, hone, rfl, hq1, hq2⟩; dsimp only [zA, fA]; skip)); refine jK (bts 17 4079) ?_; refine x_all [4, 12] (by kernel_rfl) (by decide) ⟨?_, ?_, trivial⟩; (focus (refine x_opg rfl rfl ?_; (refine jV (g_ld rfl rfl rfl) ?_); refine jK (bts 17 4095) ?_; refine jA 12 rfl ?_; (refine c_bsl rfl rfl rfl rfl rfl rfl fun _ => ?_); refine jK (bts 17 8191) ?_; refine jA 13 rfl ?_; ((refine c_apX rfl rfl rfl rfl rfl rfl rfl rfl rfl ?_ fun _ _ => ?_; (focus ((omega); done)))); refine jK (bts 17 16383) ?_; refine jU 1 [14, 15] (bts 17 65535) ?_ ?_; (focus (repeat' (exact trivial))); refine jA 16 rfl ?_; (refine c_st1 rfl rfl rfl rfl ?_); refine jK (bts 17 131071) ?_; refine x_done (by kernel_rfl) (k_bk ?_))); rotate_left 1; (focus (refine x_opg rfl rfl ?_; (refine c_bsl rfl rfl rfl rfl rfl rfl fun _ => ?_); refine jK (bts 17 8175) ?_; refine jA 4 rfl ?_; (refine jV (g_ld rfl rfl rfl) ?_); refine jK (bts 17 8191) ?_; refine jA 13 rfl ?_; ((refine c_apX rfl rfl rfl rfl rfl rfl rfl rfl rfl ?_ fun _ _ => ?_; (focus ((omega); done)))); refine jK (bts 17 16383) ?_; refine jU 1 [14, 15] (bts 17 65535) ?_ ?_; (focus (repeat' (exact trivial))); refine jA 16 rfl ?_; (refine c_st1 rfl rfl rfl rfl ?_); refine jK (bts 17 131071) ?_; refine x_done (by kernel_rfl) (k_bk ?_))); rotate_left 1)); rotate_left 2)
  all_goals repeat' (refine jM ?_)
  all_goals
   rename_i _ y1 yc
   have hl1 : (ks ++ [w1]).length = ks.length + 1 := by simp
   have hms : ct * (ks.length + 1) = ct * ks.length + ct := Nat.mul_succ _ _
   have hts : V.tots (ks ++ [w1]) = V.tots ks + w1.tot := by simp [tots_app, V.tots]
   rw [show rows ptR bs ++ [Pt b1 0] = rows ptR (bs ++ [b1]) from (rows_snoc ptR bs b1).symm]
   exact k_rd (ks ++ [w1], bs ++ [b1], some ⟨y1, 0, none⟩, yc, kk - 1, q1, G1) ⟨⟨⟨by simp [hbl], reps_snocR hbl (fun i hi => (hreps i hi).mono hle) hrep⟩, hgq.trans hle⟩, by dsimp only; rw [hl1]; omega, by dsimp only; rw [hl1, hms, hts]; omega, by dsimp only; omega, by dsimp only; rw [hl1, Int.natCast_succ, Int.mul_add, Int.mul_one]; omega⟩ (by dsimp only; omega) (by repeat' constructor) rfl (by rw [hl1]; repeat (first | exact List.Sublist.refl _ | apply List.Sublist.cons_cons | apply List.Sublist.cons))
 ·have : kk = 0 ∨ deep ≤ 0 := by omega
  repeat' (first | (refine jR ?_) | (refine k_op rfl ?_; first | (refine jV (g_pickT rfl rfl rfl) ?_) | (refine jV (g_pickF rfl rfl rfl) ?_)) | refine k_g rfl rfl (fun _ => ?_) (fun _ => ?_) | (refine k_ff rfl (by first | rfl | (refine decide_eq_false ?_; (omega))) ?_))
  all_goals
   refine Nx.sealS (v := .slice a ks.length c) fun G2 hG2 hsl => ?_
   refine Nx.sealC (b := y) fun G3 hG3 hsg => ?_
   exact k_rr (vs := [_]) rfl ⟨rfl, trivial⟩ rfl sRr ⟨hgq.trans (hG2.trans hG3), .nd 91 [] 0 ks, y, q, rfl, .lst kd y ks bs a c hsg (hsl.mono hG3) hbl (fun i hi => (hreps i hi).mono (hG2.trans hG3)), by rw [nd_tot]; simp only [List.length_nil]; omega, by rw [V.out]; simp [outW], rfl, by omega, by omega⟩
theorem dv_opt {u : Value} {vs : List TyX} {kd : List UInt8} {deep cp : Int} {ct : Nat} (hcp : 0 ≤ cp ∧ cp ≤ 100000000) (hct : ct ≤ 100000000) (hD : 0 < deep → DrawC u vs kd (deep - 1) cp ct) (hu : u.oneCell' = true) (hkl : kd.length ≤ 1000) (hd : -1000 ≤ deep ∧ deep ≤ 1000) : DrawC u vs (63 :: kd) deep (cp + 10) (ct + 200) := by
 intro G r code p l hR hs hp
 have hkd0 : bt (63 :: kd) (Int.toNat 0) = 63 := bt_zero 63 kd
 have hkl2 : (63 :: kd).length = kd.length + 1 := rfl
 by_cases h0 : 0 < deep
 ·have cx_dv := fun {p : Int} (hp : 0 ≤ p ∧ p + cp ≤ 600000000000) => hD h0 G r code p l hR hs hp
  refine m_enter [(0, _), (1, _), (2, _), (3, _)] Tryz.func107 (by kernel_rfl) Tryz.ntmps107 rfl rfl (by repeat' constructor) fun B hB hW => ?_
  repeat' (first | refine jM ?_ | (refine k_op rfl ?_; first | refine jV (g_bld rfl rfl) ?_ | refine c_bx rfl rfl rfl fun _ => ?_ | (refine jV (g_pickT rfl rfl rfl) ?_) | (refine c_m1g rfl rfl rfl (c_pick ?_ (by (repeat (assumption)); done)) rfl ?_; (focus ((omega); done)); rintro _ _ ⟨k, rfl, rfl, hk0, hk1⟩; dsimp only [zA, fA])) | (refine k_gt rfl rfl (dTt ‹_›) ?_) | (refine k_tt rfl rfl ?_) | (refine k_ff rfl rfl ?_) | refine k_if rfl (fun _ => ?_) (fun _ => ?_))
  ·refine Nx.addNil tPtr4 1 ?_
   (refine k_any (s_any (id := 20) [] (fun _ h => absurd h (by simp)) mixed ?_); refine jU 7 [0, 1, 2, 3, 5, 6, 7, 8, 9, 10] (bts 17 2031) ?_ ?_; (focus (repeat' (first | exact trivial | apply And.intro | omega))); refine x_all [4, 11] (by kernel_rfl) (by decide) ⟨?_, ?_, trivial⟩; (focus (refine x_opg rfl rfl ?_; (refine jV (g_ld rfl rfl rfl) ?_); refine jK (bts 17 2047) ?_; refine jA 11 rfl ?_; ((refine c_m1s rfl rfl rfl (cx_dv ?_) rfl ?_; (focus ((omega); done)); rintro _ G1 _ hle ⟨w1, b1, q1, rfl, hrep, htot, hone, rfl, hq1, hq2⟩; dsimp only [zA, fA]; skip)); refine jK (bts 17 4095) ?_; refine jA 12 rfl ?_; (refine c_bsl rfl rfl rfl rfl rfl rfl fun _ => ?_); refine jK (bts 17 8191) ?_; refine jA 13 rfl ?_; ((refine c_apX rfl rfl rfl rfl rfl rfl rfl rfl rfl ?_ fun _ _ => ?_; (focus ((omega); done)))); refine jK (bts 17 16383) ?_; refine jU 1 [14, 15] (bts 17 65535) ?_ ?_; (focus (repeat' (exact trivial))); refine jA 16 rfl ?_; (refine c_st1 rfl rfl rfl rfl ?_); refine jK (bts 17 131071) ?_; refine x_done (by kernel_rfl) (k_bk ?_))); rotate_left 1; (focus (refine x_opg rfl rfl ?_; ((refine c_m1s rfl rfl rfl (cx_dv ?_) rfl ?_; (focus ((omega); done)); rintro _ G1 _ hle ⟨w1, b1, q1, rfl, hrep, htot, hone, rfl, hq1, hq2⟩; dsimp only [zA, fA]; skip)); refine jK (bts 17 4079) ?_; refine x_all [4, 12] (by kernel_rfl) (by decide) ⟨?_, ?_, trivial⟩; (focus (refine x_opg rfl rfl ?_; (refine jV (g_ld rfl rfl rfl) ?_); refine jK (bts 17 4095) ?_; refine jA 12 rfl ?_; (refine c_bsl rfl rfl rfl rfl rfl rfl fun _ => ?_); refine jK (bts 17 8191) ?_; refine jA 13 rfl ?_; ((refine c_apX rfl rfl rfl rfl rfl rfl rfl rfl rfl ?_ fun _ _ => ?_; (focus ((omega); done)))); refine jK (bts 17 16383) ?_; refine jU 1 [14, 15] (bts 17 65535) ?_ ?_; (focus (repeat' (exact trivial))); refine jA 16 rfl ?_; (refine c_st1 rfl rfl rfl rfl ?_); refine jK (bts 17 131071) ?_; refine x_done (by kernel_rfl) (k_bk ?_))); rotate_left 1; (focus (refine x_opg rfl rfl ?_; (refine c_bsl rfl rfl rfl rfl rfl rfl fun _ => ?_); refine jK (bts 17 8175) ?_; refine jA 4 rfl ?_; (refine jV (g_ld rfl rfl rfl) ?_); refine jK (bts 17 8191) ?_; refine jA 13 rfl ?_; ((refine c_apX rfl rfl rfl rfl rfl rfl rfl rfl rfl ?_ fun _ _ => ?_; (focus ((omega); done)))); refine jK (bts 17 16383) ?_; refine jU 1 [14, 15] (bts 17 65535) ?_ ?_; (focus (repeat' (exact trivial))); refine jA 16 rfl ?_; (refine c_st1 rfl rfl rfl rfl ?_); refine jK (bts 17 131071) ?_; refine x_done (by kernel_rfl) (k_bk ?_))); rotate_left 1)); rotate_left 2)
   all_goals repeat' (refine jR ?_)
   all_goals
    rename_i y _ _ y1 yc
    refine Nx.sealS (v := .slice (some ⟨y1, 0, none⟩) (0 + 1) yc) fun G2 hG2 hsl => ?_
    refine Nx.sealC (b := y) fun G3 hG3 hsg => ?_
    obtain ⟨_, ⟨h, _⟩ | ⟨b2, o2, c2, e, hc2, hs2⟩⟩ := hsl
    ·cases h
    simp only [Value.slice.injEq, Option.some.injEq, Addr.mk.injEq, and_true] at e
    obtain ⟨⟨rfl, rfl⟩, -, rfl⟩ := e
    exact k_rr (vs := [_]) rfl ⟨rfl, trivial⟩ rfl (by repeat (first | exact List.Sublist.refl _ | apply List.Sublist.cons)) ⟨hle.trans (hG2.trans hG3), .nd 63 [] 0 [w1], y, q1, rfl, .opt kd y y1 b1 yc w1 (by omega) hsg (hs2.mono hG3) (hrep.mono (hG2.trans hG3)), by simp only [nd_tot, V.tots, List.length_nil]; omega, by rw [V.out]; simp [outW], rfl, by omega, by omega⟩
  ·rename_i y _
   refine Nx.sealC (b := y) fun G2 hG2 hsy => ?_
   exact k_rr (vs := [_]) rfl ⟨rfl, trivial⟩ rfl sRr ⟨hG2, .nd 63 [] 0 [], y, _, rfl, .non kd y hsy, by simp [nd_tot, V.tots], by rw [V.out]; simp [outW], rfl, by omega, by omega⟩
 ·refine m_enter [(0, _), (1, _), (2, _), (3, _)] Tryz.func107 (by kernel_rfl) Tryz.ntmps107 rfl rfl (by repeat' constructor) fun B hB hW => ?_
  repeat' (first | refine jM ?_ | (refine k_op rfl ?_; first | refine jV (g_bld rfl rfl) ?_ | refine c_bx rfl rfl rfl fun _ => ?_ | (refine jV (g_pickF rfl rfl rfl) ?_)) | (refine k_gf rfl rfl (dFf ‹_›) ?_) | (refine k_tt rfl rfl ?_) | (refine k_ff rfl rfl ?_))
  rename_i y
  refine Nx.sealC (b := y) fun G2 hG2 hsy => ?_
  exact k_rr (vs := [_]) rfl ⟨rfl, trivial⟩ rfl sRr ⟨hG2, .nd 63 [] 0 [], y, _, rfl, .non kd y hsy, by simp [nd_tot, V.tots], by rw [V.out]; simp [outW], rfl, by omega, by omega⟩
abbrev tTyG : TypeId := 86
abbrev tPtr5 : TypeId := 38
abbrev tInt5 : TypeId := 3
def DrawT (u : Value) (vs : List TyX) (k : List UInt8) (deep cp : Int) (ct : Nat) : Prop := ∀ (G : Gh) (r : Nat) (code : Value) (p : Int) (l : List UInt8), SchR G u vs → SlV G code 1 l.length (u8s l) → 0 ≤ p ∧ p + cp ≤ 600000000000 →
 FnM Tryz.prog 144 [Pt r 0, u, S k, I deep] G [rdO r code p tRdr] (fun v G' L' => ∃ w b q, v = Pt b 0 ∧ RepR G' (tys vs) w k b ∧ w.tot ≤ ct ∧ 1 ≤ w.out.length ∧ L' = [rdO r code q tRdr] ∧ p ≤ q ∧ q ≤ p + cp)
theorem dv_typed {u : Value} {vs : List TyX} {k : List UInt8} {deep cp : Int} {ct : Nat} (hD : DrawT u vs (64 :: k) deep cp ct) (hkl : k.length ≤ 1000) : DrawC u vs (64 :: k) deep cp ct := by
 intro G r code p l hR hs hp
 have hkd0 : bt (64 :: k) (Int.toNat 0) = 64 := bt_zero 64 k
 have hkl2 : (64 :: k).length = k.length + 1 := rfl
 have cx_dt := fun {p : Int} (hp : 0 ≤ p ∧ p + cp ≤ 600000000000) => hD G r code p l hR hs hp
 refine m_enter [(0, _), (1, _), (2, _), (3, _)] Tryz.func107 (by kernel_rfl) Tryz.ntmps107 rfl rfl (by repeat' constructor) fun B hB hW => ?_
 repeat' (first | refine jM ?_ | (refine k_op rfl ?_; first | refine jV (g_bld rfl rfl) ?_ | refine c_bx rfl rfl rfl fun _ => ?_ | (refine c_m1s rfl rfl rfl (cx_dt ‹_›) rfl ?_; rintro _ G1 _ hle ⟨w1, b1, q1, rfl, hrep, htot, hone, rfl, hq1, hq2⟩; dsimp only [zA, fA]; skip)) | (refine k_ff rfl rfl ?_))
 exact k_rr (vs := [_]) rfl ⟨rfl, trivial⟩ rfl (by repeat (first | exact List.nil_sublist _ | apply List.Sublist.cons_cons)) ⟨hle, w1, b1, q1, rfl, hrep, htot, hone, rfl, hq1, hq2⟩
section
variable {u : Value} {vs : List TyX} {kd nm : List UInt8} {fs : List Fld} {a : Option Addr} {ca : Nat} {deep cp : Int} {ct : Nat}
theorem dt_enm (hr : refV vs kd = some ((a, ca), ⟨69, nm, fs⟩)) (hvl : vs.length ≤ 1000000) (hk : kOk kd = true) (hkl : kd.length ≤ 1000) (h0 : 0 < fs.length) (h8 : fs.length ≤ 8) (hw : SchW (tys vs)) : DrawT u vs kd deep 10 300 := by
 intro G r code p l hR hs hp
 have href := refV_ty vs kd
 rw [hr] at href
 have cx_rf := c_ref (G := G) (k := kd) hR hvl hk (by omega)
 rw [hr] at cx_rf
 have htm := refT_mem href.symm
 obtain ⟨bf, of, cf, ef, hsf⟩ := (hR.fl _ (refV_mem hr)).expl h0
 simp only [slX, Value.slice.injEq] at ef
 obtain ⟨rfl, -, rfl⟩ := ef
 dsimp only at hsf
 have cx_rf : PuG Tryz.prog 88 [u, S kd] G (· = Tu [Ag [U8 (69 : Nat), S nm, .slice (some ⟨bf, of, none⟩) fs.length ca], Bo true]) := cx_rf
 refine m_enter [(0, _), (1, _), (2, _), (3, _)] Tryz.func144 (by kernel_rfl) Tryz.ntmps144 rfl rfl (by repeat' constructor) fun B hB hW => ?_
 repeat' (first | (refine jR ?_) | (refine k_op rfl ?_; first | refine c_al rfl rfl fun _ => ?_ | refine c_stA rfl rfl rfl rfl rfl rfl ?_ | refine jV (g_ld rfl rfl rfl) ?_ | refine c_bsl rfl rfl rfl rfl rfl rfl fun _ => ?_ | refine jV (g_bsB rfl rfl (by (repeat (first | exact BL.nil | apply BL.lit rfl)); done)) ?_ | refine jV (g_bld rfl rfl) ?_ | refine c_bx rfl rfl rfl fun _ => ?_ | (refine c_rt rfl rfl rfl cx_rf rfl ?_)) | (refine k_tt rfl rfl ?_))
 rename_i y9 _ y11
 (refine k_any (s_any (id := 5) [.blk y9 (.cells (List.toArray [U8 (69 : Nat), S nm, .slice (some ⟨bf, of, none⟩) fs.length ca]) tTyG (0, 0))] (by intro y hy; simp only [List.mem_cons, List.not_mem_nil, or_false] at hy ⊢; simp [hy]) mixed ?_); refine jU 11 [0, 1, 3, 4] (bts 15 27) ?_ ?_; (focus (repeat' (exact trivial))); (refine jG (bts 15 31) 2 rfl (g_ld rfl rfl rfl) ?_); (refine jG (bts 15 63) 5 rfl (g_ld rfl rfl rfl) ?_); (refine jG (bts 15 127) 6 rfl (g_lenL rfl) ?_); refine jA 7 rfl ?_; ((refine c_m1g rfl rfl rfl (c_pick ?_ (by (repeat (assumption)); done)) rfl ?_; (focus ((omega); done)); rintro _ _ ⟨k, rfl, rfl, hk0, hk1⟩; dsimp only [zA, fA])); refine jK (bts 15 255) ?_; ((refine jG (bts 15 511) 8 rfl (g_iaddr rfl rfl ?_) ?_; (focus ((omega); done)))); refine jU 5 [9] (bts 15 1023) ?_ ?_; (focus (repeat' (exact trivial))); ((refine jG (bts 15 2047) 10 rfl (g_ldRF rfl rfl (by assumption) ?_ rfl rfl) ?_; (focus ((omega); done)))); refine jA 11 rfl ?_; (refine c_bsl rfl rfl rfl rfl rfl rfl fun _ => ?_); refine jK (bts 15 4095) ?_; refine jU 1 [12, 13] (bts 15 16383) ?_ ?_; (focus (repeat' (exact trivial))); refine jA 14 rfl ?_; (refine c_st1 rfl rfl rfl rfl ?_); refine jK (bts 15 32767) ?_; refine x_done (by kernel_rfl) (k_bk ?_))
 all_goals repeat' (refine jR ?_)
 all_goals
  rename_i y1
  refine Nx.sealC (b := y1) fun G2 hG2 hsy => ?_
  refine Nx.sealC (b := y11) fun G3 hG3 hsg => ?_
  have hdm : nth fs k.toNat ∈ fs := nth_mem (by omega)
  exact k_rr (vs := [_]) rfl ⟨rfl, trivial⟩ rfl (by repeat (first | exact List.nil_sublist _ | apply List.Sublist.cons_cons)) ⟨hG2.trans hG3, .nd 69 [] (nth fs k.toNat).tag [], y11, _, rfl, .enm kd y11 y1 ⟨69, nm, fs⟩ (nth fs k.toNat) ⟨href.symm, rfl⟩ hdm hsg (hsy.mono hG3), by simp [nd_tot, V.tots], by rw [V.out]; simp [outW], rfl, by omega, by omega⟩
theorem dt_uni (hr : refV vs kd = some ((a, ca), ⟨85, nm, fs⟩)) (hvl : vs.length ≤ 1000000) (hk : kOk kd = true) (hkl : kd.length ≤ 1000) (h0 : 0 < fs.length) (h8 : fs.length ≤ 8) (hw : SchW (tys vs)) (hcp : 0 ≤ cp ∧ cp ≤ 100000000) (hct : ct ≤ 100000000)
  (hD : ∀ d ∈ fs, (0 < deep ∨ d = nth fs 0) → DrawC u vs d.kind (deep - 1) cp ct) (hd : -1000 ≤ deep ∧ deep ≤ 1000) : DrawT u vs kd deep (cp + 10) (ct + 20) := by
 intro G r code p l hR hs hp
 have href := refV_ty vs kd
 rw [hr] at href
 have cx_rf := c_ref (G := G) (k := kd) hR hvl hk (by omega)
 rw [hr] at cx_rf
 have htm := refT_mem href.symm
 obtain ⟨bf, of, cf, ef, hsf⟩ := (hR.fl _ (refV_mem hr)).expl h0
 simp only [slX, Value.slice.injEq] at ef
 obtain ⟨rfl, -, rfl⟩ := ef
 dsimp only at hsf
 have cx_rf : PuG Tryz.prog 88 [u, S kd] G (· = Tu [Ag [U8 (85 : Nat), S nm, .slice (some ⟨bf, of, none⟩) fs.length ca], Bo true]) := cx_rf
 refine m_enter [(0, _), (1, _), (2, _), (3, _)] Tryz.func144 (by kernel_rfl) Tryz.ntmps144 rfl rfl (by repeat' constructor) fun B hB hW => ?_
 repeat' (first | refine jM ?_ | (refine k_op rfl ?_; first | refine c_al rfl rfl fun _ => ?_ | refine c_st1 rfl rfl rfl rfl ?_ | refine c_stA rfl rfl rfl rfl rfl rfl ?_ | refine jV (g_ld rfl rfl rfl) ?_ | (refine jV (g_ldR rfl rfl (by assumption) ?_) ?_; (focus ((omega); done))) | refine c_bsl rfl rfl rfl rfl rfl rfl fun _ => ?_ | refine jV (g_bsB rfl rfl (by (repeat (first | exact BL.nil | apply BL.lit rfl)); done)) ?_ | refine jV (g_bld rfl rfl) ?_ | refine c_bx rfl rfl rfl fun _ => ?_ | (refine jV (g_iaddrN rfl rfl (by omega)) ?_) | (refine c_rt rfl rfl rfl cx_rf rfl ?_)) | (refine k_tt rfl rfl ?_) | (refine k_ff rfl rfl ?_) | refine k_if rfl (fun _ => ?_) (fun _ => ?_))
 ·rename_i y9 _ y11 y12 hd0
  (refine k_any (s_any (id := 10) [.blk y9 (.cells (List.toArray [U8 (85 : Nat), S nm, .slice (some ⟨bf, of, none⟩) fs.length ca]) tTyG (0, 0))] (by intro y hy; simp only [List.mem_cons, List.not_mem_nil, or_false] at hy ⊢; simp [hy]) mixed ?_); refine jU 7 [0, 2, 3] (bts 10 13) ?_ ?_; (focus (repeat' (exact trivial))); (refine jG (bts 10 15) 1 rfl (g_ld rfl rfl rfl) ?_); (refine jG (bts 10 31) 4 rfl (g_ld rfl rfl rfl) ?_); (refine jG (bts 10 63) 5 rfl (g_lenL rfl) ?_); refine jA 6 rfl ?_; ((refine c_m1g rfl rfl rfl (c_pick ?_ (by (repeat (assumption)); done)) rfl ?_; (focus ((omega); done)); rintro _ _ ⟨k, rfl, rfl, hk0, hk1⟩; dsimp only [zA, fA])); refine jK (bts 10 127) ?_; ((refine jG (bts 10 255) 7 rfl (g_iaddr rfl rfl ?_) ?_; (focus ((omega); done)))); ((refine jG (bts 10 511) 8 rfl (g_ldR rfl rfl (by assumption) ?_) ?_; (focus ((omega); done)))); refine jA 9 rfl ?_; (refine c_stA rfl rfl rfl rfl rfl rfl ?_); refine jK (bts 10 1023) ?_; refine x_done (by kernel_rfl) (k_bk ?_))
  all_goals have hdm : nth fs k.toNat ∈ fs := nth_mem (by omega)
  all_goals have cx_dv := fun {p : Int} (hp : 0 ≤ p ∧ p + cp ≤ 600000000000) => hD (nth fs k.toNat) hdm (.inl hd0) G r code p l hR hs hp
  all_goals repeat' (first | refine jM ?_ | (refine k_op rfl ?_; first | refine c_st1 rfl rfl rfl rfl ?_ | refine jV (g_ld rfl rfl rfl) ?_ | refine c_bsl rfl rfl rfl rfl rfl rfl fun _ => ?_ | (refine c_m1s rfl rfl rfl (cx_dv (by omega)) rfl ?_; rintro _ G1 _ hle ⟨w1, b1, q1, rfl, hrep, htot, hone, rfl, hq1, hq2⟩; dsimp only [zA, fA]; skip)))
  all_goals
   rename_i y1 y2
   refine Nx.sealC (b := y1) fun G2 hG2 hs1 => ?_
   refine Nx.sealC (b := y2) fun G3 hG3 hs2 => ?_
   refine Nx.sealC (b := y11) fun G4 hG4 hsg => ?_
   exact k_rr (vs := [_]) rfl ⟨rfl, trivial⟩ rfl (by repeat (first | exact List.nil_sublist _ | apply List.Sublist.cons_cons)) ⟨((hle.trans hG2).trans hG3).trans hG4, .nd 85 [] (nth fs k.toNat).tag [w1], y11, _, rfl, .uni kd y11 y1 y2 b1 1 ⟨85, nm, fs⟩ (nth fs k.toNat) w1 (Nat.le_refl _) ⟨href.symm, rfl⟩ hdm hsg (hs1.mono (hG3.trans hG4)) (hs2.mono hG4) (hrep.mono ((hG2.trans hG3).trans hG4)), by simp only [nd_tot, V.tots, List.length_nil]; omega, by rw [V.out]; simp [outW], rfl, by omega, by omega⟩
 ·have cx_dv := fun {p : Int} (hp : 0 ≤ p ∧ p + cp ≤ 600000000000) => hD (nth fs 0) (nth_mem h0) (.inr rfl) G r code p l hR hs hp
  repeat' (first | (refine jR ?_) | (refine k_op rfl ?_; first | refine c_st1 rfl rfl rfl rfl ?_ | refine c_bsl rfl rfl rfl rfl rfl rfl fun _ => ?_ | (refine c_m1s rfl rfl rfl (cx_dv (by omega)) rfl ?_; rintro _ G1 _ hle ⟨w1, b1, q1, rfl, hrep, htot, hone, rfl, hq1, hq2⟩; dsimp only [zA, fA]; skip)))
  all_goals
   rename_i y9 _ y11 y12 _ y1 y2
   refine Nx.sealC (b := y1) fun G2 hG2 hs1 => ?_
   refine Nx.sealC (b := y2) fun G3 hG3 hs2 => ?_
   refine Nx.sealC (b := y11) fun G4 hG4 hsg => ?_
   exact k_rr (vs := [_]) rfl ⟨rfl, trivial⟩ rfl (by repeat (first | exact List.nil_sublist _ | apply List.Sublist.cons_cons)) ⟨((hle.trans hG2).trans hG3).trans hG4, .nd 85 [] (nth fs 0).tag [w1], y11, _, rfl, .uni kd y11 y1 y2 b1 1 ⟨85, nm, fs⟩ (nth fs 0) w1 (Nat.le_refl _) ⟨href.symm, rfl⟩ (nth_mem h0) hsg (hs1.mono (hG3.trans hG4)) (hs2.mono hG4) (hrep.mono ((hG2.trans hG3).trans hG4)), by simp only [nd_tot, V.tots, List.length_nil]; omega, by rw [V.out]; simp [outW], rfl, by omega, by omega⟩
theorem dt_rec0 (hr : refV vs kd = some ((a, ca), ⟨82, nm, fs⟩)) (hvl : vs.length ≤ 1000000) (hk : kOk kd = true) (hkl : kd.length ≤ 1000) (h8 : fs.length ≤ 8) (hd : -1000 ≤ deep ∧ deep ≤ 0) : DrawT u vs kd deep 10 100 := by
 intro G r code p l hR hs hp
 have href := refV_ty vs kd
 rw [hr] at href
 have cx_rf := c_ref (G := G) (k := kd) hR hvl hk (by omega)
 rw [hr] at cx_rf
 have cx_rf : PuG Tryz.prog 88 [u, S kd] G (· = Tu [Ag [U8 (82 : Nat), S nm, .slice a fs.length ca], Bo true]) := cx_rf
 refine m_enter [(0, _), (1, _), (2, _), (3, _)] Tryz.func144 (by kernel_rfl) Tryz.ntmps144 rfl rfl (by repeat' constructor) fun B hB hW => ?_
 repeat' (first | (refine jR ?_) | (refine k_op rfl ?_; first | refine c_al rfl rfl fun _ => ?_ | refine c_stA rfl rfl rfl rfl rfl rfl ?_ | refine jV (g_ld rfl rfl rfl) ?_ | refine c_bsl rfl rfl rfl rfl rfl rfl fun _ => ?_ | refine jV (g_bsB rfl rfl (by (repeat (first | exact BL.nil | apply BL.lit rfl)); done)) ?_ | refine jV (g_bld rfl rfl) ?_ | refine c_bx rfl rfl rfl fun _ => ?_ | (refine c_rt rfl rfl rfl cx_rf rfl ?_)) | (refine k_ff rfl rfl ?_))
 rename_i y9 _ y11
 refine k_loop (ι := Unit) (fun i => True) (fun i => [(0, Pt r 0), (1, u), (2, S kd), (3, I deep), (9, Pt y9 0), (11, Pt y11 0), (13, I 0)]) (fun _ => G) (fun i => [.blk y11 (.cells (List.toArray [S kd, S [82], nilS, nilS]) tLv (0, 0)), .blk y9 (.cells (List.toArray [U8 (82 : Nat), S nm, .slice a fs.length ca]) tTyG (0, 0)), rdO r code p tRdr]) (fun i => 0) () ?_ (by repeat' constructor) rfl (by repeat (first | exact List.Sublist.refl _ | apply List.Sublist.cons_cons | apply List.Sublist.cons)) (fun i Hi => ?_)
 ·trivial
 by_cases h0 : 0 < fs.length
 all_goals repeat' (first | (refine jR ?_) | (refine k_op rfl ?_; first | refine jV (g_ld rfl rfl rfl) ?_ | refine jV (g_lenL rfl) ?_ | (refine jV (g_pickT rfl rfl rfl) ?_) | (refine jV (g_pickF rfl rfl rfl) ?_)) | (refine k_gt rfl rfl (dTt (by omega)) ?_) | (refine k_gf rfl rfl (dFf (by omega)) ?_) | (refine k_ff rfl (by first | rfl | (refine decide_eq_false ?_; (omega))) ?_))
 all_goals
  refine Nx.sealC (b := y11) fun G2 hG2 hsg => ?_
  exact k_rr (vs := [_]) rfl ⟨rfl, trivial⟩ rfl (by repeat (first | exact List.Sublist.refl _ | apply List.Sublist.cons)) ⟨hG2, .nd 82 [] 0 [], y11, p, rfl, .recd kd y11 ⟨82, nm, fs⟩ [] [] none none 0 0 ⟨href.symm, rfl⟩ hsg ⟨rfl, .inl ⟨rfl, rfl⟩⟩ ⟨rfl, .inl ⟨rfl, rfl⟩⟩ rfl (fun i hi => absurd hi (by simp)) (fun i hi => absurd hi (by simp)), by simp [nd_tot, V.tots], by rw [V.out]; simp [outW], rfl, by omega, by omega⟩
theorem dt_rec (hr : refV vs kd = some ((a, ca), ⟨82, nm, fs⟩)) (hvl : vs.length ≤ 1000000) (hk : kOk kd = true) (hkl : kd.length ≤ 1000) (h8 : fs.length ≤ 8) (hw : SchW (tys vs)) (hcp : 0 ≤ cp ∧ cp ≤ 100000000) (hct : ct ≤ 100000000)
  (hD : ∀ d ∈ fs, DrawC u vs d.kind (deep - 1) cp ct) (hd : 0 < deep ∧ deep ≤ 1000) : DrawT u vs kd deep (8 * cp + 20) (8 * ct + 200) := by
 intro G r code p l hR hs hp
 have href := refV_ty vs kd
 rw [hr] at href
 have cx_rf := c_ref (G := G) (k := kd) hR hvl hk (by omega)
 rw [hr] at cx_rf
 have htm := refT_mem href.symm
 have cx_rf : PuG Tryz.prog 88 [u, S kd] G (· = Tu [Ag [U8 (82 : Nat), S nm, .slice a fs.length ca], Bo true]) := cx_rf
 refine m_enter [(0, _), (1, _), (2, _), (3, _)] Tryz.func144 (by kernel_rfl) Tryz.ntmps144 rfl rfl (by repeat' constructor) fun B hB hW => ?_
 repeat' (first | (refine jR ?_) | (refine k_op rfl ?_; first | refine c_al rfl rfl fun _ => ?_ | refine c_stA rfl rfl rfl rfl rfl rfl ?_ | refine jV (g_ld rfl rfl rfl) ?_ | refine c_bsl rfl rfl rfl rfl rfl rfl fun _ => ?_ | refine jV (g_bsB rfl rfl (by (repeat (first | exact BL.nil | apply BL.lit rfl)); done)) ?_ | refine jV (g_bld rfl rfl) ?_ | refine c_bx rfl rfl rfl fun _ => ?_ | (refine c_rt rfl rfl rfl cx_rf rfl ?_)) | (refine k_ff rfl rfl ?_))
 rename_i y9 _ y11
 refine Nx.addNil tInt5 1 (Nx.addNil tPtr5 1 ?_)
 refine Nx.perm (((List.perm_append_comm (l₁ := [_, _, _]) (l₂ := [_])).cons _).cons _) ?_
 dsimp only [zA, fA]
 refine k_loop (ι := List (Fld × V) × List Nat × Option Addr × Nat × Option Addr × Nat × Nat × Int × Gh) (fun j => ((j.2.1.length = j.1.length ∧ (∀ i, i < j.1.length → (nth j.1 i).1 ∈ fs) ∧ ∀ i, i < j.1.length → RepR j.2.2.2.2.2.2.2.2 (tys vs) (nth j.1 i).2 (nth j.1 i).1.kind (nth j.2.1 i)) ∧ Gh.le G j.2.2.2.2.2.2.2.2) ∧ (j.1.length ≤ j.2.2.2.2.2.2.1 ∧ j.2.2.2.2.2.2.1 ≤ fs.length) ∧ V.tots (nd61 j.1) ≤ (ct + 20) * j.1.length ∧ p ≤ j.2.2.2.2.2.2.2.1 ∧ j.2.2.2.2.2.2.2.1 ≤ p + (cp + 1) * ((j.2.2.2.2.2.2.1 : Nat) : Int)) (fun j => [(0, Pt r 0), (1, u), (2, S kd), (3, I deep), (9, Pt y9 0), (11, Pt y11 0), (13, I ((j.2.2.2.2.2.2.1 : Nat) : Int))]) (fun j => j.2.2.2.2.2.2.2.2) (fun j => [.acc (.slice j.2.2.2.2.1 j.1.length j.2.2.2.2.2.1) tPtr5 1 j.1.length (rows ptR j.2.1), .acc (.slice j.2.2.1 j.1.length j.2.2.2.1) tInt5 1 j.1.length (rows inR (j.1.map fun p => p.1.tag)), rdO r code j.2.2.2.2.2.2.2.1 tRdr, .blk y11 (.cells (List.toArray [S kd, S [82], .slice j.2.2.1 j.1.length j.2.2.2.1, .slice j.2.2.2.2.1 j.1.length j.2.2.2.2.2.1]) tLv (0, 0)), .blk y9 (.cells (List.toArray [U8 (82 : Nat), S nm, .slice a fs.length ca]) tTyG (0, 0))]) (fun j => fs.length - j.2.2.2.2.2.2.1) ([], [], none, 0, none, 0, 0, p, G) ?_ (by repeat' constructor) rfl (by repeat (first | exact List.Sublist.refl _ | apply List.Sublist.cons_cons | apply List.Sublist.cons)) (fun j Hj => ?_)
 ·refine ⟨⟨⟨rfl, fun i hi => absurd hi (by simp), fun i hi => absurd hi (by simp)⟩, Gh.le.refl _⟩, ?_, ?_, ?_, ?_⟩
  ·exact ⟨Nat.le_refl _, Nat.zero_le _⟩
  ·simp [nd61, V.tots]
  ·dsimp only; omega
  ·dsimp only; simp
 obtain ⟨gs, bs, a1, c1, a2, c2, i, q, Gq⟩ := j
 dsimp only at Hj ⊢
 obtain ⟨⟨⟨hbl, hfm, hreps⟩, hgq⟩, hil, htt, hq0, hq1⟩ := Hj
 have hcl : (cp + 1) * ((i : Nat) : Int) ≤ (cp + 1) * 8 := Int.mul_le_mul_of_nonneg_left (by omega) (by omega)
 have hcl0 : 0 ≤ (cp + 1) * ((i : Nat) : Int) := Int.mul_nonneg (by omega) (by omega)
 have htl : (ct + 20) * gs.length ≤ (ct + 20) * 8 := Nat.mul_le_mul_left _ (by omega)
 by_cases hgo : i < fs.length
 ·have hcl3 : (cp + 1) * ((i : Nat) : Int) + (cp + 1) ≤ (cp + 1) * 8 := by
   have := Int.mul_le_mul_of_nonneg_left (show ((i : Nat) : Int) + 1 ≤ 8 by omega) (show 0 ≤ cp + 1 by omega)
   rwa [Int.mul_add, Int.mul_one] at this
  obtain ⟨bf, of, cf, ef, hsf⟩ := (hR.fl _ (refV_mem hr)).expl (by dsimp only; omega)
  simp only [slX, Value.slice.injEq] at ef
  obtain ⟨rfl, -, rfl⟩ := ef
  dsimp only at hsf
  have hdm : nth fs i ∈ fs := nth_mem hgo
  have hdk : kindIn (tys vs) (nth fs i).kind = true := kind_in hw htm (by simp) hdm
  have cx_dv := fun {p : Int} (hp : 0 ≤ p ∧ p + cp ≤ 600000000000) => hD (nth fs i) hdm Gq r code p l (hR.mono hgq) (hs.mono hgq) hp
  have hsf := hsf.mono hgq
  repeat' (first | refine jM ?_ | (refine k_op rfl ?_; first | refine jV (g_ld rfl rfl rfl) ?_ | (refine jV (g_ldRF rfl rfl (by assumption) ?_ rfl rfl) ?_; (focus ((omega); done))) | refine jV (g_lenL rfl) ?_ | (refine jV (g_iaddrN rfl rfl (by omega)) ?_) | (refine jV (g_pickT rfl rfl rfl) ?_) | (refine c_m1s rfl rfl rfl (cx_dv (by omega)) rfl ?_; rintro _ G1 _ hle ⟨w1, b1, q1, rfl, hrep, htot, hone, rfl, hq1, hq2⟩; dsimp only [zA, fA]; (try have hsf := hsf.mono hle))) | (refine k_gt rfl rfl (dTt (by omega)) ?_) | (refine k_tt rfl (dTt (by omega)) ?_))
  have hgl := hgq.trans hle
  have cx_pk3 : ∀ {p : Int}, 0 ≤ p ∧ p ≤ 1000000000000 → FnG Tryz.prog 33 [Pt r 0, I 3] G1 [rdO r code p tRdr] (fun v L' => L' = [rdO r code (p + 1) tRdr] ∧ (v = I 0 ∨ ∃ k, v = I k ∧ 0 < k)) := fun {p} hp => (c_pick (b := r) (p := p) (n := 3) ⟨hp.1, hp.2, by decide⟩ (hs.mono hgl)).mono fun v G' L' ⟨h1, k, h2, h3, h4, h5⟩ => ⟨h1, h3, by subst h2; rcases (show k = 0 ∨ 0 < k by omega) with rfl | h; exact .inl rfl; exact .inr ⟨k, rfl, h⟩⟩
  have cx_out := c_outS hw hrep (by omega)
  have cx_sta := c_standS (f := nth fs i) (hR.mono hgl) hw hdk
  have hms : (cp + 1) * ((i + 1 : Nat) : Int) = (cp + 1) * ((i : Nat) : Int) + (cp + 1) := by rw [Int.natCast_succ, Int.mul_add, Int.mul_one]
  by_cases heq : w1.out = standF (tys vs) (nth fs i)
  ·(refine k_any (s_any (id := 18) [.blk y9 (.cells (List.toArray [U8 (82 : Nat), S nm, .slice (some ⟨bf, of, none⟩) fs.length ca]) tTyG (0, 0))] (by intro y hy; simp only [List.mem_cons, List.not_mem_nil, or_false] at hy ⊢; simp [hy]) mixed ?_); refine jU 14 [0] (bts 15 1) ?_ ?_; (focus (repeat' (exact trivial))); refine x_all [1] (by kernel_rfl) (by decide) ⟨?_, trivial⟩; (refine x_opg rfl rfl ?_; (refine c_m1g rfl rfl rfl (cx_pk3 (by omega)) rfl ?_; rintro _ _ ⟨rfl, rfl | ⟨k, rfl, hk0⟩⟩ <;> dsimp only [zA, fA])) <;> (refine jS (bts 15 3) ?_; refine jT 11 [2, 3] (bts 15 15) ?_; (try (first | (refine Nx.re (d := 107) (v' := Bo true) rfl (congrArg Value.bool (dTt ‹_›)) ?_) | (refine Nx.re (d := 107) (v' := Bo false) rfl (congrArg Value.bool rfl) ?_))); refine jT 7 [4, 6, 7, 9] (bts 15 735) ?_; (first | refine jG (bts 15 991) 8 rfl (g_ld rfl rfl rfl) ?_ | refine jN (bts 15 991) 8 rfl ?_); (first | (refine jG (bts 15 2015) 10 rfl (g_iaddrN rfl rfl (by omega)) ?_) | refine jN (bts 15 2015) 10 rfl ?_); (first | (refine jG (bts 15 4063) 11 rfl (g_ldR rfl rfl (by assumption) ?_) ?_; (focus ((omega); done))) | refine jN (bts 15 4063) 11 rfl ?_); (first | refine jN (bts 15 4095) 5 rfl ?_ | (refine jA 5 rfl ?_; (refine c_rt rfl rfl rfl cx_out rfl ?_); refine jS (bts 15 4095) ?_)); (first | refine jN (bts 15 8191) 12 rfl ?_ | (refine jA 12 rfl ?_; (refine c_rt rfl rfl rfl cx_sta rfl ?_); refine jS (bts 15 8191) ?_)); refine jT 1 [13] (bts 15 16383) ?_; (first | (refine jG (bts 15 32767) 14 rfl (g_pickT rfl rfl rfl) ?_) | (refine jG (bts 15 32767) 14 rfl (g_pickF rfl rfl rfl) ?_)); refine x_done (by kernel_rfl) (k_bk ?_)))
   all_goals repeat' (first | refine jM ?_ | (refine k_ff rfl ?_ ?_; (focus ((first | rfl | (simp [*]; done)); done))))
   all_goals
    refine Nx.perm ((List.Perm.swap _ _ _).trans ((List.Perm.swap _ _ _).cons _)) ?_
    exact k_rd (gs, bs, a1, c1, a2, c2, i + 1, q1 + 1, G1) ⟨⟨⟨hbl, hfm, fun i hi => (hreps i hi).mono hle⟩, hgl⟩, ⟨by dsimp only; omega, by dsimp only; omega⟩, htt, by dsimp only; omega, by dsimp only; rw [hms]; omega⟩ (by dsimp only; omega) (by repeat' constructor) rfl sRr
  ·(refine k_any (s_any (id := 18) [.blk y9 (.cells (List.toArray [U8 (82 : Nat), S nm, .slice (some ⟨bf, of, none⟩) fs.length ca]) tTyG (0, 0))] (by intro y hy; simp only [List.mem_cons, List.not_mem_nil, or_false] at hy ⊢; simp [hy]) mixed ?_); refine jU 14 [0] (bts 15 1) ?_ ?_; (focus (repeat' (exact trivial))); refine x_all [1] (by kernel_rfl) (by decide) ⟨?_, trivial⟩; (refine x_opg rfl rfl ?_; (refine c_m1g rfl rfl rfl (cx_pk3 (by omega)) rfl ?_; rintro _ _ ⟨rfl, rfl | ⟨k, rfl, hk0⟩⟩ <;> dsimp only [zA, fA])) <;> (refine jS (bts 15 3) ?_; refine jT 11 [2, 3] (bts 15 15) ?_; (try (first | (refine Nx.re (d := 107) (v' := Bo true) rfl (congrArg Value.bool (dTt ‹_›)) ?_) | (refine Nx.re (d := 107) (v' := Bo false) rfl (congrArg Value.bool rfl) ?_))); refine jT 7 [4, 6, 7, 9] (bts 15 735) ?_; (first | refine jG (bts 15 991) 8 rfl (g_ld rfl rfl rfl) ?_ | refine jN (bts 15 991) 8 rfl ?_); (first | (refine jG (bts 15 2015) 10 rfl (g_iaddrN rfl rfl (by omega)) ?_) | refine jN (bts 15 2015) 10 rfl ?_); (first | (refine jG (bts 15 4063) 11 rfl (g_ldR rfl rfl (by assumption) ?_) ?_; (focus ((omega); done))) | refine jN (bts 15 4063) 11 rfl ?_); (first | refine jN (bts 15 4095) 5 rfl ?_ | (refine jA 5 rfl ?_; (refine c_rt rfl rfl rfl cx_out rfl ?_); refine jS (bts 15 4095) ?_)); (first | refine jN (bts 15 8191) 12 rfl ?_ | (refine jA 12 rfl ?_; (refine c_rt rfl rfl rfl cx_sta rfl ?_); refine jS (bts 15 8191) ?_)); refine jT 1 [13] (bts 15 16383) ?_; (first | (refine jG (bts 15 32767) 14 rfl (g_pickT rfl rfl rfl) ?_) | (refine jG (bts 15 32767) 14 rfl (g_pickF rfl rfl rfl) ?_)); refine x_done (by kernel_rfl) (k_bk ?_)))
   ·repeat' (first | refine jM ?_ | (refine k_ff rfl rfl ?_))
    refine Nx.perm ((List.Perm.swap _ _ _).trans ((List.Perm.swap _ _ _).cons _)) ?_
    exact k_rd (gs, bs, a1, c1, a2, c2, i + 1, q1 + 1, G1) ⟨⟨⟨hbl, hfm, fun i hi => (hreps i hi).mono hle⟩, hgl⟩, ⟨by dsimp only; omega, by dsimp only; omega⟩, htt, by dsimp only; omega, by dsimp only; rw [hms]; omega⟩ (by dsimp only; omega) (by repeat' constructor) rfl sRr
   ·repeat' (first | (refine jR ?_) | (refine k_tt rfl (dTt ‹_›) ?_))
    have hl' : (gs ++ [(nth fs i, w1)]).length = gs.length + 1 := by simp
    have hbl' : (bs ++ [b1]).length = (gs ++ [(nth fs i, w1)]).length := by simp [hbl]
    have hnth : ∀ j, j < (gs ++ [(nth fs i, w1)]).length → (j < gs.length ∧ nth (gs ++ [(nth fs i, w1)]) j = nth gs j ∧ nth (bs ++ [b1]) j = nth bs j) ∨ (nth (gs ++ [(nth fs i, w1)]) j = (nth fs i, w1) ∧ nth (bs ++ [b1]) j = b1) := fun j hj => by
     by_cases h1 : j < gs.length
     ·exact .inl ⟨h1, by rw [nth_eq hj, nth_eq h1, List.getElem_append_left h1], by rw [nth_eq (by omega), nth_eq (by omega), List.getElem_append_left (by omega)]⟩
     ·have h2 : j = gs.length := by omega
      exact .inr ⟨by rw [nth_eq hj]; simp [h2], by rw [nth_eq (by omega)]; simp [h2, hbl]⟩
    have hfm' : ∀ j, j < (gs ++ [(nth fs i, w1)]).length → (nth (gs ++ [(nth fs i, w1)]) j).1 ∈ fs := fun j hj => by
     rcases hnth j hj with ⟨h1, h2, _⟩ | ⟨h2, _⟩
     ·rw [h2]; exact hfm j h1
     ·rw [h2]; exact hdm
    have hreps' : ∀ j, j < (gs ++ [(nth fs i, w1)]).length → RepR G1 (tys vs) (nth (gs ++ [(nth fs i, w1)]) j).2 (nth (gs ++ [(nth fs i, w1)]) j).1.kind (nth (bs ++ [b1]) j) := fun j hj => by
     rcases hnth j hj with ⟨h1, h2, h3⟩ | ⟨h2, h3⟩
     ·rw [h2, h3]; exact (hreps j h1).mono hle
     ·rw [h2, h3]; exact hrep
    have hrow1 : rows inR (gs.map fun p => p.1.tag) ++ [I (nth fs i).tag] = rows inR ((gs ++ [(nth fs i, w1)]).map fun p => p.1.tag) := by rw [List.map_append]; exact (rows_snoc inR _ (nth fs i).tag).symm
    have hrow2 : rows ptR bs ++ [Pt b1 0] = rows ptR (bs ++ [b1]) := (rows_snoc ptR bs b1).symm
    have hnd : V.tots (nd61 (gs ++ [(nth fs i, w1)])) = V.tots (nd61 gs) + (20 + w1.tot) := by simp [nd61, tots_app, V.tots, nd_tot]
    have hmt : (ct + 20) * (gs.length + 1) = (ct + 20) * gs.length + (ct + 20) := Nat.mul_succ _ _
    (refine k_any (s_any (id := 19) [.blk y9 (.cells (List.toArray [U8 (82 : Nat), S nm, .slice (some ⟨bf, of, none⟩) fs.length ca]) tTyG (0, 0))] (by intro y hy; simp only [List.mem_cons, List.not_mem_nil, or_false] at hy ⊢; simp [hy]) mixed ?_); refine jU 10 [0, 1, 2, 3, 5, 7] (bts 16 175) ?_ ?_; (focus (repeat' (exact trivial))); (refine jG (bts 16 239) 6 rfl (g_ld rfl rfl rfl) ?_); ((refine jG (bts 16 495) 8 rfl (g_iaddrN rfl rfl ?_) ?_; (focus ((omega); done)))); refine jU 7 [9] (bts 16 1007) ?_ ?_; (focus (repeat' (exact trivial))); ((refine jG (bts 16 2031) 10 rfl (g_ldRF rfl rfl (by assumption) ?_ rfl rfl) ?_; (focus ((omega); done)))); refine x_all [4, 11] (by kernel_rfl) (by decide) ⟨?_, ?_, trivial⟩; (focus (refine x_opg rfl rfl ?_; (refine jV (g_ld rfl rfl rfl) ?_); refine jK (bts 16 2047) ?_; refine jA 11 rfl ?_; (refine c_bsl rfl rfl rfl rfl rfl rfl fun _ => ?_); refine jK (bts 16 4095) ?_; refine jA 12 rfl ?_; ((refine c_apX rfl rfl rfl rfl rfl rfl rfl rfl rfl ?_ fun _ _ => ?_; (focus ((omega); done)))); refine jK (bts 16 8191) ?_; refine jU 1 [13, 14] (bts 16 32767) ?_ ?_; (focus (repeat' (exact trivial))); refine jA 15 rfl ?_; (refine c_st1 rfl rfl rfl rfl ?_); refine jK (bts 16 65535) ?_; refine x_done (by kernel_rfl) (k_bk ?_))); rotate_left 1; (focus (refine x_opg rfl rfl ?_; (refine c_bsl rfl rfl rfl rfl rfl rfl fun _ => ?_); refine jK (bts 16 4079) ?_; refine jA 4 rfl ?_; (refine jV (g_ld rfl rfl rfl) ?_); refine jK (bts 16 4095) ?_; refine jA 12 rfl ?_; ((refine c_apX rfl rfl rfl rfl rfl rfl rfl rfl rfl ?_ fun _ _ => ?_; (focus ((omega); done)))); refine jK (bts 16 8191) ?_; refine jU 1 [13, 14] (bts 16 32767) ?_ ?_; (focus (repeat' (exact trivial))); refine jA 15 rfl ?_; (refine c_st1 rfl rfl rfl rfl ?_); refine jK (bts 16 65535) ?_; refine x_done (by kernel_rfl) (k_bk ?_))); rotate_left 1)
    all_goals repeat' (first | refine jM ?_ | (refine k_op rfl ?_; first | refine c_st1 rfl rfl rfl rfl ?_ | refine jV (g_ld rfl rfl rfl) ?_ | refine c_bsl rfl rfl rfl rfl rfl rfl fun _ => ?_ | (refine c_apX rfl rfl rfl rfl rfl rfl rfl rfl rfl (by omega) fun _ _ => ?_)))
    all_goals
     rename_i _ y1 yc1 _ y2 yc2
     rw [hrow1, hrow2]
     exact k_rd (gs ++ [(nth fs i, w1)], bs ++ [b1], some ⟨y1, 0, none⟩, yc1, some ⟨y2, 0, none⟩, yc2, i + 1, q1 + 1, G1) ⟨⟨⟨hbl', hfm', hreps'⟩, hgl⟩, ⟨by dsimp only; rw [hl']; omega, by dsimp only; omega⟩, by dsimp only; rw [hl', hmt, hnd]; omega, by dsimp only; omega, by dsimp only; rw [hms]; omega⟩ (by dsimp only; omega) (by repeat' constructor) rfl (by rw [hl']; repeat (first | exact List.Sublist.refl _ | apply List.Sublist.cons_cons | apply List.Sublist.cons))
 ·repeat' (first | (refine jR ?_) | (refine k_op rfl ?_; first | refine jV (g_ld rfl rfl rfl) ?_ | refine jV (g_lenL rfl) ?_ | (refine jV (g_pickF rfl rfl rfl) ?_)) | (refine k_gf rfl rfl (dFf (by omega)) ?_) | (refine k_ff rfl rfl ?_))
  refine Nx.sealS (v := .slice a2 gs.length c2) fun G2 hG2 hs1 => ?_
  refine Nx.sealS (v := .slice a1 gs.length c1) fun G3 hG3 hs2 => ?_
  refine Nx.sealC (b := y11) fun G4 hG4 hsg => ?_
  exact k_rr (vs := [_]) rfl ⟨rfl, trivial⟩ rfl (by repeat (first | exact List.nil_sublist _ | apply List.Sublist.cons_cons)) ⟨hgq.trans ((hG2.trans hG3).trans hG4), .nd 82 [] 0 (nd61 gs), y11, q, rfl, .recd kd y11 ⟨82, nm, fs⟩ gs bs a1 a2 c1 c2 ⟨href.symm, rfl⟩ hsg (hs2.mono hG4) (hs1.mono (hG3.trans hG4)) hbl hfm (fun i hi => (hreps i hi).mono ((hG2.trans hG3).trans hG4)), by rw [nd_tot]; simp only [List.length_nil]; omega, by rw [V.out]; simp [outW], rfl, by omega, by omega⟩
end
theorem kind_ne' {ts : List Ty} {k : List UInt8} (h : kindIn ts k = true) : ∃ c r, k = c :: r := by
 cases k with
 | nil => unfold kindIn kindOk kOk at h; simp at h
 | cons c r => exact ⟨c, r, rfl⟩
def cpk : Nat → Int
 | 0 => 105
 | d + 1 => 8 * cpk d + 40
def ctt : Nat → Nat
 | 0 => 480
 | d + 1 => 8 * ctt d + 400
theorem cpk_le : ∀ d, d ≤ 4 → 0 ≤ cpk d ∧ cpk d ≤ 500000 ∧ ctt d ≤ 3000000 ∧ 105 ≤ cpk d ∧ 480 ≤ ctt d := by decide
theorem draw0 {u : Value} {vs : List TyX} (hw : SchW (tys vs)) (hu : u.oneCell' = true) : ∀ (n : Nat) {k : List UInt8} {deep : Int}, n ≤ 9 → deep ≤ 0 → (n : Int) - 900 ≤ deep → kindIn (tys vs) k = true → (∀ t, refT (tys vs) k = some t → endsN (tys vs) n t = true) → DrawC u vs k deep (15 + 10 * n) (300 + 20 * n) := by
 have hvl : vs.length ≤ 8 := by have := hw.len; unfold tys at this; simpa using this
 intro n
 induction n with
 | zero =>
  intro k deep _ hd hd2 hk he
  obtain ⟨c, r, rfl⟩ := kind_ne' hk
  have hkk := kindOk_kOk (kindIn_ok hk)
  simp only [List.length_cons] at hkk
  by_cases h1 : c.toNat = 91
  ·obtain rfl := u8_eq h1 (by decide)
   exact (dv_list (cp := 0) (ct := 0) (by omega) (by omega) (fun h => absurd h (by omega)) hu (by omega) (by omega)).le (by omega) (by omega)
  by_cases h2 : c.toNat = 63
  ·obtain rfl := u8_eq h2 (by decide)
   exact (dv_opt (cp := 0) (ct := 0) (by omega) (by omega) (fun h => absurd h (by omega)) hu (by omega) (by omega)).le (by omega) (by omega)
  have h91 : ¬ (c.toNat = 91 ∨ c.toNat = 63) := fun h => by rcases h with h | h <;> omega
  cases hr : refT (tys vs) (c :: r) with
  | some t => have := he t hr; simp [endsN] at this
  | none =>
   rcases plain_kinds hk h91 hr with e1 | e1 | e1
   ·rw [e1]; exact dv_num.le (by omega) (by omega)
   ·rw [e1]; exact dv_txt.le (by omega) (by omega)
   ·rw [e1]; exact dv_flag.le (by omega) (by omega)
 | succ n ih =>
  intro k deep hn hd hd2 hk he
  obtain ⟨c, r, rfl⟩ := kind_ne' hk
  have hkk := kindOk_kOk (kindIn_ok hk)
  have hkk1 := hkk.1
  simp only [List.length_cons] at hkk
  by_cases h1 : c.toNat = 91
  ·obtain rfl := u8_eq h1 (by decide)
   exact (dv_list (cp := 0) (ct := 0) (by omega) (by omega) (fun h => absurd h (by omega)) hu (by omega) (by omega)).le (by omega) (by omega)
  by_cases h2 : c.toNat = 63
  ·obtain rfl := u8_eq h2 (by decide)
   exact (dv_opt (cp := 0) (ct := 0) (by omega) (by omega) (fun h => absurd h (by omega)) hu (by omega) (by omega)).le (by omega) (by omega)
  have h91 : ¬ (c.toNat = 91 ∨ c.toNat = 63) := fun h => by rcases h with h | h <;> omega
  cases hr : refT (tys vs) (c :: r) with
  | none =>
   rcases plain_kinds hk h91 hr with e1 | e1 | e1
   ·rw [e1]; exact dv_num.le (by omega) (by omega)
   ·rw [e1]; exact dv_txt.le (by omega) (by omega)
   ·rw [e1]; exact dv_flag.le (by omega) (by omega)
  | some t =>
   obtain ⟨r', e⟩ := refT_64 hr
   simp only [List.cons.injEq] at e
   obtain ⟨rfl, rfl⟩ := e
   have href := refV_ty vs (64 :: r)
   rw [hr] at href
   rcases hrv : refV vs (64 :: r) with _ | ⟨⟨a, ca⟩, ⟨so, nm, fs⟩⟩
   ·rw [hrv] at href; cases href
   rw [hrv] at href
   obtain rfl := (Option.some.inj href).symm
   dsimp only at hr he
   have hTW := hw.ty _ (refT_mem hr)
   have h8 : fs.length ≤ 8 := hTW.len
   refine dv_typed ?_ (by omega)
   rcases hTW.sort with h3 | h3 | h3 <;> dsimp only at h3 <;> subst h3
   ·exact fun G r code p l g1 g2 g3 => ((dt_rec0 hrv (by omega) hkk1 (by simp only [List.length_cons]; omega) h8 (by omega)) G r code p l g1 g2 ⟨g3.1, by omega⟩).mono fun _ _ _ ⟨h6, w, b, q, h7, h8, h9, h10, h11, h12, h13⟩ => ⟨h6, w, b, q, h7, h8, by omega, h10, h11, h12, by omega⟩
   ·have h0 : 0 < fs.length := List.length_pos_iff.2 (hTW.ne (by simp))
    refine fun G r code p l g1 g2 g3 => ((dt_uni (cp := 15 + 10 * n) (ct := 300 + 20 * n) hrv (by omega) hkk1 (by simp only [List.length_cons]; omega) h0 h8 hw (by omega) (by omega) (fun d hdm hc => ?_) (by omega)) G r code p l g1 g2 ⟨g3.1, by omega⟩).mono fun _ _ _ ⟨h6, w, b, q, h7, h8, h9, h10, h11, h12, h13⟩ => ⟨h6, w, b, q, h7, h8, by omega, h10, h11, h12, by omega⟩
    rcases hc with hc | rfl
    ·omega
    refine ih (by omega) (by omega) (by omega) (kind_in hw (refT_mem hr) (by simp) hdm) fun t' ht' => ?_
    have := he _ hr
    rw [endsN, if_neg (by simp), kind0_nth] at this
    dsimp only at this
    rw [ht'] at this
    exact this
   ·have h0 : 0 < fs.length := List.length_pos_iff.2 (hTW.ne (by simp))
    exact fun G r code p l g1 g2 g3 => ((dt_enm hrv (by omega) hkk1 (by simp only [List.length_cons]; omega) h0 h8 hw) G r code p l g1 g2 ⟨g3.1, by omega⟩).mono fun _ _ _ ⟨h6, w, b, q, h7, h8, h9, h10, h11, h12, h13⟩ => ⟨h6, w, b, q, h7, h8, by omega, h10, h11, h12, by omega⟩
theorem draw_all {u : Value} {vs : List TyX} (hw : SchW (tys vs)) (hu : u.oneCell' = true) : ∀ (m : Nat) {k : List UInt8} {deep : Int}, m ≤ 4 → deep ≤ m → -800 ≤ deep → kindIn (tys vs) k = true → DrawC u vs k deep (cpk m) (ctt m) := by
 have hvl : vs.length ≤ 8 := by have := hw.len; unfold tys at this; simpa using this
 have hz : ∀ {k : List UInt8} {deep : Int}, deep ≤ 0 → -800 ≤ deep → kindIn (tys vs) k = true → DrawC u vs k deep 105 480 := fun {k deep} h1 h2 h3 => (draw0 hw hu ((tys vs).length + 1) (by have := hw.len; omega) h1 (by have := hw.len; omega) h3 (fun t ht => ends_of hw t ht)).le (by have := hw.len; omega) (by have := hw.len; omega)
 intro m
 induction m with
 | zero => intro k deep _ hd hd2 hk; exact hz hd hd2 hk
 | succ m ih =>
  intro k deep hm hd hd2 hk
  have hcm := cpk_le m (by omega)
  have e1 : cpk (m + 1) = 8 * cpk m + 40 := rfl
  have e2 : ctt (m + 1) = 8 * ctt m + 400 := rfl
  by_cases hd0 : deep ≤ 0
  ·exact (hz hd0 hd2 hk).le (by omega) (by omega)
  have hD : ∀ {k : List UInt8}, kindIn (tys vs) k = true → DrawC u vs k (deep - 1) (cpk m) (ctt m) := fun {k} hk => ih (by omega) (by omega) (by omega) hk
  obtain ⟨c, r, rfl⟩ := kind_ne' hk
  have hkk := kindOk_kOk (kindIn_ok hk)
  have hkk1 := hkk.1
  simp only [List.length_cons] at hkk
  by_cases h1 : c.toNat = 91
  ·obtain rfl := u8_eq h1 (by decide)
   exact (dv_list (by omega) (by omega) (fun _ => hD (kindIn_tail (.inl rfl) hk)) hu (by omega) (by omega)).le (by omega) (by omega)
  by_cases h2 : c.toNat = 63
  ·obtain rfl := u8_eq h2 (by decide)
   exact (dv_opt (by omega) (by omega) (fun _ => hD (kindIn_tail (.inr rfl) hk)) hu (by omega) (by omega)).le (by omega) (by omega)
  have h91 : ¬ (c.toNat = 91 ∨ c.toNat = 63) := fun h => by rcases h with h | h <;> omega
  cases hr : refT (tys vs) (c :: r) with
  | none =>
   rcases plain_kinds hk h91 hr with e1 | e1 | e1
   ·rw [e1]; exact dv_num.le (by omega) (by omega)
   ·rw [e1]; exact dv_txt.le (by omega) (by omega)
   ·rw [e1]; exact dv_flag.le (by omega) (by omega)
  | some t =>
   obtain ⟨r', e⟩ := refT_64 hr
   simp only [List.cons.injEq] at e
   obtain ⟨rfl, rfl⟩ := e
   have href := refV_ty vs (64 :: r)
   rw [hr] at href
   rcases hrv : refV vs (64 :: r) with _ | ⟨⟨a, ca⟩, ⟨so, nm, fs⟩⟩
   ·rw [hrv] at href; cases href
   rw [hrv] at href
   obtain rfl := (Option.some.inj href).symm
   dsimp only at hr
   have hTW := hw.ty _ (refT_mem hr)
   have h8 : fs.length ≤ 8 := hTW.len
   refine dv_typed ?_ (by omega)
   rcases hTW.sort with h3 | h3 | h3 <;> dsimp only at h3 <;> subst h3
   ·exact fun G r code p l g1 g2 g3 => ((dt_rec hrv (by omega) hkk1 (by simp only [List.length_cons]; omega) h8 hw (by omega) (by omega) (fun d hdm => hD (kind_in hw (refT_mem hr) (by simp) hdm)) (by omega)) G r code p l g1 g2 ⟨g3.1, by omega⟩).mono fun _ _ _ ⟨h6, w, b, q, h7, h8, h9, h10, h11, h12, h13⟩ => ⟨h6, w, b, q, h7, h8, by omega, h10, h11, h12, by omega⟩
   ·have h0 : 0 < fs.length := List.length_pos_iff.2 (hTW.ne (by simp))
    exact fun G r code p l g1 g2 g3 => ((dt_uni hrv (by omega) hkk1 (by simp only [List.length_cons]; omega) h0 h8 hw (by omega) (by omega) (fun d hdm _ => hD (kind_in hw (refT_mem hr) (by simp) hdm)) (by omega)) G r code p l g1 g2 ⟨g3.1, by omega⟩).mono fun _ _ _ ⟨h6, w, b, q, h7, h8, h9, h10, h11, h12, h13⟩ => ⟨h6, w, b, q, h7, h8, by omega, h10, h11, h12, by omega⟩
   ·have h0 : 0 < fs.length := List.length_pos_iff.2 (hTW.ne (by simp))
    exact fun G r code p l g1 g2 g3 => ((dt_enm hrv (by omega) hkk1 (by simp only [List.length_cons]; omega) h0 h8 hw) G r code p l g1 g2 ⟨g3.1, by omega⟩).mono fun _ _ _ ⟨h6, w, b, q, h7, h8, h9, h10, h11, h12, h13⟩ => ⟨h6, w, b, q, h7, h8, by omega, h10, h11, h12, by omega⟩
end Go.E
namespace Go.E
set_option maxRecDepth 20000
set_option maxHeartbeats 2000000
open Go.Proofs
variable {G : Gh}
theorem c_l91Schema {r : Nat} {code : Value} {p : Int} {l : List UInt8} (hp : 0 ≤ p ∧ p ≤ 600000000000) (hs : SlV G code 1 l.length (u8s l)) :
  FnG Tryz.prog 69 [Pt r 0] G [rdO r code p tRdr] (fun v L' => ∃ x q, v = S x ∧ x.length ≤ 20000 ∧ L' = [rdO r code q tRdr] ∧ p ≤ q ∧ q ≤ p + 700) := by
 refine jH [(0, _)] Tryz.func69 Tryz.ntmps69 fun B hB hW => ?_
 repeat' (first | (refine run (t := tb) 400 rfl ?_ ?_; (focus (repeat' (first | exact trivial | apply And.intro | omega | (simp only [List.length_append, List.length_cons, List.length_nil, Int.toNat_natCast]; omega))))) | (refine k_op rfl ?_; first | refine c_bsl rfl rfl rfl rfl rfl rfl fun _ => ?_ | (refine jV (g_iaddr rfl rfl (by omega)) ?_) | (refine c_ldMS 64 rfl rfl rfl ?_ rfl (fun xs hxs => ?_); (focus ((simp only [List.length_append, List.length_cons, List.length_nil, List.length_take]; omega); done))) | (refine jV (g_pickT rfl rfl rfl) ?_) | (refine jV (g_pickF rfl rfl rfl) ?_) | (refine c_m1g rfl rfl rfl (c_l91Type ?_ (by (repeat (assumption)); done) ?_ ?_) rfl ?_; (focus ((omega); done)); (focus ((first | assumption | (simp; done)); done)); (focus ((simp; done); done)); rintro _ _ ⟨ty, q1, rfl, hty, hty1, rfl, hq1, hq2⟩; dsimp only [zA, fA]) | (refine c_m1g rfl rfl rfl (c_pick ?_ (by (repeat (assumption)); done)) rfl ?_; (focus ((first | omega | (simp; omega)); done)); rintro _ _ ⟨k, rfl, rfl, hk0, hk1⟩; dsimp only [zA, fA]) | (refine c_rt rfl rfl rfl (c_SchemaOkS ?_) rfl ?_; (focus ((simp; omega); done)))) | refine k_gb rfl rfl (fun _ => ?_) (fun _ => ?_) | (refine k_ff rfl rfl ?_) | refine k_if rfl (fun _ => ?_) (fun _ => ?_))
 all_goals (first | exact k_rr (vs := [_]) rfl ⟨rfl, trivial⟩ rfl (by repeat (first | exact List.nil_sublist _ | apply List.Sublist.cons_cons)) ⟨rfl, _, _, rfl, by (simp only [List.length_append, List.length_cons, List.length_nil, List.length_take, List.length_drop]; omega), rfl, by omega, by omega⟩ | skip)
 all_goals simp only [List.length_append, List.length_cons, List.length_nil] at hk1
 all_goals (refine k_any (s_any (id := 6) [] (fun _ h => absurd h (by simp)) mixed ?_); refine jU 7 [0, 1, 2, 4, 9, 10, 11, 12] (bts 15 7703) ?_ ?_; (focus (repeat' (first | exact trivial | apply And.intro | omega | (simp only [List.length_append, List.length_cons, List.length_nil, Int.toNat_natCast]; omega)))); refine x_all [3, 5] (by kernel_rfl) (by decide) ⟨?_, ?_, trivial⟩; (focus (refine x_opg rfl rfl ?_; (refine c_bsl rfl rfl rfl rfl rfl rfl fun _ => ?_); refine jK (bts 15 7711) ?_; refine jA 5 rfl ?_; ((refine c_m1g rfl rfl rfl (c_pick ?_ (by (repeat (assumption)); done)) rfl ?_; (focus ((omega); done)); rintro _ _ ⟨k, rfl, rfl, hk0, hk1⟩; dsimp only [zA, fA])); refine jK (bts 15 7743) ?_; ((refine jG (bts 15 7807) 6 rfl (g_iaddr rfl rfl ?_) ?_; (focus ((omega); done)))); refine jA 7 rfl ?_; ((refine c_ldMS 64 rfl rfl rfl ?_ rfl (fun xs hxs => ?_); (focus ((simp only [List.length_append, List.length_cons, List.length_nil, List.length_take]; omega); done)))); refine jK (bts 15 7935) ?_; refine jU 0 [8, 13, 14] (bts 15 32767) ?_ ?_; (focus (repeat' (first | exact trivial | apply And.intro | (simp only [List.length_append, List.length_cons, List.length_nil, List.length_take, List.length_drop]; omega)))); refine x_done (by kernel_rfl) (k_bk ?_))); rotate_left 1; (focus (refine x_opg rfl rfl ?_; ((refine c_m1g rfl rfl rfl (c_pick ?_ (by (repeat (assumption)); done)) rfl ?_; (focus ((omega); done)); rintro _ _ ⟨k, rfl, rfl, hk0, hk1⟩; dsimp only [zA, fA])); refine jK (bts 15 7735) ?_; refine jA 3 rfl ?_; (refine c_bsl rfl rfl rfl rfl rfl rfl fun _ => ?_); refine jK (bts 15 7743) ?_; ((refine jG (bts 15 7807) 6 rfl (g_iaddr rfl rfl ?_) ?_; (focus ((omega); done)))); refine jA 7 rfl ?_; ((refine c_ldMS 64 rfl rfl rfl ?_ rfl (fun xs hxs => ?_); (focus ((simp only [List.length_append, List.length_cons, List.length_nil, List.length_take]; omega); done)))); refine jK (bts 15 7935) ?_; refine jU 0 [8, 13, 14] (bts 15 32767) ?_ ?_; (focus (repeat' (first | exact trivial | apply And.intro | (simp only [List.length_append, List.length_cons, List.length_nil, List.length_take, List.length_drop]; omega)))); refine x_done (by kernel_rfl) (k_bk ?_))); rotate_left 1)
 all_goals repeat' (refine jR ?_)
 all_goals exact k_rr (vs := [_]) rfl ⟨rfl, trivial⟩ rfl (by repeat (first | exact List.nil_sublist _ | apply List.Sublist.cons_cons | apply List.Sublist.cons)) ⟨rfl, _, _, rfl, by (simp only [List.length_append, List.length_cons, List.length_nil, List.length_take, List.length_drop]; omega), rfl, by omega, by omega⟩
theorem c_l91Some {r : Nat} {code : Value} {p : Int} {l s : List UInt8} (hp : 0 ≤ p ∧ p ≤ 600000000000) (hs : SlV G code 1 l.length (u8s l)) (hsl : s.length ≤ 10000000) :
  FnG Tryz.prog 70 [Pt r 0, S s] G [rdO r code p tRdr] (fun v L' => ∃ x q, v = S x ∧ x.length ≤ 400 ∧ L' = [rdO r code q tRdr] ∧ p ≤ q ∧ q ≤ p + 20) := by
 have cx_lkg : ∀ {k : List UInt8} (G : Gh), k.length ≤ 1000 → FnS Tryz.prog 19 [S s, S k] G (fun v _ => ∃ u b, v = Tu [u, Bo b]) := fun {k} G h => (c_l3Kind (G := G) (s := s) (k := k) (by omega) (by omega)).mono fun v G' L' ⟨h1, h2, u, vs, h3, _⟩ => ⟨h1, h2, u, _, h3⟩
 refine jB (Post := fun v G' L' => G' = G ∧ _) [(0, _), (1, _)] Tryz.func70 Tryz.ntmps70 fun B hok hB hW => ?_
 repeat' (first | (refine jR ?_) | (refine k_op rfl ?_; first | refine c_bsl rfl rfl rfl rfl rfl rfl fun _ => ?_ | (refine jV (g_iaddr rfl rfl (by omega)) ?_) | (refine c_ldMS 64 rfl rfl rfl ?_ rfl (fun xs hxs => ?_); (focus ((simp only [List.length_append, List.length_cons, List.length_nil, List.length_take]; omega); done))) | (refine c_m1g rfl rfl rfl (c_pick ?_ (by (repeat (assumption)); done)) rfl ?_; (focus ((omega); done)); rintro _ _ ⟨k, rfl, rfl, hk0, hk1⟩; dsimp only [zA, fA]) | (refine c_m1g rfl rfl rfl (c_l91Kind ?_ (by (repeat (assumption)); done)) rfl ?_; (focus ((omega); done)); rintro _ _ ⟨kd, q1, rfl, hkd, rfl, hq1, hq2⟩; dsimp only [zA, fA]) | (refine c_fns rfl rfl rfl ((cx_lkg _) (by omega)) rfl ?_; rintro _ G hle ⟨u1, b1, rfl⟩; skip)) | refine k_if rfl (fun _ => ?_) (fun _ => ?_) | refine k_cd rfl (fun _ => ?_) (fun _ => ?_))
 all_goals refine Nx.base hok hB ?_
 all_goals exact k_rr (vs := [_]) rfl ⟨rfl, trivial⟩ rfl (by repeat (first | exact List.Sublist.refl _ | exact List.nil_sublist _ | apply List.Sublist.cons_cons)) ⟨rfl, _, _, rfl, by (first | omega | (simp only [List.length_append, List.length_cons, List.length_nil, List.length_take, List.length_drop]; omega)), rfl, by omega, by omega⟩
theorem c_l91Of {r : Nat} {code : Value} {p : Int} {l s k : List UInt8} (hp : 0 ≤ p ∧ p ≤ 500000000000) (hs : SlV G code 1 l.length (u8s l)) (hsl : s.length ≤ 10000000) (hkl : k.length ≤ 1000) :
  FnG Tryz.prog 71 [Pt r 0, S s, S k] G [rdO r code p tRdr] (fun v L' => ∃ x q, v = S x ∧ x.length ≤ 20000 ∧ L' = [rdO r code q tRdr] ∧ p ≤ q ∧ q ≤ p + 3000000) := by
 by_cases hk : kindS s k = true
 case neg =>
  have hk2 : kindS s k = false := by simpa using hk
  have cx_lk1 : ∀ G, FnS Tryz.prog 19 [S s, S k] G (fun v _ => ∃ u, v = Tu [u, Bo false]) := fun G => by
   refine (c_l3Kind (G := G) (s := s) (k := k) (by omega) (by omega)).mono ?_
   rintro v G' L' ⟨h1, h2, u, vs, rfl, _⟩
   exact ⟨h1, h2, u, by rw [hk2]⟩
  refine jB (Post := fun v G' L' => G' = G ∧ _) [(0, _), (1, _), (2, _)] Tryz.func71 Tryz.ntmps71 fun B hok hB hW => ?_
  repeat' (first | (refine jR ?_) | (refine k_op rfl ?_; (refine c_fns rfl rfl rfl (cx_lk1 _) rfl ?_; rintro _ G hle ⟨u1, rfl⟩; skip)) | (refine k_tt rfl rfl ?_))
  all_goals refine Nx.base hok hB ?_
  all_goals exact k_rr (vs := [_]) rfl ⟨rfl, trivial⟩ rfl sRr ⟨rfl, _, _, rfl, by (simp only [List.length_append, List.length_cons, List.length_nil, List.length_take, List.length_drop]; omega), rfl, by omega, by omega⟩
 obtain ⟨ts, hsc, hki, hw⟩ := kindS_some2 hk
 have cx_lka : ∀ G, FnS Tryz.prog 19 [S s, S k] G (fun v G' => ∃ a c vs, v = Tu [.slice a vs.length c, Bo true] ∧ SchR G' (.slice a vs.length c) vs ∧ tys vs = ts) := fun G => by
  refine (c_l3Kind (G := G) (s := s) (k := k) (by omega) (by omega)).mono ?_
  rintro v G' L' ⟨h1, h2, u, vs, rfl, h4, _, h6⟩
  obtain ⟨_, ⟨rfl, h0⟩ | ⟨b, o, cap, rfl, _, _⟩⟩ := h4.sl
  ·exact ⟨h1, h2, none, 0, vs, by rw [hk, h0], by rw [h0]; exact h4, h6 ts hsc hki⟩
  ·exact ⟨h1, h2, _, cap, vs, by rw [hk], h4, h6 ts hsc hki⟩
 refine jB (Post := fun v G' L' => G' = G ∧ _) [(0, _), (1, _), (2, _)] Tryz.func71 Tryz.ntmps71 fun B hok hB hW => ?_
 repeat' (first | (refine jR ?_) | (refine k_op rfl ?_; (refine c_fns rfl rfl rfl (cx_lka _) rfl ?_; rintro _ G hle ⟨av1, cv1, vs1, rfl, hR1, hT1⟩; skip)) | (refine k_ff rfl rfl ?_))
 subst hT1
 have hg0 := hle
 have hu1 := hR1.sl.one
 have cx_dv := fun {p : Int} (hp : 0 ≤ p ∧ p + cpk 4 ≤ 600000000000) => draw_all hw hu1 4 (k := k) (deep := 4) (by omega) (by omega) (by omega) hki G r code p l hR1 (hs.mono hle) hp
 have hc4 : cpk 4 = 453480 := by decide
 have ht4 : ctt 4 = 2200080 := by decide
 rw [hc4, ht4] at cx_dv
 repeat' ((refine k_op rfl ?_; (refine c_m1s rfl rfl rfl (cx_dv (by omega)) rfl ?_; rintro _ G1 _ hle ⟨w1, b1, q1, rfl, hrep, htot, hone, rfl, hq1, hq2⟩; dsimp only [zA, fA]; skip)))
 have hg1 := hle
 have hob := outR hw hrep
 unfold OutB at hob
 have cx_out := c_outS hw hrep (by omega)
 repeat' (first | (refine jR ?_) | (refine k_op rfl ?_; (refine c_rt rfl rfl rfl cx_out rfl ?_)))
 refine k_loop (ι := List UInt8 × Int × Int × Gh) (fun j => Gh.le G1 j.2.2.2 ∧ (0 ≤ j.2.1 ∧ j.2.1 ≤ 3) ∧ (1 ≤ j.1.length ∧ j.1.length ≤ 2 * ctt (j.2.1.toNat + 1)) ∧ p ≤ j.2.2.1 ∧ j.2.2.1 ≤ p + 500000 * (4 - j.2.1)) (fun j => [(0, Pt r 0), (2, S k), (7, .slice av1 vs1.length cv1), (9, S j.1), (10, I j.2.1)]) (fun j => j.2.2.2) (fun j => [rdO r code j.2.2.1 tRdr]) (fun j => j.2.1.toNat) (w1.out, 3, q1, G1) ?_ (by repeat' constructor) rfl sRr (fun j Hj => ?_)
 ·refine ⟨Gh.le.refl _, by dsimp only; omega, ⟨hone, ?_⟩, by dsimp only; omega, by dsimp only; omega⟩
  show w1.out.length ≤ 2 * ctt 4
  omega
 obtain ⟨t, d, q, Gq⟩ := j
 dsimp only at Hj ⊢
 obtain ⟨hgq, hd, ⟨ht1, ht2⟩, hq3, hq4⟩ := Hj
 have hs2 := hs.mono ((hg0.trans hg1).trans hgq)
 clear cx_dv cx_out hrep
 by_cases hgo : 150 < t.length ∧ 0 < d
 ·obtain ⟨hgo1, hgo2⟩ := hgo
  have hcm := cpk_le d.toNat (by omega)
  have cx_dv := fun {p : Int} (hp : 0 ≤ p ∧ p + 500000 ≤ 600000000000) => ((draw_all hw hu1 d.toNat (k := k) (deep := d) (by omega) (by omega) (by omega) hki).le hcm.2.1 (Nat.le_refl _)) Gq r code p l (hR1.mono (hg1.trans hgq)) hs2 hp
  repeat' (first | (refine jR ?_) | (refine k_op rfl ?_; first | (refine jV (g_pickT rfl rfl rfl) ?_) | (refine c_m1s rfl rfl rfl (cx_dv (by omega)) rfl ?_; rintro _ G1 _ hle ⟨w1, b1, q1, rfl, hrep, htot, hone, rfl, hq1, hq2⟩; dsimp only [zA, fA]; skip)) | (refine k_gt rfl rfl (dTt (by omega)) ?_) | (refine k_tt rfl (dTt ‹_›) ?_))
  have hob := outR hw hrep
  unfold OutB at hob
  have cx_out := c_outS hw hrep (by omega)
  have e : (d - 1).toNat + 1 = d.toNat := by omega
  repeat' (first | refine jM ?_ | (refine k_op rfl ?_; (refine c_rt rfl rfl rfl cx_out rfl ?_)))
  exact k_rd (w1.out, d - 1, q1, G1) ⟨hgq.trans hle, by dsimp only; omega, ⟨hone, by dsimp only; rw [e]; omega⟩, by dsimp only; omega, by dsimp only; omega⟩ (by dsimp only; omega) (by repeat' constructor) rfl sRr
 ·have hx : t.length ≤ 150 ∨ d ≤ 0 := by omega
  have hl : t.length ≤ 8480 := by
   rcases hx with hx | hx
   ·omega
   ·have e : d = 0 := by omega
    subst e
    have : ctt (Int.toNat 0 + 1) = 4240 := by decide
    omega
  repeat' (first | (refine jR ?_) | (refine k_op rfl ?_; first | (refine jV (g_pickT rfl rfl rfl) ?_) | (refine jV (g_pickF rfl rfl rfl) ?_) | (refine c_m1g rfl rfl rfl (c_pick ?_ (by (repeat (assumption)); done)) rfl ?_; (focus ((omega); done)); rintro _ _ ⟨k, rfl, rfl, hk0, hk1⟩; dsimp only [zA, fA])) | refine k_g rfl rfl (fun _ => ?_) (fun _ => ?_) | (refine k_ff rfl (by first | rfl | (refine decide_eq_false ?_; (omega))) ?_) | refine k_if rfl (fun _ => ?_) (fun _ => ?_))
  all_goals refine Nx.base hok hB ?_
  all_goals (first | exact k_rr (vs := [_]) rfl ⟨rfl, trivial⟩ rfl sRr ⟨rfl, _, _, rfl, by (omega), rfl, by omega, by omega⟩ | skip)
  all_goals (refine k_any (s_any (id := 11) [] (fun _ h => absurd h (by simp)) mixed ?_); refine jU 7 [0, 1, 2, 4, 9, 10, 11, 12] (bts 15 7703) ?_ ?_; (focus (repeat' (first | exact trivial | apply And.intro | omega))); refine x_all [3, 5] (by kernel_rfl) (by decide) ⟨?_, ?_, trivial⟩; (focus (refine x_opg rfl rfl ?_; (refine c_bsl rfl rfl rfl rfl rfl rfl fun _ => ?_); refine jK (bts 15 7711) ?_; refine jA 5 rfl ?_; ((refine c_m1g rfl rfl rfl (c_pick ?_ (by (repeat (assumption)); done)) rfl ?_; (focus ((omega); done)); rintro _ _ ⟨k, rfl, rfl, hk0, hk1⟩; dsimp only [zA, fA])); refine jK (bts 15 7743) ?_; ((refine jG (bts 15 7807) 6 rfl (g_iaddr rfl rfl ?_) ?_; (focus ((omega); done)))); refine jA 7 rfl ?_; ((refine c_ldMS 64 rfl rfl rfl ?_ rfl (fun xs hxs => ?_); (focus ((simp only [List.length_append, List.length_cons, List.length_nil, List.length_take]; omega); done)))); refine jK (bts 15 7935) ?_; refine jU 0 [8, 13, 14] (bts 15 32767) ?_ ?_; (focus (repeat' (first | exact trivial | apply And.intro | (simp only [List.length_append, List.length_cons, List.length_nil, List.length_take, List.length_drop]; omega)))); refine x_done (by kernel_rfl) (k_bk ?_))); rotate_left 1; (focus (refine x_opg rfl rfl ?_; ((refine c_m1g rfl rfl rfl (c_pick ?_ (by (repeat (assumption)); done)) rfl ?_; (focus ((omega); done)); rintro _ _ ⟨k, rfl, rfl, hk0, hk1⟩; dsimp only [zA, fA])); refine jK (bts 15 7735) ?_; refine jA 3 rfl ?_; (refine c_bsl rfl rfl rfl rfl rfl rfl fun _ => ?_); refine jK (bts 15 7743) ?_; ((refine jG (bts 15 7807) 6 rfl (g_iaddr rfl rfl ?_) ?_; (focus ((omega); done)))); refine jA 7 rfl ?_; ((refine c_ldMS 64 rfl rfl rfl ?_ rfl (fun xs hxs => ?_); (focus ((simp only [List.length_append, List.length_cons, List.length_nil, List.length_take]; omega); done)))); refine jK (bts 15 7935) ?_; refine jU 0 [8, 13, 14] (bts 15 32767) ?_ ?_; (focus (repeat' (first | exact trivial | apply And.intro | (simp only [List.length_append, List.length_cons, List.length_nil, List.length_take, List.length_drop]; omega)))); refine x_done (by kernel_rfl) (k_bk ?_))); rotate_left 1)
  all_goals repeat' (refine jR ?_)
  all_goals exact k_rr (vs := [_]) rfl ⟨rfl, trivial⟩ rfl (by repeat (first | exact List.Sublist.refl _ | exact List.nil_sublist _ | apply List.Sublist.cons_cons | apply List.Sublist.cons)) ⟨rfl, _, _, rfl, by (simp only [List.length_append, List.length_cons, List.length_nil, List.length_take, List.length_drop]; omega), rfl, by omega, by omega⟩
theorem c_l91Three {r : Nat} {code : Value} {p : Int} {l : List UInt8} (hp : 0 ≤ p ∧ p ≤ 400000000000) (hs : SlV G code 1 l.length (u8s l)) :
  FnG Tryz.prog 28 [Pt r 0] G [rdO r code p tRdr] (fun v L' => ∃ s k x q, v = Tu [S s, S k, S x] ∧ (s.length ≤ 20000 ∧ k.length ≤ 400 ∧ x.length ≤ 20000) ∧ L' = [rdO r code q tRdr] ∧ p ≤ q ∧ q ≤ p + 4000000) := by
 refine jH [(0, _)] Tryz.func28 Tryz.ntmps28 fun B hB hW => ?_
 repeat' (first | (refine jR ?_) | (refine k_op rfl ?_; first | (refine c_m1g rfl rfl rfl (c_l91Schema ?_ (by (repeat (assumption)); done)) rfl ?_; (focus ((omega); done)); rintro _ _ ⟨sc, q1, rfl, hsc, rfl, hq1, hq2⟩; dsimp only [zA, fA]) | (refine c_m1g rfl rfl rfl (c_l91Some ?_ (by (repeat (assumption)); done) ?_) rfl ?_; (focus ((omega); done)); (focus ((omega); done)); rintro _ _ ⟨kd, q1, rfl, hkd, rfl, hq1, hq2⟩; dsimp only [zA, fA]) | (refine c_m1g rfl rfl rfl (c_l91Of ?_ (by (repeat (assumption)); done) ?_ ?_) rfl ?_; (focus ((omega); done)); (focus ((omega); done)); (focus ((omega); done)); rintro _ _ ⟨tx, q1, rfl, htx, rfl, hq1, hq2⟩; dsimp only [zA, fA])))
 exact k_rr (vs := [_, _, _]) rfl ⟨rfl, rfl, rfl, trivial⟩ rfl sRr ⟨rfl, _, _, _, _, rfl, ⟨by omega, by omega, by omega⟩, rfl, by omega, by omega⟩
def leavesV (s k w : List UInt8) : Option (List (List UInt8)) := match givenV s k w with
 | some u => if (u.leaves.all fun r => decide (r.length ≤ 8)) = true then some (lvT [] u) else none
 | none => none
theorem leaves_deep : ∀ (n : Nat) (v : V), v.tot ≤ n → ∀ r ∈ v.leaves, r.length ≤ n
 | 0, v, h, _, _ => by have := tot_pos v; omega
 | n + 1, .nd w x t ks, h, r, hr => by
  rw [nd_tot] at h
  rw [V.leaves] at hr
  split at hr
  ·simp only [List.mem_singleton] at hr; subst hr; simp
  ·split at hr
   ·have : ∀ (ks : List V), V.tots ks ≤ n → r ∈ V.leavesF ks → r.length ≤ n := fun ks => by
     induction ks with
     | nil => intro _ hr; rw [V.leavesF] at hr; cases hr
     | cons v ks ih =>
      intro ht hr
      rw [V.tots] at ht
      rw [V.leavesF] at hr
      rcases List.mem_append.1 hr with hr | hr
      ·exact leaves_deep n v (by omega) r hr
      ·exact ih (by omega) hr
    have := this ks (by omega) hr
    omega
   ·obtain ⟨j, q, h1, rfl, h3⟩ := leavesS_mem hr
    have := tot_nth h1
    have := leaves_deep n (nth ks j) (by omega) q h3
    simp only [List.length_cons]; omega
theorem lvT_nth {u : V} {i : Nat} (h : i < u.leaves.length) : nth (lvT [] u) i = pathText (nth u.leaves i) := by
 unfold lvT
 rw [nth_eq (by simpa using h), nth_eq h]; simp
theorem c_PathLeavesS {s k w : List UInt8} (h : s.length ≤ 1048576 ∧ k.length ≤ 1048576 ∧ w.length ≤ 1048576) : FnS Tryz.prog 78 [S s, S k, S w] G (fun v G' => ∃ a c ls, v = Tu [.slice a ls.length c, Bo (leavesV s k w).isSome] ∧ SlV G' (.slice a ls.length c) 1 ls.length (rows strF ls) ∧ (∀ l, leavesV s k w = some l → ls = l) ∧ (leavesV s k w = none → ls = [])) := by
 unfold leavesV
 cases hg : givenV s k w with
 | none =>
  have cx_l40 := c_l4Of0 (G := G) h hg
  refine jB [(0, _), (1, _), (2, _)] Tryz.func78 Tryz.ntmps78 fun B hok hB hW => ?_
  repeat' (first | (refine jR ?_) | (refine k_op rfl ?_; first | refine c_bsl rfl rfl rfl rfl rfl rfl fun _ => ?_ | (refine c_fns rfl rfl rfl cx_l40 rfl ?_; rintro _ G hle ⟨uu, q1, rfl⟩; skip)) | (refine k_tt rfl rfl ?_))
  rename_i x
  refine Nx.blkAcc (m := 0) (sz := 1) .here rfl ?_
  refine Nx.sealS (v := .slice (some ⟨x, 0, none⟩) 0 0) fun G2 hG2 hsl => ?_
  refine jZ (vs := [_, _]) rfl ⟨rfl, rfl, trivial⟩ rfl ⟨(Gh.le.trans (by assumption) hG2), rfl, ?_⟩
  exact ⟨_, _, [], rfl, hsl, fun l h => (by cases h), fun _ => rfl⟩
 | some u =>
  obtain ⟨ts, hs, hki, hvo, hto, hwf⟩ := given_some hg
  have hw := schemaOf_w hs
  have cx_l4x := c_l4OfX (G := G) (s := s) (k := k) (w := w) h hs hki hvo
  have hok := leaves_ok hw (valOf_of_k hvo)
  have hdp := leaves_deep u.tot u (Nat.le_refl _)
  have hll : (lvT [] u).length = u.size := lvT_len
  have hl2 : u.leaves.length = u.size := (size_leaves u).symm
  have hsz := size_totL u
  dsimp only
  refine jB [(0, _), (1, _), (2, _)] Tryz.func78 Tryz.ntmps78 fun B hok hB hW => ?_
  repeat' (first | (refine jR ?_) | (refine k_op rfl ?_; first | refine c_bsl rfl rfl rfl rfl rfl rfl fun _ => ?_ | (refine c_fns rfl rfl rfl cx_l4x rfl ?_; rintro _ G hle ⟨av1, cv1, vs1, b1, rfl, hR1, hT1, hrep⟩; skip)) | (refine k_ff rfl rfl ?_))
  rename_i y
  subst hT1
  refine Nx.blkAcc (m := 0) (sz := 1) .here rfl ?_
  have cx_lv := c_leavesS hw hrep [] (some ⟨y, 0, none⟩) 0 0 [] rfl (by omega) (by simp) (by simp only [List.length_nil]; omega)
  repeat' (first | (refine jR ?_) | (refine k_op rfl ?_; (refine c_accg rfl rfl rfl cx_lv rfl ?_; rintro _ _ ⟨av, cv, rfl, rfl⟩; dsimp only [zA, fA])))
  rw [Nat.zero_add]
  have hle0 := hle
  refine Nx.sealS (v := .slice av u.size cv) fun G2 hG2 hsl => ?_
  have hok8 : ∀ i, i < u.leaves.length → pathOf (nth (lvT [] u) i) = if (nth u.leaves i).length ≤ 8 then some (nth u.leaves i) else none := fun i hi => by
   rw [lvT_nth hi]; exact pathOf_in (hok _ (nth_mem hi)).1
  have hxl : ∀ i, i < u.leaves.length → (nth (lvT [] u) i).length ≤ 1048576 := fun i hi => by
   rw [lvT_nth hi]
   have h1 := pathText_len (hok _ (nth_mem hi)).1
   have h2 := hdp _ (nth_mem hi)
   omega
  have hall : (∀ i, i < u.leaves.length → (nth u.leaves i).length ≤ 8) → (u.leaves.all fun r => decide (r.length ≤ 8)) = true := fun h => by
   rw [List.all_eq_true]
   intro r hr
   obtain ⟨i, hi, rfl⟩ := List.mem_iff_getElem.1 hr
   have := h i hi
   rw [nth_eq hi] at this
   exact decide_eq_true this
  have hex : ∀ i, i < u.leaves.length → ¬ (nth u.leaves i).length ≤ 8 → (u.leaves.all fun r => decide (r.length ≤ 8)) = false := fun i hi h => by
   cases hb : u.leaves.all fun r => decide (r.length ≤ 8) with
   | false => rfl
   | true =>
    rw [List.all_eq_true] at hb
    exact absurd (of_decide_eq_true (hb _ (nth_mem hi))) h
  clear cx_lv hok hdp
  generalize lvT [] u = xs at *
  generalize u.leaves = ls at *
  obtain ⟨obv, hob⟩ : ∃ b, (ls.all fun r => decide (r.length ≤ 8)) = b := ⟨_, rfl⟩
  rw [hob]
  rw [hob] at hall
  rw [← hll] at hsl ⊢
  refine k_loop (ι := Nat × Gh) (fun i => (i.1 ≤ xs.length ∧ ∀ j, j < i.1 → (nth ls j).length ≤ 8) ∧ Gh.le G i.2 ∧ SlV i.2 (.slice av xs.length cv) 1 xs.length (rows strF xs)) (fun i => [(11, .slice av xs.length cv), (12, I i.1)]) (fun i => i.2) (fun i => []) (fun i => xs.length - i.1) (0, G2) ?_ (by repeat' constructor) rfl sRr (fun i Hi => ?_)
  ·exact ⟨⟨Nat.zero_le _, fun j hj => absurd hj (Nat.not_lt_zero _)⟩, hG2, hsl⟩
  obtain ⟨i, Gq⟩ := i
  dsimp only at Hi ⊢
  obtain ⟨⟨hi0, hj8⟩, hgq, hsq⟩ := Hi
  by_cases hi : i < xs.length
  ·obtain ⟨xb, xo, xc, e, hsx⟩ := hsq.expl (by omega)
   simp only [Value.slice.injEq] at e
   obtain ⟨rfl, -, rfl⟩ := e
   have hxi : nth xs i = nth xs i := rfl
   have hpo := hok8 i (by omega)
   by_cases h8 : (nth ls i).length ≤ 8
   ·rw [if_pos h8] at hpo
    have cx_sp := steps_yes (hxl i (by omega)) hpo
    repeat' (first | refine jM ?_ | (refine k_op rfl ?_; first | refine jV (g_lenL rfl) ?_ | (refine jV (g_iaddrN rfl rfl (by omega)) ?_) | (refine jV (g_ldRS rfl rfl (by assumption) ?_) ?_; (focus ((omega); done))) | (refine c_fns rfl rfl rfl (cx_sp _) rfl ?_; rintro _ G hle ⟨sa, sc, sn, rfl, hsp⟩; skip)) | (refine k_tt rfl (dTt (by omega)) ?_) | (refine k_ff rfl rfl ?_))
    exact k_rd (i + 1, _) ⟨⟨by dsimp only; omega, fun j hj => by
     rcases Nat.lt_or_ge j i with h | h
     ·exact hj8 j h
     ·obtain rfl : j = i := by dsimp only at hj; omega
      exact h8⟩, Gh.le.trans hgq (by assumption), hsq.mono (by assumption)⟩ (by dsimp only; omega) (by repeat' constructor) rfl sRr
   ·rw [if_neg h8] at hpo
    have cx_sp := steps_no (hxl i (by omega)) hpo
    obtain rfl : obv = false := by rw [← hob]; exact hex i (by omega) h8
    repeat' (first | (refine jR ?_) | (refine k_op rfl ?_; first | refine c_bsl rfl rfl rfl rfl rfl rfl fun _ => ?_ | refine jV (g_lenL rfl) ?_ | (refine jV (g_iaddrN rfl rfl (by omega)) ?_) | (refine jV (g_ldRS rfl rfl (by assumption) ?_) ?_; (focus ((omega); done))) | (refine c_fns rfl rfl rfl (cx_sp _) rfl ?_; rintro _ G hle ⟨sa, sc, sn, rfl, hsp⟩; skip)) | (refine k_tt rfl (by first | rfl | (refine decide_eq_true ?_; (omega))) ?_))
    rename_i z
    refine Nx.blkAcc (m := 0) (sz := 1) .here rfl ?_
    refine Nx.sealS (v := .slice (some ⟨z, 0, none⟩) 0 0) fun G3 hG3 hsl3 => ?_
    refine jZ (vs := [_, _]) rfl ⟨rfl, rfl, trivial⟩ rfl ⟨(hle0.trans (hgq.trans (hle.trans hG3))), rfl, ?_⟩
    exact ⟨_, _, [], rfl, hsl3, fun l h => (by cases h), fun _ => rfl⟩
  ·obtain rfl : i = xs.length := by omega
   obtain rfl : obv = true := hall fun j hj => hj8 j (by omega)
   repeat' (first | (refine jR ?_) | (refine k_op rfl ?_; (refine jV (g_lenL rfl) ?_)) | (refine k_ff rfl (dFf (by omega)) ?_))
   refine jZ (vs := [_, _]) rfl ⟨rfl, rfl, trivial⟩ rfl ⟨(hle0.trans hgq), rfl, ?_⟩
   exact ⟨_, _, xs, rfl, hsq, fun l h => by simpa using h, fun h => (by cases h)⟩
end Go.E
namespace Go.E
set_option maxRecDepth 20000
set_option maxHeartbeats 2000000
def keyW (w : Nat) (x : List UInt8) (t : Int) (js : List (List UInt8)) : List UInt8 :=
 if w = 110 then [u8 ((numOf x 999999).getD 0 / 65536), u8 ((numOf x 999999).getD 0 / 256), u8 ((numOf x 999999).getD 0)] else if w = 116 then x ++ [0] else if w = 102 then (if x = [121, 101, 115] then [1] else [0]) else if w = 69 then [u8 t]
 else if w = 63 ∧ js = [] then [0] else if w = 85 ∨ w = 61 then u8 t :: js.flatten else if w = 63 then (js.map (1 :: ·)).flatten else (js.map (1 :: ·)).flatten ++ [0]
mutual
def V.key : V → List UInt8
 | .nd w x t ks => keyW w x t (V.keys ks)
def V.keys : List V → List (List UInt8)
 | [] => []
 | v :: r => V.key v :: V.keys r
end
end Go.E
namespace Go.E
set_option maxRecDepth 20000
set_option maxHeartbeats 2000000
open Go.Proofs
theorem pgv_some {s k w p k1 x1 : List UInt8} (h : pathGetV s k w p = some (k1, x1)) : ∃ ts u q v1, schemaOf s = some ts ∧ givenV s k w = some u ∧ pathOf p = some q ∧ followV ts k u q = some (k1, v1) ∧ x1 = v1.out := by
 unfold pathGetV at h
 split at h
 ·rename_i ts u q h1 h2 h3
  cases hf : followV ts k u q with
  | none => rw [hf] at h; cases h
  | some y =>
   rw [hf] at h
   obtain ⟨k', v'⟩ := y
   simp only [Option.map_some, Option.some.injEq, Prod.mk.injEq] at h
   obtain ⟨rfl, rfl⟩ := h
   exact ⟨ts, u, q, v', h1, h2, h3, hf, rfl⟩
 ·cases h
theorem pgv_in {s k w p k1 : List UInt8} {ts : List Ty} {u v1 : V} {q : List Int} (h1 : schemaOf s = some ts) (h2 : givenV s k w = some u) (h3 : pathOf p = some q) (h4 : followV ts k u q = some (k1, v1)) : pathGetV s k w p = some (k1, v1.out) := by
 unfold pathGetV
 rw [h1, h2, h3]
 dsimp only
 rw [h4]; rfl
theorem given_in {s k w : List UInt8} {ts : List Ty} {u : V} (h1 : schemaOf s = some ts) (h2 : kindIn ts k = true) (h3 : valOf ts k w = some u) : givenV s k w = some u := by
 unfold givenV
 rw [h1]
 dsimp only
 rw [if_pos h2, h3]
theorem path_two {s k w p k1 x1 a b : List UInt8} (h : pathGetV s k w p = some (k1, x1)) (hp : p ≠ []) (hc : (a, b) = ((cut1 47 p).1, (cut1 47 p).2.1)) : ∃ m v, pathGetV s k w a = some (m, v) ∧ pathGetV s m v b = some (k1, x1) := by
 obtain ⟨ts, u, q, v1, h1, h2, h3, h4, rfl⟩ := pgv_some h
 obtain ⟨ts', g1, g2, g3, g4, g5⟩ := given_some h2
 obtain rfl : ts = ts' := Option.some.inj (h1.symm.trans g1)
 have hw := schemaOf_w h1
 have ho := valOf_of_k g3
 obtain ⟨a1, a2, a3⟩ := valOf_out g3
 obtain ⟨b1, b2, b3, b4⟩ := pathOf_text h3
 simp only [Prod.mk.injEq] at hc
 obtain ⟨rfl, rfl⟩ := hc
 cases q with
 | nil => exact absurd (b4.2 rfl) hp
 | cons n q =>
  have hn := b3 n (by simp)
  have hq : ∀ m ∈ q, 0 ≤ m ∧ m ≤ 999999 := fun m hm => b3 m (by simp [hm])
  have hcut : cut1 47 p = (decI n, pathText q, !q.isEmpty) := by
   rw [b1]
   cases q with
   | nil => exact cut1_noB (decI_no47 hn.1)
   | cons m q => rw [pathText_cons (by simp)]; exact cut1_app (decI_no47 hn.1) rfl
  rw [hcut]
  dsimp only
  unfold followV at h4
  cases hs : stepV ts k u n with
  | none => rw [hs] at h4; cases h4
  | some y =>
   rw [hs] at h4
   obtain ⟨k2, v2⟩ := y
   dsimp only at h4
   obtain ⟨c1, c2⟩ := stepV_ok hw ho g2 hn.1 hs
   obtain ⟨d1, d2⟩ := stepV_fits hw ho g2 hn.1 hs a3 (by rw [a1]; exact a2)
   have p1 : pathOf (decI n) = some [n] := by
    have := pathOf_in (q := [n]) (by simpa using hn)
    rw [if_pos (by simp)] at this; exact this
   have p2 : pathOf (pathText q) = some q := by
    have := pathOf_in hq
    rw [if_pos (by simp at b2; omega)] at this; exact this
   refine ⟨k2, v2.out, pgv_in h1 h2 p1 (by rw [followV_cons hs]; rfl), ?_⟩
   exact pgv_in h1 (given_in h1 c2 (valOf_in hw c1 d2 d1)) p2 h4
end Go.E
namespace Go.E
set_option maxRecDepth 20000
set_option maxHeartbeats 2000000
open Go.Proofs
variable {G : Gh}
theorem leavesV_len {s k w : List UInt8} {ls : List (List UInt8)} (h : leavesV s k w = some ls) : ∀ i, i < ls.length → (nth ls i).length ≤ 56 := fun i hi => by
 unfold leavesV at h
 cases hg : givenV s k w with
 | none => rw [hg] at h; cases h
 | some u =>
  rw [hg] at h
  dsimp only at h
  split at h
  ·rename_i hall
   simp only [Option.some.injEq] at h
   subst h
   obtain ⟨ts, hs, hki, hvo, hto, hwf⟩ := given_some hg
   have hok := leaves_ok (schemaOf_w hs) (valOf_of_k hvo)
   have hi2 : i < u.leaves.length := by simpa [lvT] using hi
   rw [lvT_nth hi2]
   have h1 := pathText_len (hok _ (nth_mem hi2)).1
   rw [List.all_eq_true] at hall
   have h2 := of_decide_eq_true (hall _ (nth_mem hi2))
   omega
  ·cases h
theorem cut_ne {k : Nat} {s : List UInt8} : 1 ≤ (cut k s).length := by
 rw [cut_cut1]
 split <;> simp
theorem leavesV_cnt {s k w : List UInt8} {ls : List (List UInt8)} (h : leavesV s k w = some ls) : ls.length ≤ 40000 := by
 unfold leavesV at h
 cases hg : givenV s k w with
 | none => rw [hg] at h; cases h
 | some u =>
  rw [hg] at h
  dsimp only at h
  split at h
  ·simp only [Option.some.injEq] at h
   subst h
   obtain ⟨ts, hs, hki, hvo, hto, hwf⟩ := given_some hg
   have := size_totL u
   rw [lvT_len]; omega
  ·cases h
theorem c_l91Path {r : Nat} {code : Value} {p : Int} {l s k w : List UInt8} (hp : 0 ≤ p ∧ p ≤ 500000000000) (hs : SlV G code 1 l.length (u8s l)) (hsz : s.length ≤ 1048576 ∧ k.length ≤ 1048576 ∧ w.length ≤ 1048576) :
  FnG Tryz.prog 34 [Pt r 0, S s, S k, S w] G [rdO r code p tRdr] (fun v L' => ∃ x q, v = S x ∧ x.length ≤ 400 ∧ L' = [rdO r code q tRdr] ∧ p ≤ q ∧ q ≤ p + 20) := by
 cases hl : leavesV s k w with
 | none =>
  have cx_pls : FnS Tryz.prog 78 [S s, S k, S w] G (fun v _ => ∃ a n c, v = Tu [.slice a n c, Bo false]) := (c_PathLeavesS hsz).mono fun v G' L' ⟨h1, h2, a, c, ls, h3, _⟩ => ⟨h1, h2, a, ls.length, c, by rw [h3, hl]; rfl⟩
  refine jB (Post := fun v G' L' => G' = G ∧ _) [(0, _), (1, _), (2, _), (3, _)] Tryz.func34 Tryz.ntmps34 fun B hok hB hW => ?_
  repeat' (first | (refine jR ?_) | (refine k_op rfl ?_; first | (refine jV (g_pickT rfl rfl rfl) ?_) | refine c_bsl rfl rfl rfl rfl rfl rfl fun _ => ?_ | (refine jV (g_iaddr rfl rfl (by omega)) ?_) | (refine c_ldMS 64 rfl rfl rfl ?_ rfl (fun xs hxs => ?_); (focus ((simp only [List.length_append, List.length_cons, List.length_nil, List.length_take]; omega); done))) | (refine c_fns rfl rfl rfl cx_pls rfl ?_; rintro _ G hle ⟨pa1, pn1, pc1, rfl⟩; skip) | (refine c_m1g rfl rfl rfl (c_pick ?_ (by (repeat (first | assumption | refine SlV.mono ?_ (by assumption))); done)) rfl ?_; (focus ((omega); done)); rintro _ _ ⟨k, rfl, rfl, hk0, hk1⟩; dsimp only [zA, fA])) | (refine k_gt rfl rfl rfl ?_) | (refine k_tt rfl rfl ?_))
  all_goals refine Nx.base hok hB ?_
  all_goals exact k_rr (vs := [_]) rfl ⟨rfl, trivial⟩ rfl (by repeat (first | exact List.nil_sublist _ | apply List.Sublist.cons_cons)) ⟨rfl, _, _, rfl, by (omega), rfl, by omega, by omega⟩
 | some ls =>
  have hlen := leavesV_len hl
  have hcnt := leavesV_cnt hl
  by_cases hne : ls.length = 0
  ·have cx_plt : FnS Tryz.prog 78 [S s, S k, S w] G (fun v _ => ∃ a n c, v = Tu [.slice a 0 c, Bo true] ∧ n = 0) := (c_PathLeavesS hsz).mono fun v G' L' ⟨h1, h2, a, c, ls', h3, h4, h5, _⟩ => by
    obtain rfl := h5 ls hl
    exact ⟨h1, h2, a, 0, c, by rw [h3, hl]; exact congrArg (fun n => Tu [.slice a n c, Bo true]) hne, rfl⟩
   refine jB (Post := fun v G' L' => G' = G ∧ _) [(0, _), (1, _), (2, _), (3, _)] Tryz.func34 Tryz.ntmps34 fun B hok hB hW => ?_
   repeat' (first | (refine jR ?_) | (refine k_op rfl ?_; first | refine jV (g_lenL rfl) ?_ | (refine jV (g_pickT rfl rfl rfl) ?_) | (refine jV (g_pickF rfl rfl rfl) ?_) | refine c_bsl rfl rfl rfl rfl rfl rfl fun _ => ?_ | (refine jV (g_iaddr rfl rfl (by omega)) ?_) | (refine c_ldMS 64 rfl rfl rfl ?_ rfl (fun xs hxs => ?_); (focus ((simp only [List.length_append, List.length_cons, List.length_nil, List.length_take]; omega); done))) | (refine c_fns rfl rfl rfl cx_plt rfl ?_; rintro _ G hle ⟨pa1, pn1, pc1, rfl, _⟩; skip) | (refine c_m1g rfl rfl rfl (c_pick ?_ (by (repeat (first | assumption | refine SlV.mono ?_ (by assumption))); done)) rfl ?_; (focus ((omega); done)); rintro _ _ ⟨k, rfl, rfl, hk0, hk1⟩; dsimp only [zA, fA])) | (refine k_gt rfl rfl rfl ?_) | (refine k_gf rfl rfl rfl ?_) | (refine k_tt rfl rfl ?_))
   all_goals refine Nx.base hok hB ?_
   all_goals exact k_rr (vs := [_]) rfl ⟨rfl, trivial⟩ rfl (by repeat (first | exact List.nil_sublist _ | apply List.Sublist.cons_cons)) ⟨rfl, _, _, rfl, by (omega), rfl, by omega, by omega⟩
  ·have cx_plu : FnS Tryz.prog 78 [S s, S k, S w] G (fun v G' => ∃ b o c, v = Tu [.slice (some ⟨b, o, none⟩) ls.length c, Bo true] ∧ Seg G' b o (rows strF ls)) := (c_PathLeavesS hsz).mono fun v G' L' ⟨h1, h2, a, c, ls', h3, h4, h5, _⟩ => by
    obtain rfl := h5 ls hl
    obtain ⟨b, o, c', e, hs⟩ := h4.expl (by omega)
    simp only [Value.slice.injEq] at e
    obtain ⟨rfl, -, rfl⟩ := e
    exact ⟨h1, h2, b, o, c, by rw [h3, hl]; rfl, hs⟩
   have hcl : ∀ i, i < ls.length → (nth (cut 47 (nth ls i)) 0).length ≤ 56 := fun i hi => by
    have h1 := hlen i hi
    have h2 := cut_ne (k := 47) (s := nth ls i)
    have h3 := cut_len (nth_mem (show 0 < (cut 47 (nth ls i)).length by omega))
    omega
   have cx_cutg : ∀ {G : Gh} (i : Nat), i < ls.length → FnS Tryz.prog 79 [S (nth ls i), U8 47] G (fun v G' => ∃ b o c, v = .slice (some ⟨b, o, none⟩) (cut 47 (nth ls i)).length c ∧ 1 ≤ (cut 47 (nth ls i)).length ∧ Seg G' b o (rows strF (cut 47 (nth ls i)))) := fun {G} i hi => (c_l3CutS (G := G) (k := 47) (by have := hlen i hi; omega)).mono fun v G' L' ⟨h1, h2, h3⟩ => by
    have h5 := cut_ne (k := 47) (s := nth ls i)
    obtain ⟨la, lc, rfl⟩ := h3.sl
    obtain ⟨b, o, c, e, hsg⟩ := h3.expl (by omega)
    exact ⟨h1, h2, b, o, c, e, h5, hsg⟩
   clear hl
   refine jB (Post := fun v G' L' => G' = G ∧ _) [(0, _), (1, _), (2, _), (3, _)] Tryz.func34 Tryz.ntmps34 fun B hok hB hW => ?_
   repeat' (first | (refine jR ?_) | (refine k_op rfl ?_; first | refine jV (g_lenL rfl) ?_ | (refine jV (g_pickF rfl rfl rfl) ?_) | refine c_bsl rfl rfl rfl rfl rfl rfl fun _ => ?_ | (refine jV (g_iaddr rfl rfl (by omega)) ?_) | (refine c_ldMS 64 rfl rfl rfl ?_ rfl (fun xs hxs => ?_); (focus ((simp only [List.length_append, List.length_cons, List.length_nil, List.length_take]; omega); done))) | (refine jV (g_ldRS rfl rfl (by assumption) ?_) ?_; (focus ((omega); done))) | (refine c_fns rfl rfl rfl cx_plu rfl ?_; rintro _ G hle ⟨pb1, po1, pc1, rfl, hlvs⟩; skip) | (refine c_m1g rfl rfl rfl (c_pick ?_ (by (repeat (first | assumption | refine SlV.mono ?_ (by assumption))); done)) rfl ?_; (focus ((omega); done)); rintro _ _ ⟨k, rfl, rfl, hk0, hk1⟩; dsimp only [zA, fA]) | (refine c_fns rfl rfl rfl ((cx_cutg _) (by omega)) rfl ?_; rintro _ G hle ⟨b1, o1, cap1, rfl, hcc, hseg⟩; skip)) | (refine k_gf rfl rfl (by first | rfl | (refine decide_eq_false ?_; (omega))) ?_) | refine k_if rfl (fun _ => ?_) (fun _ => ?_))
   all_goals (first | (refine Nx.base hok hB ?_; exact k_rr (vs := [_]) rfl ⟨rfl, trivial⟩ rfl (by repeat (first | exact List.Sublist.refl _ | exact List.nil_sublist _ | apply List.Sublist.cons_cons)) ⟨rfl, _, _, rfl, by (omega), rfl, by omega, by omega⟩) | skip)
   all_goals refine Nx.base hok hB ?_
   ·exact k_rr (vs := [_]) rfl ⟨rfl, trivial⟩ rfl sRr ⟨rfl, _, _, rfl, Nat.le_trans (hcl _ (by omega)) (by decide), rfl, by omega, by omega⟩
   ·exact k_rr (vs := [_]) rfl ⟨rfl, trivial⟩ rfl sRr ⟨rfl, _, _, rfl, Nat.le_trans (hlen _ (by omega)) (by decide), rfl, by omega, by omega⟩
abbrev tIntQ : TypeId := 3
theorem c_readPath {s : List UInt8} (h : s.length ≤ 1048576) : FnS Tryz.prog 35 [S s] G (StepsP s) := by
 by_cases h0 : s = []
 ·subst h0
  refine jB [(0, _)] Tryz.func35 Tryz.ntmps35 fun B hok hB hW => ?_
  repeat' (first | (refine jR ?_) | (refine k_tt rfl rfl ?_))
  refine jZ (vs := [_, _]) rfl ⟨rfl, rfl, trivial⟩ rfl ⟨Gh.le.refl _, rfl, ?_⟩
  exact ⟨_, _, _, rfl, fun p hp => by
   obtain rfl : p = [] := by unfold pathOf at hp; simpa using hp.symm
   exact ⟨rfl, SlV.nil0⟩⟩
 have cx_split : FnS Tryz.prog 80 [S s, S [47]] G (fun v G' => ∃ b o cap, v = .slice (some ⟨b, o, none⟩) (cut 47 s).length cap ∧ Seg G' b o (rows strF (cut 47 s))) := by
  refine (c_Split (c := 47) (by omega)).mono ?_
  rintro v G' L' ⟨h1, h2, h3⟩
  have hp : 0 < (cut 47 s).length := cut_pos
  exact ⟨h1, h2, h3.expl hp⟩
 have hcl := cut_count (k := 47) (s := s)
 have hbad := fun {i : Nat} => pathOf_bad h0 (i := i)
 have hpo := pathOf_ne h0
 have hxl : ∀ i, i < (cut 47 s).length → (nth (cut 47 s) i).length ≤ 100000000 := fun i hi => by
  have := cut_len (nth_mem hi)
  omega
 generalize cut 47 s = xs at *
 refine jB [(0, _)] Tryz.func35 Tryz.ntmps35 fun B hok hB hW => ?_
 repeat' (first | (refine jR ?_) | (refine k_op rfl ?_; first | refine jV (g_lenL rfl) ?_ | (refine c_fns rfl rfl rfl cx_split rfl ?_; rintro _ G hle ⟨b1, o1, cap1, rfl, hseg⟩; skip)) | (refine k_ff rfl (dFf ‹_›) ?_))
 refine Nx.addNil tIntQ 1 ?_
 refine k_loop (ι := List Int × Option Addr × Nat × Nat) (fun j => (j.1.length = j.2.2.2 ∧ j.2.2.2 ≤ xs.length ∧ j.2.2.2 ≤ 8) ∧ stepsOf (xs.take j.2.2.2) = some j.1) (fun j => [(4, .slice j.2.1 j.1.length j.2.2.1), (12, .slice (some ⟨b1, o1, none⟩) xs.length cap1), (13, I xs.length), (14, I j.2.2.2)]) (fun _ => G) (fun j => [.acc (.slice j.2.1 j.1.length j.2.2.1) tIntQ 1 j.1.length (rows inR j.1)]) (fun j => xs.length - j.2.2.2) ([], none, 0, 0) ?_ (by repeat' constructor) rfl sRr (fun j Hj => ?_)
 ·exact ⟨⟨rfl, Nat.zero_le _, Nat.zero_le _⟩, rfl⟩
 obtain ⟨ps, a, c, i⟩ := j
 dsimp only at Hj ⊢
 obtain ⟨⟨hpl, hi0, hi8⟩, hst⟩ := Hj
 by_cases hi : i < xs.length
 ·have hxl1 := hxl i hi
  cases hn : numOf (nth xs i) 999999 with
  | none =>
   have hno := hbad hi hn
   have hns : (!(numOf (nth xs i) 999999).isSome) = true := by rw [hn]; rfl
   repeat' (first | (refine jR ?_) | (refine k_op rfl ?_; first | (refine jV (g_iaddrN rfl rfl (by omega)) ?_) | (refine jV (g_ldRS rfl rfl (by assumption) ?_) ?_; (focus ((omega); done))) | (refine jV (g_pickT rfl rfl rfl) ?_) | (refine c_pu rfl rfl rfl (c_plainNumber (by omega)) rfl ?_; rintro _ ⟨n, rfl, hnum⟩)) | (refine k_gt rfl rfl ‹_› ?_) | (refine k_tt rfl (by first | rfl | (refine decide_eq_true ?_; (omega))) ?_))
   all_goals refine jZ (vs := [_, _]) rfl ⟨rfl, rfl, trivial⟩ rfl ⟨hle, rfl, ?_⟩
   all_goals exact ⟨_, _, _, by rw [hno]; rfl, fun p hp => by rw [hno] at hp; cases hp⟩
  | some m =>
   have hns : (!(numOf (nth xs i) 999999).isSome) = false := by rw [hn]; rfl
   by_cases h8 : i = 8
   ·subst h8
    have hno : pathOf s = none := by
     rw [hpo]
     cases hso : stepsOf xs with
     | none => rfl
     | some q =>
      have := (stepsOf_len hso).1
      dsimp only
      rw [if_neg (by omega)]
    have h88 : ((ps.length : Nat) : Int) = 8 := by omega
    repeat' (first | (refine jR ?_) | (refine k_op rfl ?_; first | refine jV (g_lenL rfl) ?_ | (refine jV (g_iaddrN rfl rfl (by omega)) ?_) | (refine jV (g_ldRS rfl rfl (by assumption) ?_) ?_; (focus ((omega); done))) | (refine jV (g_pickF rfl rfl rfl) ?_) | (refine c_pu rfl rfl rfl (c_plainNumber (by omega)) rfl ?_; rintro _ ⟨n, rfl, hnum⟩)) | (refine k_gf rfl rfl ‹_› ?_) | (refine k_tt rfl (by refine decide_eq_true ?_; first | assumption | omega) ?_))
    all_goals refine jZ (vs := [_, _]) rfl ⟨rfl, rfl, trivial⟩ rfl ⟨hle, rfl, ?_⟩
    all_goals exact ⟨_, _, _, by rw [hno]; rfl, fun p hp => by rw [hno] at hp; cases hp⟩
   ·have h88 : ¬ ((ps.length : Nat) : Int) = 8 := by omega
    repeat' (first | refine jM ?_ | (refine k_op rfl ?_; first | refine jV (g_lenL rfl) ?_ | (refine jV (g_iaddrN rfl rfl (by omega)) ?_) | (refine jV (g_ldRS rfl rfl (by assumption) ?_) ?_; (focus ((omega); done))) | (refine jV (g_pickF rfl rfl rfl) ?_) | refine c_bsl rfl rfl rfl rfl rfl rfl fun _ => ?_ | (refine c_apX rfl rfl rfl rfl rfl rfl rfl rfl rfl (by omega) fun _ _ => ?_) | (refine c_pu rfl rfl rfl (c_plainNumber (by omega)) rfl ?_; rintro _ ⟨n, rfl, hnum⟩)) | (refine k_gf rfl rfl ‹_› ?_) | (refine k_tt rfl (dTt (by omega)) ?_) | (refine k_ff rfl (dFf ‹_›) ?_))
    rename_i y1 yc
    have hmn := hnum m hn
    subst hmn
    have hst2 : stepsOf (xs.take (i + 1)) = some (ps ++ [n]) := by rw [take_nth hi, stepsOf_snoc hst, hn]; rfl
    have hl1 : (ps ++ [n]).length = ps.length + 1 := by simp
    rw [show rows inR ps ++ [I n] = rows inR (ps ++ [n]) from (rows_snoc inR ps n).symm]
    exact k_rd (ps ++ [n], some ⟨y1, 0, none⟩, yc, i + 1) ⟨⟨by dsimp only; omega, by dsimp only; omega, by dsimp only; omega⟩, hst2⟩ (by dsimp only; omega) (by rw [hl1]; repeat (first | exact trivial | refine ⟨rfl, ?_⟩)) rfl (by rw [hl1]; repeat (first | exact List.nil_sublist _ | apply List.Sublist.cons_cons))
 ·rw [List.take_of_length_le (by omega)] at hst
  rw [hst] at hpo
  dsimp only at hpo
  rw [if_pos (by omega)] at hpo
  repeat' (first | (refine jR ?_) | (refine k_ff rfl (dFf (by omega)) ?_))
  refine Nx.sealS (v := .slice a ps.length c) fun G2 hG2 hsl => ?_
  refine jZ (vs := [_, _]) rfl ⟨rfl, rfl, trivial⟩ rfl ⟨hle.trans hG2, rfl, ?_⟩
  refine ⟨_, _, _, by rw [hpo]; rfl, fun p hp => ?_⟩
  rw [hpo] at hp
  simp only [Option.some.injEq] at hp; subst hp; exact ⟨rfl, hsl⟩
theorem sg_core : ∀ k : List UInt8, sg k ++ core k = k
 | [] => rfl
 | c :: r => by
  by_cases h : c.toNat = 91 ∨ c.toNat = 63
  ·rw [sg_cons h, core, if_pos h, List.cons_append, sg_core r]
  ·rw [sg_none h, core_self h]; rfl
theorem kind_text {k : List UInt8} (h : kindOk k = true) : (bs k = [64] → sg k ++ [64] ++ nm k ++ [59] = k) ∧ (bs k ≠ [64] → sg k ++ bs k = k) := by
 have hk := core_kOk (kindOk_kOk h).1
 have hsc := sg_core k
 refine ⟨fun h64 => ?_, fun hne => ?_⟩
 ·have hr := (bs_at h).1 h64
  cases hc : core k with
  | nil => rw [hc] at hk; cases hk
  | cons c r =>
   rw [hc] at hr hk hsc
   have h64' : c.toNat = 64 := by
    by_cases h64' : c.toNat = 64
    ·exact h64'
    ·simp [refN, h64'] at hr
   have hn : nm k = r.take (r.length - 1) := by unfold nm; rw [hc]; simp [refN, h64']
   rw [kOk, if_neg (by omega), if_pos h64'] at hk
   simp only [Bool.and_eq_true, decide_eq_true_eq] at hk
   obtain ⟨h59, hnm⟩ := hk
   have hrl : 1 ≤ r.length := by
    cases r with
    | nil => simp [isNm] at hnm
    | cons => simp
   obtain ⟨m, hm⟩ : ∃ m, r.length = m + 1 := ⟨r.length - 1, by omega⟩
   rw [hm, bt_succ] at h59
   have e3 : r = r.take m ++ [59] := by
    have e1 : r.take (m + 1) = r := List.take_of_length_le (by omega)
    have e2 := take_nth (cs := r) (i := m) (by omega)
    rw [e1] at e2
    have e4 : nth r m = 59 := by
     rw [nth_eq (by omega)]
     have : bt r m = (r[m]'(by omega)).toNat := by simp [bt, List.getD, List.getElem?_eq_getElem (show m < r.length by omega)]
     exact UInt8.toNat_inj.1 (by rw [← this]; show bt r m = 59; omega)
    rw [e4] at e2; exact e2
   have hc64 : c = 64 := UInt8.toNat_inj.1 h64'
   have e5 : sg k ++ 64 :: (r.take m ++ [59]) = k := by rw [← e3, ← hc64]; exact hsc
   rw [hn, hm, Nat.add_sub_cancel]
   refine Eq.trans ?_ e5
   simp
 ·have hr : refN (core k) = none := by
   cases hr : refN (core k) with
   | none => rfl
   | some x => exact absurd ((bs_at h).2 (by rw [hr]; rfl)) hne
  have e : bs k = core k := by
   unfold bs
   cases hc : core k with
   | nil => rfl
   | cons c r =>
    rw [hc] at hr
    have h64 : ¬ c.toNat = 64 := by intro h64; simp [refN, h64] at hr
    simp [bsT, h64]
  rw [e]; exact hsc
theorem c_textI {k : List UInt8} (h : kindOk k = true) : PuG Tryz.prog 37 [Ag (kdF k)] G (· = S k) := by
 obtain ⟨h1, h2⟩ := kind_text h
 have hl := (kindOk_kOk h).2
 have hsl : (sg k).length ≤ 12 := by
  have := congrArg List.length (sg_core k)
  simp only [List.length_append] at this
  omega
 unfold kdF
 by_cases h64 : bs k = [64]
 ·have e := h1 h64
  have hnl := congrArg List.length e
  simp only [List.length_append, List.length_cons, List.length_nil] at hnl
  rw [h64]
  refine jE [(0, _)] Tryz.func37 Tryz.ntmps37 fun B hB => ?_
  repeat' (first | (refine run (t := tb) 400 rfl ?_ ?_; (focus (repeat' (first | exact trivial | apply And.intro | (simp only [List.length_append, List.length_cons, List.length_nil, Int.toNat_natCast]; omega))))) | (refine k_op rfl ?_; first | refine c_bx rfl rfl rfl fun _ => ?_ | refine jV (g_ld rfl rfl rfl) ?_) | (refine k_tt rfl rfl ?_))
  all_goals refine jZ (vs := [_]) rfl ⟨rfl, trivial⟩ rfl ⟨rfl, rfl, ?_⟩
  all_goals (rw [oneOf_one, e])
 ·have e := h2 h64
  have hnl := congrArg List.length e
  simp only [List.length_append] at hnl
  refine jE [(0, _)] Tryz.func37 Tryz.ntmps37 fun B hB => ?_
  repeat' (first | refine jM ?_ | (refine k_op rfl ?_; first | refine c_bx rfl rfl rfl fun _ => ?_ | refine jV (g_ld rfl rfl rfl) ?_) | (refine k_ff rfl (dFf ‹_›) ?_))
  all_goals refine jZ (vs := [_]) rfl ⟨rfl, trivial⟩ rfl ⟨rfl, rfl, ?_⟩
  all_goals (rw [oneOf_one, e])
theorem c_must {b : Nat} {qs : List TyP} {k s : List UInt8} {u : V} (hS : ScI G b qs) (hw : SchW (tyq qs)) (hk : kindIn (tyq qs) k = true) (hvo : valOf (tyq qs) k s = some u) :
  FnS Tryz.prog 149 [Pt b 0, Ag (kdF k), S s] G (fun r G' => ∃ c, r = Ag (vcF c) ∧ V.rep G' u c) := by
 have hl := (valOf_rd hvo).2
 have cx_ris : FnS Tryz.prog 40 [Pt b 0, Ag [S (sg k), S (bs k), S (nm k)], S s] G (fun v G' => ∃ cv, v = Tu [Ag (vcF cv), Bo true] ∧ V.rep G' u cv) := by
  refine (c_readI (G := G) (b := b) (s := s) hS hw hk (by omega)).mono ?_
  rintro v G' L' ⟨h1, h2, ⟨h4, _⟩ | ⟨u', c, h4, rfl, h5⟩⟩
  ·rw [hvo] at h4; cases h4
  ·rw [hvo] at h4; obtain rfl := Option.some.inj h4; exact ⟨h1, h2, c, rfl, h5⟩
 unfold kdF
 refine jB [(0, _), (1, _), (2, _)] Tryz.func149 Tryz.ntmps149 fun B hok hB hW => ?_
 repeat' (first | (refine jR ?_) | (refine k_op rfl ?_; first | refine c_bx rfl rfl rfl fun _ => ?_ | refine c_al rfl rfl fun _ => ?_ | refine jV (g_ldA rfl rfl rfl rfl) ?_ | refine c_stA rfl rfl rfl rfl rfl rfl ?_ | (refine c_fns rfl rfl rfl cx_ris rfl ?_; rintro _ G hle ⟨cv, rfl, hrv⟩; skip)))
 all_goals refine jZ (vs := [_]) rfl ⟨rc_A rfl rfl rfl rfl, trivial⟩ rfl ⟨hle, rfl, ?_⟩
 all_goals exact ⟨cv, rfl, hrv⟩
theorem getV_told {ts : List Ty} {f : Fld} {fs : List (Fld × V)} {j : Nat} (hj : j < fs.length) (hjn : (nth fs j).1.tag = f.tag) (hno : ∀ i, i < j → (nth fs i).1.tag ≠ f.tag) : getV ts (.nd 82 [] 0 (fs.map fldV)) f = (nth fs j).2 := by
 unfold getV
 rw [V.kids, toldV_at hj hjn hno]; rfl
theorem getV_untold {ts : List Ty} {f : Fld} {fs : List (Fld × V)} (hno : ∀ i, i < fs.length → (nth fs i).1.tag ≠ f.tag) : getV ts (.nd 82 [] 0 (fs.map fldV)) f = standV ts f := by
 unfold getV
 rw [V.kids, toldV_no hno]; rfl
theorem c_getI {b bf of j : Nat} {qs : List TyP} {t : Ty} {fs : List (Fld × V)} {c : VC} (hS : ScI G b qs) (hw : SchW (tyq qs)) (ht : t ∈ tyq qs) (hso : t.sort = 82) (hsf : Seg G bf of (rows fiF t.fields)) (hj : j < t.fields.length) (hrep : V.rep G (.nd 82 [] 0 (fs.map fldV)) c) (h9 : fs.length ≤ 1000000) :
  FnS Tryz.prog 111 [Pt b 0, Ag (vcF c), Pt bf (of + j * 6)] G (fun r G' => ∃ c', r = Ag (vcF c') ∧ V.rep G' (getV (tyq qs) (.nd 82 [] 0 (fs.map fldV)) (nth t.fields j)) c') := by
 obtain ⟨a, k, cs, rfl, _, _, _, hcl, hsl, hrs⟩ := rep_inv hrep
 have hml : (fs.map fldV).length = fs.length := by simp
 rw [hml] at hcl hsl
 have hfm : nth t.fields j ∈ t.fields := nth_mem hj
 have hdk : kindIn (tyq qs) (nth t.fields j).kind = true := kind_in hw ht (by omega) hfm
 obtain ⟨g1, g2, g3⟩ := standV_ok hw ht (by omega) hfm
 have cx_of := c_ofI hS hw hsf hj hdk
 have hnt : ∀ i, i < fs.length → nth (fs.map fldV) i = fldV (nth fs i) := fun i hi => by rw [nth_eq (by simpa using hi), nth_eq hi]; simp
 have hrn : ∀ i, i < fs.length → V.rep G (fldV (nth fs i)) (nth cs i) := fun i hi => by
  have := reps_nth hrs i (by omega)
  rwa [hnt i hi] at this
 have e0 : vcF ⟨82, [], 0, a, (fs.map fldV).length, k⟩ = [U8 (82 : Nat), S [], I 0, .slice a fs.length k] := by rw [← hml]; rfl
 rw [e0]
 refine jB [(0, _), (1, _), (2, _)] Tryz.func111 Tryz.ntmps111 fun B hok hB hW => ?_
 repeat' (first | (refine jR ?_) | (refine k_op rfl ?_; first | refine c_bx rfl rfl rfl fun _ => ?_ | refine c_al rfl rfl fun _ => ?_ | refine jV (g_ld rfl rfl rfl) ?_ | refine jV (g_lenL rfl) ?_))
 rename_i y4 y6
 refine k_loop (ι := Nat) (fun i => i ≤ fs.length ∧ ∀ l, l < i → (nth fs l).1.tag ≠ (nth t.fields j).tag) (fun i => [(0, Pt b 0), (2, Pt bf (of + j * 6)), (6, Pt y6 0), (10, .slice a fs.length k), (11, I fs.length), (12, I i)]) (fun _ => G) (fun i => [.blk y6 (.cells (List.toArray [U8 0, S [], I 0, nilS]) tVal (0, 0))]) (fun i => fs.length - i) 0 ?_ (by repeat' constructor) rfl (by repeat (first | exact List.nil_sublist _ | apply List.Sublist.cons_cons)) (fun i Hi => ?_)
 ·exact ⟨Nat.zero_le _, fun l hl => absurd hl (by omega)⟩
 obtain ⟨hi0, hno⟩ := Hi
 by_cases hi : i < fs.length
 ·obtain ⟨xb, xo, xc, e, hsx⟩ := hsl.expl (by omega)
  simp only [Value.slice.injEq] at e
  obtain ⟨rfl, -, rfl⟩ := e
  obtain ⟨a1, k1, cs1, hci, _, _, _, hcl1, hsl1, hrs1⟩ := rep_inv (hrn i hi)
  rw [V.reps] at hrs1
  obtain ⟨c1, cs2, rfl, hr1, hr2⟩ := hrs1
  rw [V.reps] at hr2
  subst hr2
  have hci : nth cs i = ⟨61, [], (nth fs i).1.tag, a1, 1, k1⟩ := hci
  have hsl1 : SlV G (.slice a1 1 k1) 4 ([c1] : List VC).length (rows vcF [c1]) := hsl1
  obtain ⟨zb, zo, zc, e, hsz⟩ := hsl1.expl (by omega)
  simp only [Value.slice.injEq] at e
  obtain ⟨rfl, -, rfl⟩ := e
  by_cases ht2 : (nth fs i).1.tag = (nth t.fields j).tag
  ·have hget := getV_told (ts := tyq qs) hi ht2 hno
   rw [hget]
   repeat' (first | (refine jR ?_) | (refine k_op rfl ?_; first | refine c_al rfl rfl fun _ => ?_ | refine jV (g_ld rfl rfl rfl) ?_ | (refine jV (g_ldRx rfl rfl (by assumption) ?_ (by assumption)) ?_; (focus ((omega); done))) | (refine jV (g_iaddrN rfl rfl (by omega)) ?_) | refine c_stA rfl rfl rfl rfl rfl rfl ?_) | (refine k_tt rfl (by refine decide_eq_true ?_; first | assumption | omega) ?_) | (refine k_any (s_any (id := 4) _ (fun _ h => h) mixed ?_); refine jT 3 [0, 2, 3, 4] (bts 7 29) ?_; (refine jG (bts 7 31) 1 rfl (g_ld rfl rfl rfl) ?_); ((refine jG (bts 7 63) 5 rfl (g_ldRF rfl rfl (by assumption) ?_ rfl rfl) ?_; (focus ((omega); done)))); refine jT 0 [6] (bts 7 127) ?_; refine x_done (by kernel_rfl) (k_bk ?_)))
   dsimp only [vcF, VC.sl]
   repeat' (first | (refine jR ?_) | (refine k_op rfl ?_; first | (refine jV (g_ldR rfl rfl (by assumption) ?_) ?_; (focus ((omega); done))) | (refine jV (g_iaddr rfl rfl (by omega)) ?_) | refine c_stA rfl rfl rfl rfl rfl rfl ?_))
   all_goals refine jZ (vs := [_]) rfl ⟨rc_A rfl rfl rfl rfl, trivial⟩ rfl ⟨Gh.le.refl _, rfl, ?_⟩
   all_goals exact ⟨c1, rfl, hr1⟩
  ·repeat' (first | refine jM ?_ | (refine k_op rfl ?_; first | refine c_al rfl rfl fun _ => ?_ | (refine jV (g_ldRx rfl rfl (by assumption) ?_ (by assumption)) ?_; (focus ((omega); done))) | (refine jV (g_iaddrN rfl rfl (by omega)) ?_) | refine c_stA rfl rfl rfl rfl rfl rfl ?_) | (refine k_tt rfl (dTt (by omega)) ?_) | (refine k_ff rfl (dFf ‹_›) ?_) | (refine k_any (s_any (id := 4) _ (fun _ h => h) mixed ?_); refine jT 3 [0, 2, 3, 4] (bts 7 29) ?_; (refine jG (bts 7 31) 1 rfl (g_ld rfl rfl rfl) ?_); ((refine jG (bts 7 63) 5 rfl (g_ldRF rfl rfl (by assumption) ?_ rfl rfl) ?_; (focus ((omega); done)))); refine jT 0 [6] (bts 7 127) ?_; refine x_done (by kernel_rfl) (k_bk ?_)))
   exact k_rd (i + 1) ⟨by omega, fun l hl => (by
    rcases Nat.lt_or_ge l i with h | h
    ·exact hno l h
    ·have : l = i := by omega
     subst this; exact ht2)⟩ (by omega) (by repeat' constructor) rfl (by repeat (first | exact List.Sublist.refl _ | apply List.Sublist.cons))
 ·have hget := getV_untold (ts := tyq qs) (f := nth t.fields j) (fs := fs) fun l hl => hno l (by omega)
  rw [hget]
  have cx_mu := c_must hS hw hdk g2
  unfold kdF at cx_mu
  repeat' (first | (refine jR ?_) | (refine k_ff rfl (dFf (by omega)) ?_) | (refine k_any (s_anyD (id := 7) (tt := 6) rfl mixed ?_); refine jU 4 [0, 1, 2, 3, 5, 6] (bts 10 111) ?_ ?_; (focus (repeat' (exact trivial))); ((refine jG (bts 10 127) 4 rfl (g_ldRA rfl rfl (by assumption) ?_ rfl rfl) ?_; (focus ((omega); done)))); refine jA 7 rfl ?_; (refine c_rt rfl rfl rfl cx_of rfl ?_); refine jK (bts 10 255) ?_; refine jA 8 rfl ?_; (refine c_fns rfl rfl rfl cx_mu rfl ?_; rintro _ G hle ⟨cv, rfl, hrv⟩; skip); refine jK (bts 10 511) ?_; refine jA 9 rfl ?_; (refine c_stA rfl rfl rfl rfl rfl rfl ?_); refine jK (bts 10 1023) ?_; refine x_done (by kernel_rfl) (k_bk ?_)))
  all_goals refine jZ (vs := [_]) rfl ⟨rc_A rfl rfl rfl rfl, trivial⟩ rfl ⟨hle, rfl, ?_⟩
  all_goals exact ⟨cv, rfl, hrv⟩
def StepPI (ts : List Ty) (o : Option (List UInt8 × V)) (r : Value) (G' : Gh) : Prop := (o = none ∧ r = Tu [Ag [S [], S [], S []], zP, Bo false]) ∨ ∃ k' v' c', o = some (k', v') ∧ r = Tu [Ag (kdF k'), Ag (vcF c'), Bo true] ∧ V.rep G' v' c'
theorem StepPI.no {f : FuncId} {args : List Value} {ts : List Ty} {o : Option (List UInt8 × V)} (h : FnS Tryz.prog f args G (StepPI ts o)) (e : o = none) : FnS Tryz.prog f args G (fun r _ => r = Tu [Ag [S [], S [], S []], zP, Bo false]) := by
 refine h.mono ?_
 rintro v G' L' ⟨h1, h2, ⟨_, h3⟩ | ⟨k', v', b', h3, _⟩⟩
 ·exact ⟨h1, h2, h3⟩
 ·rw [e] at h3; cases h3
theorem StepPI.yes {f : FuncId} {args : List Value} {ts : List Ty} {o : Option (List UInt8 × V)} {k' : List UInt8} {v' : V} (h : FnS Tryz.prog f args G (StepPI ts o)) (e : o = some (k', v')) : FnS Tryz.prog f args G (fun r G' => ∃ c', r = Tu [Ag [S (sg k'), S (bs k'), S (nm k')], Ag (vcF c'), Bo true] ∧ V.rep G' v' c') := by
 refine h.mono ?_
 rintro v G' L' ⟨h1, h2, ⟨h3, _⟩ | ⟨k2, v2, b', h3, h4, h5⟩⟩
 ·rw [e] at h3; cases h3
 ·rw [e] at h3
  simp only [Option.some.injEq, Prod.mk.injEq] at h3
  obtain ⟨rfl, rfl⟩ := h3
  exact ⟨h1, h2, b', h4, h5⟩
theorem c_stepL {b : Nat} {k : List UInt8} {ts : List Ty} {ks : List V} {c : VC} {n : Int} (hr : V.rep G (.nd 91 [] 0 ks) c) (hn : 0 ≤ n ∧ n ≤ 999999) (hkl : ks.length ≤ 1000000) :
  FnS Tryz.prog 81 [Pt b 0, Ag (kdF (91 :: k)), Ag (vcF c), I n] G (StepPI ts (stepV ts (91 :: k) (.nd 91 [] 0 ks) n)) := by
 obtain ⟨e1, e2, e3, _⟩ := kdF_cons (c := 91) (k := k) (.inl rfl)
 have cx_sign := @c_sign1 G 91 (sg k) (bs k) (nm k)
 have cx_pt := @c_part G 91 (sg k) (bs k) (nm k)
 obtain ⟨a, kc, cs, rfl, _, _, _, hcl, hsl, hrs⟩ := rep_inv hr
 have hst := stepV_kid (ts := ts) (c := 91) (r := k) (v := .nd 91 [] 0 ks) (n := n) (.inl rfl)
 rw [V.kids] at hst
 rw [hst]
 unfold kdF
 rw [e1, e2, e3]
 have e0 : vcF ⟨91, [], 0, a, ks.length, kc⟩ = [U8 (91 : Nat), S [], I 0, .slice a ks.length kc] := rfl
 rw [e0]
 by_cases hn2 : n < ((ks.length : Nat) : Int)
 ·obtain ⟨i, rfl⟩ : ∃ i : Nat, n = i := ⟨n.toNat, by omega⟩
  obtain ⟨xb, xo, xc, e, hsx⟩ := hsl.expl (by omega)
  simp only [Value.slice.injEq] at e
  obtain ⟨rfl, -, rfl⟩ := e
  have hri := reps_nth hrs i (by omega)
  obtain ⟨d, hxi⟩ : ∃ d, nth cs i = d := ⟨_, rfl⟩
  rw [hxi] at hri
  rw [if_pos hn2]
  refine jB [(0, _), (1, _), (2, _), (3, _)] Tryz.func81 Tryz.ntmps81 fun B hok hB hW => ?_
  repeat' (first | (refine jR ?_) | (refine k_op rfl ?_; first | refine c_bx rfl rfl rfl fun _ => ?_ | refine c_al rfl rfl fun _ => ?_ | refine jV (g_ld rfl rfl rfl) ?_ | refine jV (g_ldA rfl rfl rfl rfl) ?_ | refine jV (g_lenL rfl) ?_ | (refine c_rt rfl rfl rfl cx_sign rfl ?_)) | (refine k_tt rfl rfl ?_) | (refine k_ff rfl (dFf (by omega)) ?_))
  rename_i y5 y6 y8 y9
  (refine k_any (s_any (id := 5) [.blk y6 (.cells (List.toArray [U8 (91 : Nat), S [], I 0, .slice (some ⟨xb, xo, none⟩) ks.length kc]) tVal (0, 0)), .blk y5 (.cells (List.toArray [S (91 :: sg k), S (bs k), S (nm k)]) tKnd (0, 0))] (by intro y hy; simp only [List.mem_cons, List.not_mem_nil, or_false] at hy ⊢; rcases hy with hy | hy <;> simp [hy]) mixed ?_); refine jU 8 [2, 4] (bts 10 20) ?_ ?_; (focus (repeat' (exact trivial))); (refine jG (bts 10 21) 0 rfl (g_ldA rfl rfl rfl rfl) ?_); (refine jG (bts 10 29) 3 rfl (g_ld rfl rfl rfl) ?_); ((refine jG (bts 10 61) 5 rfl (g_iaddrN rfl rfl ?_) ?_; (focus ((omega); done)))); ((refine jG (bts 10 125) 6 rfl (g_ldRx rfl rfl (by assumption) ?_ (by assumption)) ?_; (focus ((omega); done)))); refine jA 1 rfl ?_; (refine c_rt rfl rfl rfl cx_pt rfl ?_); refine jK (bts 10 127) ?_; refine jA 7 rfl ?_; (refine c_stA rfl rfl rfl rfl rfl rfl ?_); refine jK (bts 10 255) ?_; refine jA 8 rfl ?_; (refine c_stA rfl rfl rfl rfl rfl rfl ?_); refine jK (bts 10 511) ?_; refine jU 0 [9] (bts 10 1023) ?_ ?_; (focus (repeat' (exact trivial))); refine x_done (by kernel_rfl) (k_bk ?_))
  all_goals repeat' (refine jR ?_)
  all_goals refine jZ (vs := [_, _, _]) rfl ⟨rc_A rfl rfl rfl rfl, rc_A rfl rfl rfl rfl, rfl, trivial⟩ rfl ⟨Gh.le.refl _, rfl, ?_⟩
  all_goals exact .inr ⟨k, nth ks i, d, rfl, rfl, hri⟩
 ·rw [if_neg hn2]
  refine jB [(0, _), (1, _), (2, _), (3, _)] Tryz.func81 Tryz.ntmps81 fun B hok hB hW => ?_
  repeat' (first | (refine jR ?_) | (refine k_op rfl ?_; first | refine c_bx rfl rfl rfl fun _ => ?_ | refine c_al rfl rfl fun _ => ?_ | refine jV (g_ld rfl rfl rfl) ?_ | refine jV (g_ldA rfl rfl rfl rfl) ?_ | refine jV (g_lenL rfl) ?_ | refine jV (g_bld rfl rfl) ?_ | refine c_stA rfl rfl rfl rfl rfl rfl ?_ | (refine c_rt rfl rfl rfl cx_sign rfl ?_)) | (refine k_tt rfl (by first | rfl | (refine decide_eq_true ?_; (omega))) ?_))
  all_goals refine jZ (vs := [_, _, _]) rfl ⟨rc_A rfl rfl rfl rfl, rc_A rfl rfl rfl rfl, rfl, trivial⟩ rfl ⟨Gh.le.refl _, rfl, ?_⟩
  all_goals exact .inl ⟨rfl, rfl⟩
theorem c_stepO {b : Nat} {k : List UInt8} {ts : List Ty} {ks : List V} {c : VC} {n : Int} (hks : ks = [] ∨ ∃ w, ks = [w]) (hr : V.rep G (.nd 63 [] 0 ks) c) (hn : 0 ≤ n ∧ n ≤ 999999) :
  FnS Tryz.prog 81 [Pt b 0, Ag (kdF (63 :: k)), Ag (vcF c), I n] G (StepPI ts (stepV ts (63 :: k) (.nd 63 [] 0 ks) n)) := by
 obtain ⟨e1, e2, e3, _⟩ := kdF_cons (c := 63) (k := k) (.inr rfl)
 have cx_sign := @c_sign1 G 63 (sg k) (bs k) (nm k)
 have cx_pt := @c_part G 63 (sg k) (bs k) (nm k)
 obtain ⟨a, kc, cs, rfl, _, _, _, hcl, hsl, hrs⟩ := rep_inv hr
 have hst := stepV_kid (ts := ts) (c := 63) (r := k) (v := .nd 63 [] 0 ks) (n := n) (.inr rfl)
 rw [V.kids] at hst
 rw [hst]
 unfold kdF
 rw [e1, e2, e3]
 have e0 : vcF ⟨63, [], 0, a, ks.length, kc⟩ = [U8 (63 : Nat), S [], I 0, .slice a ks.length kc] := rfl
 rw [e0]
 rcases hks with rfl | ⟨w, rfl⟩
 ·rw [if_neg (by simp; omega)]
  by_cases hn0 : n = 0
  all_goals
   refine jB [(0, _), (1, _), (2, _), (3, _)] Tryz.func81 Tryz.ntmps81 fun B hok hB hW => ?_
   repeat' (first | (refine jR ?_) | (refine k_op rfl ?_; first | refine c_bx rfl rfl rfl fun _ => ?_ | refine c_al rfl rfl fun _ => ?_ | refine jV (g_ld rfl rfl rfl) ?_ | refine jV (g_ldA rfl rfl rfl rfl) ?_ | refine jV (g_lenL rfl) ?_ | refine jV (g_bld rfl rfl) ?_ | refine c_stA rfl rfl rfl rfl rfl rfl ?_ | (refine jV (g_pickT rfl rfl rfl) ?_) | (refine jV (g_pickF rfl rfl rfl) ?_) | (refine c_rt rfl rfl rfl cx_sign rfl ?_)) | (refine k_gt rfl rfl (dTt ‹_›) ?_) | (refine k_gf rfl rfl (dFf (by omega)) ?_) | (refine k_tt rfl rfl ?_) | (refine k_ff rfl rfl ?_))
   all_goals refine jZ (vs := [_, _, _]) rfl ⟨rc_A rfl rfl rfl rfl, rc_A rfl rfl rfl rfl, rfl, trivial⟩ rfl ⟨Gh.le.refl _, rfl, ?_⟩
   all_goals exact .inl ⟨rfl, rfl⟩
 ·rw [V.reps] at hrs
  obtain ⟨d, cs2, rfl, hri, hr2⟩ := hrs
  rw [V.reps] at hr2
  subst hr2
  have hsl : SlV G (.slice a 1 kc) 4 ([d] : List VC).length (rows vcF [d]) := hsl
  obtain ⟨xb, xo, xc, e, hsx⟩ := hsl.expl (by simp)
  simp only [Value.slice.injEq] at e
  obtain ⟨rfl, -, rfl⟩ := e
  have hxi : nth [d] (Int.toNat 0) = d := rfl
  show FnS _ _ [Pt b 0, Ag [S (63 :: sg k), S (bs k), S (nm k)], Ag [U8 (63 : Nat), S [], I 0, .slice (some ⟨xb, xo, none⟩) 1 kc], I n] G _
  by_cases hn0 : n = 0
  ·subst hn0
   rw [if_pos (by simp)]
   refine jB [(0, _), (1, _), (2, _), (3, _)] Tryz.func81 Tryz.ntmps81 fun B hok hB hW => ?_
   repeat' (first | (refine jR ?_) | (refine k_op rfl ?_; first | refine c_bx rfl rfl rfl fun _ => ?_ | refine c_al rfl rfl fun _ => ?_ | refine jV (g_ld rfl rfl rfl) ?_ | refine jV (g_ldA rfl rfl rfl rfl) ?_ | refine jV (g_lenL rfl) ?_ | (refine jV (g_pickF rfl rfl rfl) ?_) | (refine c_rt rfl rfl rfl cx_sign rfl ?_)) | (refine k_gf rfl rfl rfl ?_) | (refine k_tt rfl rfl ?_) | (refine k_ff rfl rfl ?_))
   rename_i y5 y6 y8 y9
   (refine k_any (s_any (id := 9) [.blk y6 (.cells (List.toArray [U8 (63 : Nat), S [], I 0, .slice (some ⟨xb, xo, none⟩) 1 kc]) tVal (0, 0)), .blk y5 (.cells (List.toArray [S (63 :: sg k), S (bs k), S (nm k)]) tKnd (0, 0))] (by intro y hy; simp only [List.mem_cons, List.not_mem_nil, or_false] at hy ⊢; rcases hy with hy | hy <;> simp [hy]) mixed ?_); refine jU 8 [2] (bts 9 4) ?_ ?_; (focus (repeat' (exact trivial))); (refine jG (bts 9 5) 0 rfl (g_ldA rfl rfl rfl rfl) ?_); (refine jG (bts 9 13) 3 rfl (g_ld rfl rfl rfl) ?_); ((refine jG (bts 9 29) 4 rfl (g_iaddr rfl rfl ?_) ?_; (focus ((omega); done)))); ((refine jG (bts 9 61) 5 rfl (g_ldRx rfl rfl (by assumption) ?_ (by assumption)) ?_; (focus ((simp only [List.length_append, List.length_cons, List.length_nil, List.length_take]; omega); done)))); refine jA 1 rfl ?_; (refine c_rt rfl rfl rfl cx_pt rfl ?_); refine jK (bts 9 63) ?_; refine jA 6 rfl ?_; (refine c_stA rfl rfl rfl rfl rfl rfl ?_); refine jK (bts 9 127) ?_; refine jA 7 rfl ?_; (refine c_stA rfl rfl rfl rfl rfl rfl ?_); refine jK (bts 9 255) ?_; refine jU 0 [8] (bts 9 511) ?_ ?_; (focus (repeat' (exact trivial))); refine x_done (by kernel_rfl) (k_bk ?_))
   all_goals repeat' (refine jR ?_)
   all_goals refine jZ (vs := [_, _, _]) rfl ⟨rc_A rfl rfl rfl rfl, rc_A rfl rfl rfl rfl, rfl, trivial⟩ rfl ⟨Gh.le.refl _, rfl, ?_⟩
   all_goals exact .inr ⟨k, w, d, rfl, rfl, hri⟩
  ·rw [if_neg (show ¬ n < (([w].length : Nat) : Int) by show ¬ n < ((1 : Nat) : Int); omega)]
   refine jB [(0, _), (1, _), (2, _), (3, _)] Tryz.func81 Tryz.ntmps81 fun B hok hB hW => ?_
   repeat' (first | (refine jR ?_) | (refine k_op rfl ?_; first | refine c_bx rfl rfl rfl fun _ => ?_ | refine c_al rfl rfl fun _ => ?_ | refine jV (g_ldA rfl rfl rfl rfl) ?_ | refine jV (g_bld rfl rfl) ?_ | refine c_stA rfl rfl rfl rfl rfl rfl ?_ | (refine jV (g_pickT rfl rfl rfl) ?_) | (refine c_rt rfl rfl rfl cx_sign rfl ?_)) | (refine k_gt rfl rfl (dTt ‹_›) ?_) | (refine k_tt rfl rfl ?_) | (refine k_ff rfl rfl ?_))
   all_goals refine jZ (vs := [_, _, _]) rfl ⟨rc_A rfl rfl rfl rfl, rc_A rfl rfl rfl rfl, rfl, trivial⟩ rfl ⟨Gh.le.refl _, rfl, ?_⟩
   all_goals exact .inl ⟨rfl, rfl⟩
theorem c_stepP {b : Nat} {x : List UInt8} {ts : List Ty} {v : V} {c : VC} {n : Int} (hx : x = [110] ∨ x = [116] ∨ x = [102]) :
  FnS Tryz.prog 81 [Pt b 0, Ag (kdF x), Ag (vcF c), I n] G (StepPI ts (stepV ts x v n)) := by
 have hno : stepV ts x v n = none := by
  rcases hx with rfl | rfl | rfl
  all_goals exact stepV_plain (by decide) (by decide) (by decide)
 rw [hno]
 obtain ⟨w, tx, tg, a, m, kc⟩ := c
 have e0 : vcF ⟨w, tx, tg, a, m, kc⟩ = [U8 (w : Nat), S tx, I tg, .slice a m kc] := rfl
 rw [e0]
 have e1 : kdF x = [S [], S x, S []] := by rcases hx with rfl | rfl | rfl <;> rfl
 rw [e1]
 have cx_sign := @c_sign0 G x []
 have hx64 : ¬ x = [64] := by rcases hx with rfl | rfl | rfl <;> decide
 refine jB [(0, _), (1, _), (2, _), (3, _)] Tryz.func81 Tryz.ntmps81 fun B hok hB hW => ?_
 repeat' (first | (refine jR ?_) | (refine k_op rfl ?_; first | refine c_bx rfl rfl rfl fun _ => ?_ | refine c_al rfl rfl fun _ => ?_ | refine jV (g_ld rfl rfl rfl) ?_ | refine jV (g_ldA rfl rfl rfl rfl) ?_ | refine jV (g_bld rfl rfl) ?_ | refine c_stA rfl rfl rfl rfl rfl rfl ?_ | (refine c_rt rfl rfl rfl cx_sign rfl ?_)) | (refine k_tt rfl (dTt ‹_›) ?_) | (refine k_ff rfl rfl ?_))
 all_goals refine jZ (vs := [_, _, _]) rfl ⟨rc_A rfl rfl rfl rfl, rc_A rfl rfl rfl rfl, rfl, trivial⟩ rfl ⟨Gh.le.refl _, rfl, ?_⟩
 all_goals exact .inl ⟨rfl, rfl⟩
theorem kind_typ {qs : List TyP} {k : List UInt8} {t : Ty} (hki : kindIn (tyq qs) k = true) (hrf : refT (tyq qs) k = some t) : kdF k = [S [], S [64], S (nm k)] ∧ ∃ p, findQ qs (nm k) = some (p, t) ∧ (p, t) ∈ qs := by
 obtain ⟨r, rfl⟩ := refT_64 hrf
 have h91 : ¬ ((64 : UInt8).toNat = 91 ∨ (64 : UInt8).toNat = 63) := by decide
 have hsg := sg_none (r := r) h91
 have hcs := core_self (r := r) h91
 have hrn : (refN (core (64 :: r))).isSome = true := by rw [hcs]; rfl
 have hbs : bs (64 :: r) = [64] := (bs_at (kindIn_ok hki)).2 hrn
 have hnm : refN (64 :: r) = some (nm (64 :: r)) := by unfold nm; rw [hcs]; rfl
 have hft : findT (tyq qs) (nm (64 :: r)) = some t := by unfold refT at hrf; rw [hnm] at hrf; exact hrf
 rw [← findQ_ty] at hft
 rcases hfq : findQ qs (nm (64 :: r)) with _ | ⟨p, t'⟩
 ·rw [hfq] at hft; cases hft
 rw [hfq] at hft
 obtain rfl : t' = t := Option.some.inj hft
 exact ⟨by unfold kdF; rw [hsg, hbs], p, rfl, findQ_mem hfq⟩
theorem c_stepT {b : Nat} {qs : List TyP} {k : List UInt8} {t : Ty} {v : V} {c : VC} {n : Int} (hS : ScI G b qs) (hw : SchW (tyq qs)) (hki : kindIn (tyq qs) k = true) (hrf : refT (tyq qs) k = some t) (ho : OfK (tyq qs) k v) (hr : V.rep G v c) (hn : 0 ≤ n ∧ n ≤ 999999) (htt : v.tot ≤ 1000000) :
  FnS Tryz.prog 81 [Pt b 0, Ag (kdF k), Ag (vcF c), I n] G (StepPI (tyq qs) (stepV (tyq qs) k v n)) := by
 obtain ⟨hkd, p, hfq, hqm⟩ := kind_typ hki hrf
 have hst := stepV_typ (v := v) (n := n) hrf
 have htm := refT_mem hrf
 have hW := hw.ty t htm
 obtain ⟨fv, ln, hsg, hfv⟩ := hS.ty _ hqm
 dsimp only at hsg hfv
 have hkv := kvF_find qs (nm k)
 rw [hfq] at hkv
 dsimp only [Option.map_some] at hkv
 obtain ⟨u, m, g1, g2, g3⟩ := hS.at'
 have hfl := hW.len
 have cx_sign := @c_sign0 G [64] (nm k)
 rw [hkd]
 cases hg : fldT t.fields n with
 | none =>
  rw [hg] at hst
  dsimp only at hst
  rw [hst]
  have cx_fld := c_fieldI0 (tag := n) hsg hfv (by omega) hg
  obtain ⟨w, tx, tg, a, mm, kc⟩ := c
  have e0 : vcF ⟨w, tx, tg, a, mm, kc⟩ = [U8 (w : Nat), S tx, I tg, .slice a mm kc] := rfl
  rw [e0]
  refine jB [(0, _), (1, _), (2, _), (3, _)] Tryz.func81 Tryz.ntmps81 fun B hok hB hW => ?_
  repeat' (first | (refine jR ?_) | (refine k_op rfl ?_; first | refine c_bx rfl rfl rfl fun _ => ?_ | refine c_al rfl rfl fun _ => ?_ | refine jV (g_ld rfl rfl rfl) ?_ | refine jV (g_ldA rfl rfl rfl rfl) ?_ | (refine c_rt rfl rfl rfl cx_sign rfl ?_)) | (refine k_ff rfl rfl ?_))
  rename_i y5 y6 y8 y9
  (refine k_any (s_any (id := 12) [.blk y9 (.cells (List.toArray [U8 0, S [], I 0, nilS]) tVal (0, 0)), .blk y8 (.cells (List.toArray [S [], S [], S []]) tKnd (0, 0)), .blk y6 (.cells (List.toArray [U8 (w : Nat), S tx, I tg, .slice a mm kc]) tVal (0, 0)), .blk y5 (.cells (List.toArray [S [], S [64], S (nm k)]) tKnd (0, 0))] (by intro y hy; simp only [List.mem_cons, List.not_mem_nil, or_false] at hy ⊢; rcases hy with hy | hy | hy | hy <;> simp [hy]) mixed ?_); refine jT 4 [0, 1, 2, 4] (bts 8 23) ?_; (refine jG (bts 8 31) 3 rfl (g_ldS rfl rfl (by assumption) rfl rfl) ?_); (refine jG (bts 8 63) 5 rfl (g_ld rfl rfl rfl) ?_); ((refine jG (bts 8 127) 6 rfl (g_lookupX rfl rfl (map_G (by assumption)) (by assumption) rfl) ?_)); refine jT 0 [7] (bts 8 255) ?_; refine x_done (by kernel_rfl) (k_bk ?_))
  all_goals repeat' (first | (refine jR ?_) | (refine k_op rfl ?_; first | refine jV (g_bld rfl rfl) ?_ | refine c_stA rfl rfl rfl rfl rfl rfl ?_ | (refine jV (g_pickT rfl rfl rfl) ?_) | refine jV (g_peq0 rfl rfl) ?_ | (refine c_rt rfl rfl rfl cx_fld rfl ?_)) | (refine k_gt rfl rfl rfl ?_) | (refine k_tt rfl rfl ?_))
  all_goals refine jZ (vs := [_, _, _]) rfl ⟨rc_A rfl rfl rfl rfl, rc_A rfl rfl rfl rfl, rfl, trivial⟩ rfl ⟨Gh.le.refl _, rfl, ?_⟩
  all_goals exact .inl ⟨rfl, rfl⟩
 | some f =>
  rw [hg] at hst
  dsimp only at hst
  obtain ⟨j, hj, hjf, hjn, hjx⟩ := fldT_some hg
  obtain ⟨bf, of, cf, rfl, hsf⟩ := hfv.expl (by omega)
  have cx_fld := c_fieldI1 hsg hsf (by omega) hj hjf hjn
  subst hjx
  rcases hW.sort with hso | hso | hso
  ·rw [if_neg (by omega), if_pos hso] at hst
   rw [hst]
   rcases ofK_inv_t ho hrf with ⟨_, fs, rfl, g4, g5, _, _⟩ | ⟨h1, _⟩ | ⟨h1, _⟩
   ·have h9 : fs.length ≤ 1000000 := by
     have h7 := tots_len (fs.map fldV)
     rw [nd_tot] at htt
     have e1 : (fs.map fldV).length = fs.length := by simp
     omega
    have cx_ge := c_getI hS hw htm hso hsf hj hr h9
    obtain ⟨a, kc, cs, rfl, _, _, _, hcl, hsl, hrs⟩ := rep_inv hr
    have hml : (fs.map fldV).length = fs.length := by simp
    have e0 : vcF ⟨82, [], 0, a, (fs.map fldV).length, kc⟩ = [U8 (82 : Nat), S [], I 0, .slice a fs.length kc] := by rw [← hml]; rfl
    rw [e0] at cx_ge ⊢
    refine jB [(0, _), (1, _), (2, _), (3, _)] Tryz.func81 Tryz.ntmps81 fun B hok hB hW => ?_
    repeat' (first | (refine jR ?_) | (refine k_op rfl ?_; first | refine c_bx rfl rfl rfl fun _ => ?_ | refine c_al rfl rfl fun _ => ?_ | refine jV (g_ld rfl rfl rfl) ?_ | refine jV (g_ldA rfl rfl rfl rfl) ?_ | (refine c_rt rfl rfl rfl cx_sign rfl ?_)) | (refine k_ff rfl rfl ?_))
    rename_i y5 y6 y8 y9
    (refine k_any (s_any (id := 12) [.blk y9 (.cells (List.toArray [U8 0, S [], I 0, nilS]) tVal (0, 0)), .blk y8 (.cells (List.toArray [S [], S [], S []]) tKnd (0, 0)), .blk y6 (.cells (List.toArray [U8 (82 : Nat), S [], I 0, .slice a fs.length kc]) tVal (0, 0)), .blk y5 (.cells (List.toArray [S [], S [64], S (nm k)]) tKnd (0, 0))] (by intro y hy; simp only [List.mem_cons, List.not_mem_nil, or_false] at hy ⊢; rcases hy with hy | hy | hy | hy <;> simp [hy]) mixed ?_); refine jT 4 [0, 1, 2, 4] (bts 8 23) ?_; (refine jG (bts 8 31) 3 rfl (g_ldS rfl rfl (by assumption) rfl rfl) ?_); (refine jG (bts 8 63) 5 rfl (g_ld rfl rfl rfl) ?_); ((refine jG (bts 8 127) 6 rfl (g_lookupX rfl rfl (map_G (by assumption)) (by assumption) rfl) ?_)); refine jT 0 [7] (bts 8 255) ?_; refine x_done (by kernel_rfl) (k_bk ?_))
    all_goals repeat' (first | (refine jR ?_) | (refine k_op rfl ?_; first | refine jV (g_ldS rfl rfl (by assumption) rfl rfl) ?_ | (refine jV (g_pickF rfl rfl rfl) ?_) | refine jV (g_peq0 rfl rfl) ?_ | (refine c_rt rfl rfl rfl cx_fld rfl ?_)) | (refine k_gf rfl rfl (by first | rfl | (refine decide_eq_false ?_; (omega))) ?_) | (refine k_ff rfl (by first | rfl | (refine decide_eq_false ?_; (omega))) ?_))
    all_goals (refine k_any (s_any (id := 18) [.blk y6 (.cells (List.toArray [U8 (82 : Nat), S [], I 0, .slice a fs.length kc]) tVal (0, 0)), .blk y5 (.cells (List.toArray [S [], S [64], S (nm k)]) tKnd (0, 0))] (by intro y hy; simp only [List.mem_cons, List.not_mem_nil, or_false] at hy ⊢; rcases hy with hy | hy <;> simp [hy]) mixed ?_); refine jU 6 [0, 1, 2, 4, 6] (bts 11 87) ?_ ?_; (focus (repeat' (exact trivial))); ((refine jG (bts 11 95) 3 rfl (g_ldRA rfl rfl (by assumption) ?_ rfl rfl) ?_; (focus ((omega); done)))); (refine jG (bts 11 127) 5 rfl (g_ldA rfl rfl rfl rfl) ?_); refine jA 7 rfl ?_; (refine c_fns rfl rfl rfl cx_ge rfl ?_; rintro _ G hle ⟨cv, rfl, hrv⟩; skip); refine jK (bts 11 255) ?_; refine jA 8 rfl ?_; (refine c_stA rfl rfl rfl rfl rfl rfl ?_); refine jK (bts 11 511) ?_; refine jA 9 rfl ?_; (refine c_stA rfl rfl rfl rfl rfl rfl ?_); refine jK (bts 11 1023) ?_; refine jU 0 [10] (bts 11 2047) ?_ ?_; (focus (repeat' (exact trivial))); refine x_done (by kernel_rfl) (k_bk ?_))
    all_goals repeat' (refine jR ?_)
    all_goals refine jZ (vs := [_, _, _]) rfl ⟨rc_A rfl rfl rfl rfl, rc_A rfl rfl rfl rfl, rfl, trivial⟩ rfl ⟨hle, rfl, ?_⟩
    all_goals exact .inr ⟨_, _, cv, rfl, rfl, hrv⟩
   ·omega
   ·omega
  ·rw [if_neg (by omega), if_neg (by omega)] at hst
   rcases ofK_inv_t ho hrf with ⟨h1, _⟩ | ⟨h1, _⟩ | ⟨_, _, d, w, rfl, g4, g5⟩
   ·omega
   ·omega
   ·obtain ⟨a, kc, cs, rfl, _, _, _, hcl, hsl, hrs⟩ := rep_inv hr
    rw [V.reps] at hrs
    obtain ⟨c1, cs2, rfl, hri, hr2⟩ := hrs
    rw [V.reps] at hr2
    subst hr2
    have hsl : SlV G (.slice a 1 kc) 4 ([c1] : List VC).length (rows vcF [c1]) := hsl
    obtain ⟨xb, xo, xc, e, hsx⟩ := hsl.expl (by simp)
    simp only [Value.slice.injEq] at e
    obtain ⟨rfl, -, rfl⟩ := e
    have hxi : nth [c1] (Int.toNat 0) = c1 := rfl
    show FnS _ _ [Pt b 0, Ag [S [], S [64], S (nm k)], Ag [U8 (85 : Nat), S [], I d.tag, .slice (some ⟨xb, xo, none⟩) 1 kc], I n] G _
    by_cases hdn : d.tag = n
    ·rw [if_pos (show V.tag (.nd 85 [] d.tag [w]) = n from hdn)] at hst
     rw [hst]
     refine jB [(0, _), (1, _), (2, _), (3, _)] Tryz.func81 Tryz.ntmps81 fun B hok hB hW => ?_
     repeat' (first | (refine jR ?_) | (refine k_op rfl ?_; first | refine c_bx rfl rfl rfl fun _ => ?_ | refine c_al rfl rfl fun _ => ?_ | refine jV (g_ld rfl rfl rfl) ?_ | refine jV (g_ldA rfl rfl rfl rfl) ?_ | (refine c_rt rfl rfl rfl cx_sign rfl ?_)) | (refine k_ff rfl rfl ?_))
     rename_i y5 y6 y8 y9
     (refine k_any (s_any (id := 12) [.blk y9 (.cells (List.toArray [U8 0, S [], I 0, nilS]) tVal (0, 0)), .blk y8 (.cells (List.toArray [S [], S [], S []]) tKnd (0, 0)), .blk y6 (.cells (List.toArray [U8 (85 : Nat), S [], I d.tag, .slice (some ⟨xb, xo, none⟩) 1 kc]) tVal (0, 0)), .blk y5 (.cells (List.toArray [S [], S [64], S (nm k)]) tKnd (0, 0))] (by intro y hy; simp only [List.mem_cons, List.not_mem_nil, or_false] at hy ⊢; rcases hy with hy | hy | hy | hy <;> simp [hy]) mixed ?_); refine jT 4 [0, 1, 2, 4] (bts 8 23) ?_; (refine jG (bts 8 31) 3 rfl (g_ldS rfl rfl (by assumption) rfl rfl) ?_); (refine jG (bts 8 63) 5 rfl (g_ld rfl rfl rfl) ?_); ((refine jG (bts 8 127) 6 rfl (g_lookupX rfl rfl (map_G (by assumption)) (by assumption) rfl) ?_)); refine jT 0 [7] (bts 8 255) ?_; refine x_done (by kernel_rfl) (k_bk ?_))
     all_goals repeat' (first | (refine jR ?_) | (refine k_op rfl ?_; first | refine jV (g_ld rfl rfl rfl) ?_ | refine jV (g_ldS rfl rfl (by assumption) rfl rfl) ?_ | (refine jV (g_pickT rfl rfl rfl) ?_) | (refine jV (g_pickF rfl rfl rfl) ?_) | refine jV (g_peq0 rfl rfl) ?_ | (refine c_rt rfl rfl rfl cx_fld rfl ?_)) | (refine k_gt rfl rfl (dTt (by omega)) ?_) | (refine k_gf rfl rfl (by first | rfl | (refine decide_eq_false ?_; (omega))) ?_) | (refine k_tt rfl (dTt (by omega)) ?_) | (refine k_ff rfl (dFf (by omega)) ?_))
     all_goals (refine k_any (s_any (id := 17) [.blk y6 (.cells (List.toArray [U8 (85 : Nat), S [], I d.tag, .slice (some ⟨xb, xo, none⟩) 1 kc]) tVal (0, 0)), .blk y5 (.cells (List.toArray [S [], S [64], S (nm k)]) tKnd (0, 0))] (by intro y hy; simp only [List.mem_cons, List.not_mem_nil, or_false] at hy ⊢; rcases hy with hy | hy <;> simp [hy]) mixed ?_); refine jU 7 [0, 1, 2, 4] (bts 11 23) ?_ ?_; (focus (repeat' (exact trivial))); ((refine jG (bts 11 31) 3 rfl (g_ldRA rfl rfl (by assumption) ?_ rfl rfl) ?_; (focus ((omega); done)))); (refine jG (bts 11 63) 5 rfl (g_ld rfl rfl rfl) ?_); ((refine jG (bts 11 127) 6 rfl (g_iaddr rfl rfl ?_) ?_; (focus ((omega); done)))); ((refine jG (bts 11 255) 7 rfl (g_ldRx rfl rfl (by assumption) ?_ (by assumption)) ?_; (focus ((simp only [List.length_append, List.length_cons, List.length_nil, List.length_take]; omega); done)))); refine jA 8 rfl ?_; (refine c_stA rfl rfl rfl rfl rfl rfl ?_); refine jK (bts 11 511) ?_; refine jA 9 rfl ?_; (refine c_stA rfl rfl rfl rfl rfl rfl ?_); refine jK (bts 11 1023) ?_; refine jU 0 [10] (bts 11 2047) ?_ ?_; (focus (repeat' (exact trivial))); refine x_done (by kernel_rfl) (k_bk ?_))
     all_goals repeat' (refine jR ?_)
     all_goals refine jZ (vs := [_, _, _]) rfl ⟨rc_A rfl rfl rfl rfl, rc_A rfl rfl rfl rfl, rfl, trivial⟩ rfl ⟨Gh.le.refl _, rfl, ?_⟩
     all_goals exact .inr ⟨_, w, c1, rfl, rfl, hri⟩
    ·rw [if_neg (show ¬ V.tag (.nd 85 [] d.tag [w]) = n from hdn)] at hst
     rw [hst]
     refine jB [(0, _), (1, _), (2, _), (3, _)] Tryz.func81 Tryz.ntmps81 fun B hok hB hW => ?_
     repeat' (first | (refine jR ?_) | (refine k_op rfl ?_; first | refine c_bx rfl rfl rfl fun _ => ?_ | refine c_al rfl rfl fun _ => ?_ | refine jV (g_ld rfl rfl rfl) ?_ | refine jV (g_ldA rfl rfl rfl rfl) ?_ | (refine c_rt rfl rfl rfl cx_sign rfl ?_)) | (refine k_ff rfl rfl ?_))
     rename_i y5 y6 y8 y9
     (refine k_any (s_any (id := 12) [.blk y9 (.cells (List.toArray [U8 0, S [], I 0, nilS]) tVal (0, 0)), .blk y8 (.cells (List.toArray [S [], S [], S []]) tKnd (0, 0)), .blk y6 (.cells (List.toArray [U8 (85 : Nat), S [], I d.tag, .slice (some ⟨xb, xo, none⟩) 1 kc]) tVal (0, 0)), .blk y5 (.cells (List.toArray [S [], S [64], S (nm k)]) tKnd (0, 0))] (by intro y hy; simp only [List.mem_cons, List.not_mem_nil, or_false] at hy ⊢; rcases hy with hy | hy | hy | hy <;> simp [hy]) mixed ?_); refine jT 4 [0, 1, 2, 4] (bts 8 23) ?_; (refine jG (bts 8 31) 3 rfl (g_ldS rfl rfl (by assumption) rfl rfl) ?_); (refine jG (bts 8 63) 5 rfl (g_ld rfl rfl rfl) ?_); ((refine jG (bts 8 127) 6 rfl (g_lookupX rfl rfl (map_G (by assumption)) (by assumption) rfl) ?_)); refine jT 0 [7] (bts 8 255) ?_; refine x_done (by kernel_rfl) (k_bk ?_))
     all_goals repeat' (first | (refine jR ?_) | (refine k_op rfl ?_; first | refine jV (g_ld rfl rfl rfl) ?_ | refine jV (g_ldS rfl rfl (by assumption) rfl rfl) ?_ | refine jV (g_bld rfl rfl) ?_ | refine c_stA rfl rfl rfl rfl rfl rfl ?_ | (refine jV (g_pickT rfl rfl rfl) ?_) | (refine jV (g_pickF rfl rfl rfl) ?_) | refine jV (g_peq0 rfl rfl) ?_ | (refine c_rt rfl rfl rfl cx_fld rfl ?_)) | (refine k_gt rfl rfl (dTt (by omega)) ?_) | (refine k_gf rfl rfl (by first | rfl | (refine decide_eq_false ?_; (omega))) ?_) | (refine k_tt rfl (dTt ‹_›) ?_))
     all_goals refine jZ (vs := [_, _, _]) rfl ⟨rc_A rfl rfl rfl rfl, rc_A rfl rfl rfl rfl, rfl, trivial⟩ rfl ⟨Gh.le.refl _, rfl, ?_⟩
     all_goals exact .inl ⟨rfl, rfl⟩
  ·rw [if_pos hso] at hst
   rw [hst]
   obtain ⟨w, tx, tg, a, mm, kc⟩ := c
   have e0 : vcF ⟨w, tx, tg, a, mm, kc⟩ = [U8 (w : Nat), S tx, I tg, .slice a mm kc] := rfl
   rw [e0]
   refine jB [(0, _), (1, _), (2, _), (3, _)] Tryz.func81 Tryz.ntmps81 fun B hok hB hW => ?_
   repeat' (first | (refine jR ?_) | (refine k_op rfl ?_; first | refine c_bx rfl rfl rfl fun _ => ?_ | refine c_al rfl rfl fun _ => ?_ | refine jV (g_ld rfl rfl rfl) ?_ | refine jV (g_ldA rfl rfl rfl rfl) ?_ | (refine c_rt rfl rfl rfl cx_sign rfl ?_)) | (refine k_ff rfl rfl ?_))
   rename_i y5 y6 y8 y9
   (refine k_any (s_any (id := 12) [.blk y9 (.cells (List.toArray [U8 0, S [], I 0, nilS]) tVal (0, 0)), .blk y8 (.cells (List.toArray [S [], S [], S []]) tKnd (0, 0)), .blk y6 (.cells (List.toArray [U8 (w : Nat), S tx, I tg, .slice a mm kc]) tVal (0, 0)), .blk y5 (.cells (List.toArray [S [], S [64], S (nm k)]) tKnd (0, 0))] (by intro y hy; simp only [List.mem_cons, List.not_mem_nil, or_false] at hy ⊢; rcases hy with hy | hy | hy | hy <;> simp [hy]) mixed ?_); refine jT 4 [0, 1, 2, 4] (bts 8 23) ?_; (refine jG (bts 8 31) 3 rfl (g_ldS rfl rfl (by assumption) rfl rfl) ?_); (refine jG (bts 8 63) 5 rfl (g_ld rfl rfl rfl) ?_); ((refine jG (bts 8 127) 6 rfl (g_lookupX rfl rfl (map_G (by assumption)) (by assumption) rfl) ?_)); refine jT 0 [7] (bts 8 255) ?_; refine x_done (by kernel_rfl) (k_bk ?_))
   all_goals repeat' (first | (refine jR ?_) | (refine k_op rfl ?_; first | refine jV (g_ldS rfl rfl (by assumption) rfl rfl) ?_ | refine jV (g_bld rfl rfl) ?_ | refine c_stA rfl rfl rfl rfl rfl rfl ?_ | (refine jV (g_pickT rfl rfl rfl) ?_) | (refine jV (g_pickF rfl rfl rfl) ?_) | refine jV (g_peq0 rfl rfl) ?_ | (refine c_rt rfl rfl rfl cx_fld rfl ?_)) | (refine k_gt rfl rfl (dTt (by omega)) ?_) | (refine k_gf rfl rfl rfl ?_) | (refine k_tt rfl rfl ?_))
   all_goals refine jZ (vs := [_, _, _]) rfl ⟨rc_A rfl rfl rfl rfl, rc_A rfl rfl rfl rfl, rfl, trivial⟩ rfl ⟨Gh.le.refl _, rfl, ?_⟩
   all_goals exact .inl ⟨rfl, rfl⟩
theorem c_stepI {b : Nat} {qs : List TyP} {k : List UInt8} {v : V} {c : VC} {n : Int} (hS : ScI G b qs) (hw : SchW (tyq qs)) (hki : kindIn (tyq qs) k = true) (ho : OfK (tyq qs) k v) (hr : V.rep G v c) (hn : 0 ≤ n ∧ n ≤ 999999) (htt : v.tot ≤ 1000000) :
  FnS Tryz.prog 81 [Pt b 0, Ag (kdF k), Ag (vcF c), I n] G (StepPI (tyq qs) (stepV (tyq qs) k v n)) := by
 cases hrf : refT (tyq qs) k with
 | some t => exact c_stepT hS hw hki hrf ho hr hn htt
 | none =>
  obtain ⟨ch, r, rfl⟩ := kind_ne hki
  by_cases h91 : ch.toNat = 91 ∨ ch.toNat = 63
  ·rcases ofK_inv_c ho (by omega) with ⟨h1, _⟩ | ⟨h1, _⟩ | ⟨h1, _⟩ | ⟨h1, ks, _, _, rfl⟩ | ⟨h1, h2⟩
   ·omega
   ·omega
   ·omega
   ·obtain rfl := u8_eq h1 (by decide)
    have := tots_len ks
    rw [nd_tot] at htt
    exact c_stepL hr hn (by omega)
   ·obtain rfl := u8_eq h1 (by decide)
    rcases h2 with rfl | ⟨w, _, rfl⟩
    ·exact c_stepO (.inl rfl) hr hn
    ·exact c_stepO (.inr ⟨w, rfl⟩) hr hn
  ·exact c_stepP (plain_kinds hki h91 hrf)
end Go.E
namespace Go.E
set_option maxRecDepth 20000
set_option maxHeartbeats 2000000
open Go.Proofs
variable {G : Gh}
theorem c_followI {b : Nat} {qs : List TyP} (hS : ScI G b qs) (hw : SchW (tyq qs)) {p : List Int} {pv : Value} (hp : SlV G pv 1 p.length (rows inR p)) (hpn : ∀ n ∈ p, 0 ≤ n ∧ n ≤ 999999) (hpl : p.length ≤ 1000) {k : List UInt8} {v : V} {c : VC} (hr : V.rep G v c) (ho : OfK (tyq qs) k v) (hki : kindIn (tyq qs) k = true) (htt : v.tot ≤ 1000000) :
  FnS Tryz.prog 36 [Pt b 0, Ag (kdF k), Ag (vcF c), pv] G (StepPI (tyq qs) (followV (tyq qs) k v p)) := by
 obtain ⟨pa, pc, rfl⟩ := hp.sl
 unfold kdF
 have e0 : vcF c = [U8 (c.what : Nat), S c.text, I c.tag, .slice c.a c.n c.c] := rfl
 rw [e0]
 refine jB [(0, _), (1, _), (2, _), (3, _)] Tryz.func36 Tryz.ntmps36 fun B hok hB hW => ?_
 repeat' (first | (refine jR ?_) | (refine k_op rfl ?_; first | refine c_bx rfl rfl rfl fun _ => ?_ | refine c_al rfl rfl fun _ => ?_ | refine jV (g_lenL rfl) ?_))
 rename_i y5 y6 y8 y9
 refine k_loop (ι := List UInt8 × V × VC × Nat × Gh) (fun j => ((V.rep j.2.2.2.2 j.2.1 j.2.2.1 ∧ OfK (tyq qs) j.1 j.2.1) ∧ (kindIn (tyq qs) j.1 = true ∧ j.2.1.tot ≤ 1000000)) ∧ (Gh.le G j.2.2.2.2 ∧ j.2.2.2.1 ≤ p.length) ∧ followV (tyq qs) k v p = followV (tyq qs) j.1 j.2.1 (p.drop j.2.2.2.1)) (fun j => [(0, Pt b 0), (5, Pt y5 0), (6, Pt y6 0), (8, Pt y8 0), (9, Pt y9 0), (14, .slice pa p.length pc), (15, I p.length), (16, I j.2.2.2.1)]) (fun j => j.2.2.2.2) (fun j => [.blk y9 (.cells (List.toArray [U8 0, S [], I 0, nilS]) tVal (0, 0)), .blk y8 (.cells (List.toArray [S [], S [], S []]) tKnd (0, 0)), .blk y6 (.cells (List.toArray [U8 (j.2.2.1.what : Nat), S j.2.2.1.text, I j.2.2.1.tag, .slice j.2.2.1.a j.2.2.1.n j.2.2.1.c]) tVal (0, 0)), .blk y5 (.cells (List.toArray [S (sg j.1), S (bs j.1), S (nm j.1)]) tKnd (0, 0))]) (fun j => p.length - j.2.2.2.1) (k, v, c, 0, G) ?_ (by repeat' constructor) rfl sRr (fun j Hj => ?_)
 ·exact ⟨⟨⟨hr, ho⟩, hki, htt⟩, ⟨Gh.le.refl _, Nat.zero_le _⟩, rfl⟩
 obtain ⟨k0, v0, c0, i, Gq⟩ := j
 dsimp only at Hj ⊢
 obtain ⟨⟨⟨hr0, ho0⟩, hk0, ht0⟩, ⟨hgq, hi0⟩, he⟩ := Hj
 by_cases hi : i < p.length
 ·obtain ⟨xb, xo, xc, e, hs1⟩ := (hp.mono hgq).expl (by omega)
  simp only [Value.slice.injEq] at e
  obtain ⟨rfl, -, rfl⟩ := e
  have hni := hpn _ (nth_mem hi)
  have hti : nth p i = nth p i := rfl
  have hstp := c_stepI (hS.mono hgq) hw hk0 ho0 hr0 hni ht0
  unfold kdF at hstp
  rw [show vcF c0 = [U8 (c0.what : Nat), S c0.text, I c0.tag, .slice c0.a c0.n c0.c] from rfl] at hstp
  rw [followV_drop hi] at he
  cases hsv : stepV (tyq qs) k0 v0 (nth p i) with
  | none =>
   have cx_stn := StepPI.no hstp hsv
   rw [hsv] at he
   repeat' (first | (refine jR ?_) | (refine k_op rfl ?_; first | (refine jV (g_iaddrN rfl rfl (by omega)) ?_) | refine jV (g_ldA rfl rfl rfl rfl) ?_ | (refine jV (g_ldR1x rfl rfl (by assumption) ?_ (by assumption) rfl) ?_; (focus ((omega); done))) | refine c_stA rfl rfl rfl rfl rfl rfl ?_ | refine jV (g_bld rfl rfl) ?_ | (refine c_fns rfl rfl rfl cx_stn rfl ?_; rintro _ G hle rfl; skip)) | (refine k_tt rfl (by first | rfl | (refine decide_eq_true ?_; (omega))) ?_))
   all_goals refine jZ (vs := [_, _, _]) rfl ⟨rc_A rfl rfl rfl rfl, rc_A rfl rfl rfl rfl, rfl, trivial⟩ rfl ⟨hgq.trans hle, rfl, ?_⟩
   all_goals exact .inl ⟨he, rfl⟩
  | some y =>
   obtain ⟨k1, v1⟩ := y
   have cx_sty := StepPI.yes hstp hsv
   rw [hsv] at he
   obtain ⟨g1, g2⟩ := stepV_ok hw ho0 hk0 hni.1 hsv
   have g3 := stepV_tot hw ho0 hk0 hni.1 hsv ht0 (by omega)
   repeat' (first | refine jM ?_ | (refine k_op rfl ?_; first | (refine jV (g_iaddrN rfl rfl (by omega)) ?_) | refine jV (g_ldA rfl rfl rfl rfl) ?_ | (refine jV (g_ldR1x rfl rfl (by assumption) ?_ (by assumption) rfl) ?_; (focus ((omega); done))) | refine c_stA rfl rfl rfl rfl rfl rfl ?_ | (refine c_fns rfl rfl rfl cx_sty rfl ?_; rintro _ G hle ⟨cv, rfl, hrv⟩; skip)) | (refine k_tt rfl (dTt (by omega)) ?_) | (refine k_ff rfl rfl ?_))
   exact k_rd (k1, v1, cv, i + 1, G) ⟨⟨⟨hrv, g1⟩, g2, g3⟩, ⟨hgq.trans hle, by dsimp only; omega⟩, he⟩ (by dsimp only; omega) (by repeat' constructor) rfl sRr
 ·have hd : p.drop i = [] := List.drop_eq_nil_of_le (by omega)
  rw [hd] at he
  repeat' (first | (refine jR ?_) | (refine k_ff rfl (dFf (by omega)) ?_))
  (refine k_any (s_any (id := 9) [.blk y6 (.cells (List.toArray [U8 (c0.what : Nat), S c0.text, I c0.tag, .slice c0.a c0.n c0.c]) tVal (0, 0)), .blk y5 (.cells (List.toArray [S (sg k0), S (bs k0), S (nm k0)]) tKnd (0, 0))] (by intro y hy; simp only [List.mem_cons, List.not_mem_nil, or_false] at hy ⊢; rcases hy with hy | hy <;> simp [hy]) mixed ?_); (refine jG (bts 5 1) 0 rfl (g_ldA rfl rfl rfl rfl) ?_); (refine jG (bts 5 3) 1 rfl (g_ldA rfl rfl rfl rfl) ?_); refine jA 2 rfl ?_; (refine c_stA rfl rfl rfl rfl rfl rfl ?_); refine jK (bts 5 7) ?_; refine jA 3 rfl ?_; (refine c_stA rfl rfl rfl rfl rfl rfl ?_); refine jK (bts 5 15) ?_; refine jU 0 [4] (bts 5 31) ?_ ?_; (focus (repeat' (exact trivial))); refine x_done (by kernel_rfl) (k_bk ?_))
  all_goals repeat' (refine jR ?_)
  all_goals refine jZ (vs := [_, _, _]) rfl ⟨rc_A rfl rfl rfl rfl, rc_A rfl rfl rfl rfl, rfl, trivial⟩ rfl ⟨hgq, rfl, ?_⟩
  all_goals exact .inr ⟨_, _, c0, he, rfl, hr0⟩
theorem readPath_no {s : List UInt8} (h : s.length ≤ 1048576) (hp : pathOf s = none) : ∀ G, FnS Tryz.prog 35 [S s] G (fun v _ => ∃ a c n, v = Tu [.slice a n c, Bo false] ∧ True) := fun G => by
 refine (c_readPath (G := G) h).mono ?_
 rintro v G' L' ⟨h1, h2, a, c, n, rfl, _⟩
 exact ⟨h1, h2, a, c, n, by rw [hp]; rfl, trivial⟩
theorem readPath_yes {s : List UInt8} {p : List Int} (h : s.length ≤ 1048576) (hp : pathOf s = some p) : ∀ G, FnS Tryz.prog 35 [S s] G (fun v G' => ∃ a c n, v = Tu [.slice a n c, Bo true] ∧ n = p.length ∧ SlV G' (.slice a n c) 1 p.length (rows inR p)) := fun G => by
 refine (c_readPath (G := G) h).mono ?_
 rintro v G' L' ⟨h1, h2, a, c, n, rfl, h3⟩
 exact ⟨h1, h2, a, c, n, by rw [hp]; rfl, h3 p hp⟩
theorem c_PathGetI {s k w p : List UInt8} (h1 : s.length ≤ 1048576 ∧ k.length ≤ 1048576 ∧ w.length ≤ 1048576 ∧ p.length ≤ 1048576) : PuG Tryz.prog 15 [S s, S k, S w, S p] G (· = pgR (pathGetV s k w p)) := by
 unfold pathGetV
 cases hg : givenV s k w with
 | none =>
  rw [pgv_none]
  have cx_gi0 := c_given0 (G := G) (s := s) (k := k) (w := w) (by omega) hg
  cases hpo : pathOf p with
  | none =>
   have cx_sp := readPath_no h1.2.2.2 hpo
   refine jB (Post := fun v G' L' => G' = G ∧ L' = [] ∧ _) [(0, _), (1, _), (2, _), (3, _)] Tryz.func15 Tryz.ntmps15 fun B hok hB hW => ?_
   repeat' (first | (refine jR ?_) | (refine k_op rfl ?_; first | refine c_al rfl rfl fun _ => ?_ | refine c_stA rfl rfl rfl rfl rfl rfl ?_ | (refine jV (g_pickT rfl rfl rfl) ?_) | (refine c_fns rfl rfl rfl cx_gi0 rfl ?_; rintro _ G hle ⟨p1, a1, b1, c1, rfl⟩; skip) | (refine c_fns rfl rfl rfl (cx_sp _) rfl ?_; rintro _ G hle ⟨sa, sc, sn, rfl, hsp⟩; skip)) | (refine k_gt rfl rfl rfl ?_) | (refine k_tt rfl rfl ?_))
   all_goals refine Nx.base hok hB ?_
   all_goals refine jZ (vs := [_, _, _]) rfl ⟨rfl, rfl, rfl, trivial⟩ rfl ⟨rfl, rfl, ?_⟩
   all_goals rfl
  | some q =>
   have cx_sp := readPath_yes h1.2.2.2 hpo
   refine jB (Post := fun v G' L' => G' = G ∧ L' = [] ∧ _) [(0, _), (1, _), (2, _), (3, _)] Tryz.func15 Tryz.ntmps15 fun B hok hB hW => ?_
   repeat' (first | (refine jR ?_) | (refine k_op rfl ?_; first | refine c_al rfl rfl fun _ => ?_ | refine c_stA rfl rfl rfl rfl rfl rfl ?_ | (refine jV (g_pickT rfl rfl rfl) ?_) | (refine c_fns rfl rfl rfl cx_gi0 rfl ?_; rintro _ G hle ⟨p1, a1, b1, c1, rfl⟩; skip) | (refine c_fns rfl rfl rfl (cx_sp _) rfl ?_; rintro _ G hle ⟨sa, sc, sn, rfl, hsp⟩; skip)) | (refine k_gt rfl rfl rfl ?_) | (refine k_tt rfl rfl ?_))
   all_goals refine Nx.base hok hB ?_
   all_goals refine jZ (vs := [_, _, _]) rfl ⟨rfl, rfl, rfl, trivial⟩ rfl ⟨rfl, rfl, ?_⟩
   all_goals rfl
 | some u =>
  obtain ⟨ts, hs, hki, hvo, hto, hwf⟩ := given_some hg
  have cx_gi1 := c_given1 (G := G) (s := s) (k := k) (w := w) (by omega) hs hki hvo
  rw [hs]
  cases hpo : pathOf p with
  | none =>
   have cx_sp := readPath_no h1.2.2.2 hpo
   refine jB (Post := fun v G' L' => G' = G ∧ L' = [] ∧ _) [(0, _), (1, _), (2, _), (3, _)] Tryz.func15 Tryz.ntmps15 fun B hok hB hW => ?_
   repeat' (first | (refine jR ?_) | (refine k_op rfl ?_; first | refine c_al rfl rfl fun _ => ?_ | refine c_stA rfl rfl rfl rfl rfl rfl ?_ | (refine jV (g_pickF rfl rfl rfl) ?_) | (refine c_fns rfl rfl rfl cx_gi1 rfl ?_; rintro _ G hle ⟨bg, qg, cv, rfl, hTg, hRg, hrv⟩; skip) | (refine c_fns rfl rfl rfl (cx_sp _) rfl ?_; rintro _ G hle ⟨sa, sc, sn, rfl, hsp⟩; skip)) | (refine k_gf rfl rfl rfl ?_) | (refine k_tt rfl rfl ?_))
   all_goals refine Nx.base hok hB ?_
   all_goals refine jZ (vs := [_, _, _]) rfl ⟨rfl, rfl, rfl, trivial⟩ rfl ⟨rfl, rfl, ?_⟩
   all_goals rfl
  | some q =>
   have cx_sp := readPath_yes h1.2.2.2 hpo
   obtain ⟨hq8, hqn⟩ := pathOf_le hpo
   have hof := valOf_of_k hvo
   have hw := schemaOf_w hs
   dsimp only
   refine jB (Post := fun v G' L' => G' = G ∧ L' = [] ∧ _) [(0, _), (1, _), (2, _), (3, _)] Tryz.func15 Tryz.ntmps15 fun B hok hB hW => ?_
   repeat' (first | (refine jR ?_) | (refine k_op rfl ?_; first | refine c_al rfl rfl fun _ => ?_ | refine c_stA rfl rfl rfl rfl rfl rfl ?_ | (refine jV (g_pickF rfl rfl rfl) ?_) | refine jV (g_ldA rfl rfl rfl rfl) ?_ | (refine c_fns rfl rfl rfl cx_gi1 rfl ?_; rintro _ G hle ⟨bg, qg, cv, rfl, hTg, hRg, hrv⟩; (try have hrv := rep_mono hle hrv); (try have hRg := ScI.mono hRg hle)) | (refine c_fns rfl rfl rfl (cx_sp _) rfl ?_; rintro _ G hle ⟨sa, sc, sn, rfl, hsp⟩; (try have hrv := rep_mono hle hrv); (try have hRg := ScI.mono hRg hle))) | (refine k_gf rfl rfl rfl ?_) | (refine k_ff rfl rfl ?_))
   obtain ⟨rfl, hsp⟩ := hsp
   subst hTg
   have hfl := c_followI hRg hw hsp hqn (by omega) hrv hof hki (by omega)
   unfold kdF at hfl
   rw [show vcF cv = [U8 (cv.what : Nat), S cv.text, I cv.tag, .slice cv.a cv.n cv.c] from rfl] at hfl
   cases hfo : followV (tyq qg) k u q with
   | none =>
    have cx_fon := StepPI.no hfl hfo
    repeat' (first | (refine jR ?_) | (refine k_op rfl ?_; first | refine c_stA rfl rfl rfl rfl rfl rfl ?_ | (refine c_fns rfl rfl rfl cx_fon rfl ?_; rintro _ G hle rfl; skip)) | (refine k_tt rfl rfl ?_))
    all_goals refine Nx.base hok hB ?_
    all_goals refine jZ (vs := [_, _, _]) rfl ⟨rfl, rfl, rfl, trivial⟩ rfl ⟨rfl, rfl, ?_⟩
    all_goals rfl
   | some y =>
    obtain ⟨k1, v1⟩ := y
    have cx_foy := StepPI.yes hfl hfo
    have g3 := followV_tot hw hof hki (fun n hn => (hqn n hn).1) hfo (N := 1000000) (by omega) (by omega)
    obtain ⟨_, hk1⟩ := followV_ok hw hof hki (fun n hn => (hqn n hn).1) hfo
    repeat' (first | (refine jR ?_) | (refine k_op rfl ?_; first | refine c_stA rfl rfl rfl rfl rfl rfl ?_ | (refine c_fns rfl rfl rfl cx_foy rfl ?_; rintro _ G hle ⟨cv, rfl, hrv⟩; skip)) | (refine k_ff rfl rfl ?_))
    have cx_txt := c_textI (G := G) (kindIn_ok hk1)
    have cx_pr := c_print (G := G) (c := cv) v1.tot (Nat.le_refl _) g3 hrv
    unfold kdF at cx_txt
    rw [show vcF cv = [U8 (cv.what : Nat), S cv.text, I cv.tag, .slice cv.a cv.n cv.c] from rfl] at cx_pr
    rename_i y12 y13 _ _ _ _
    (refine k_any (s_any (id := 8) _ (fun _ h => h) mixed ?_); (refine jG (bts 7 1) 0 rfl (g_ldA rfl rfl rfl rfl) ?_); (refine jG (bts 7 5) 2 rfl (g_ldA rfl rfl rfl rfl) ?_); refine jA 1 rfl ?_; (refine c_rt rfl rfl rfl cx_txt rfl ?_); refine jS (bts 7 7) ?_; refine jA 3 rfl ?_; (refine c_rt rfl rfl rfl cx_pr rfl ?_); refine jS (bts 7 15) ?_; refine jT 0 [4, 5, 6] (bts 7 127) ?_; refine x_done (by kernel_rfl) (k_bk ?_))
    all_goals repeat' (refine jR ?_)
    all_goals refine Nx.base hok hB ?_
    all_goals refine jZ (vs := [_, _, _]) rfl ⟨rfl, rfl, rfl, trivial⟩ rfl ⟨rfl, rfl, ?_⟩
    all_goals rfl
theorem pgv_len {s k w p : List UInt8} : (((pathGetV s k w p).map (·.1)).getD []).length ≤ 400 ∧ (((pathGetV s k w p).map (·.2)).getD []).length ≤ 400 := by
 cases h : pathGetV s k w p with
 | none => simp
 | some y =>
  obtain ⟨k1, x1⟩ := y
  obtain ⟨ts, u, q, v1, h1, h2, h3, h4, rfl⟩ := pgv_some h
  obtain ⟨ts', g1, g2, g3, g4, g5⟩ := given_some h2
  obtain rfl : ts = ts' := Option.some.inj (h1.symm.trans g1)
  have hw := schemaOf_w h1
  obtain ⟨b1, b2, b3, b4⟩ := pathOf_text h3
  have hq0 : ∀ n ∈ q, 0 ≤ n := fun n hn => (b3 n hn).1
  have ho := valOf_of_k g3
  obtain ⟨c1, c2⟩ := followV_ok hw ho g2 hq0 h4
  obtain ⟨d1, d2, d3⟩ := valOf_out g3
  obtain ⟨e1, e2⟩ := followV_fits hw ho g2 hq0 h4 d3 (by rw [d1]; exact d2)
  have := (kindOk_kOk (kindIn_ok c2)).2
  exact ⟨by simpa using (by omega : k1.length ≤ 400), by simpa using e2⟩
theorem c_DrawPathGet {v : Value} {l : List UInt8} (hs : SlV G v 1 l.length (u8s l)) : PuG Tryz.prog 14 [v] G (fun r => ∃ s k x p, r = Tu [S s, S k, S x, S p] ∧ s.length ≤ 1048576 ∧ k.length ≤ 1048576 ∧ x.length ≤ 1048576 ∧ p.length ≤ 1048576) := by
 refine jE [(0, _)] Tryz.func14 Tryz.ntmps14 fun B hB => ?_
 repeat' (first | (refine jR ?_) | (refine k_op rfl ?_; first | (refine c_fng rfl rfl rfl (c_l6Open (by (repeat (assumption)); done)) rfl ?_; rintro _ _ ⟨b, code, l, rfl, rfl, hcd, hcl⟩; dsimp only [zA, fA]) | (refine c_m1g rfl rfl rfl (c_l91Three ?_ (by (repeat (assumption)); done)) rfl ?_; (focus ((omega); done)); rintro _ _ ⟨sc, kd, tx, q1, rfl, ⟨hsc, hkd, htx⟩, rfl, hq1, hq2⟩; dsimp only [zA, fA]) | (refine c_m1g rfl rfl rfl (c_l91Path ?_ (by (repeat (assumption)); done) ?_) rfl ?_; (focus ((omega); done)); (focus ((omega); done)); rintro _ _ ⟨pth, q1, rfl, hpth, rfl, hq1, hq2⟩; dsimp only [zA, fA])))
 exact jZ (vs := [_, _, _, _]) rfl ⟨rfl, rfl, rfl, rfl, trivial⟩ rfl ⟨rfl, rfl, _, _, _, _, rfl, by omega, by omega, by omega, by omega⟩
theorem c_FnPathTwo {v : Value} {l : List UInt8} (hs : SlV G v 1 l.length (u8s l)) : PuG Tryz.prog 7 [v] G (· = Bo true) := by
 obtain ⟨a, cap, rfl⟩ := hs.sl
 refine jE [(0, _)] Tryz.func7 Tryz.ntmps7 fun B hB => ?_
 repeat' (first | (refine jR ?_) | (refine k_op rfl ?_; first | refine jV (g_lenL rfl) ?_ | (refine c_pu rfl rfl rfl (c_DrawPathGet (by (repeat (assumption)); done)) rfl ?_; rintro _ ⟨s1, k1, x1, p1, rfl, hsz⟩)) | refine k_if rfl (fun _ => ?_) (fun _ => ?_))
 ·refine jZ (vs := [_]) rfl ⟨rfl, trivial⟩ rfl ⟨rfl, rfl, ?_⟩
  rfl
 have cx_ss1 := c_PathGetI (G := G) hsz
 have cx_ss2 := c_PathGetS (G := G) hsz
 have hpl := pgv_len (s := s1) (k := k1) (w := x1) (p := p1)
 cases h : pathGetV s1 k1 x1 p1 with
 | none =>
  rw [h] at cx_ss1 cx_ss2
  unfold pgR at cx_ss1 cx_ss2
  simp only [Option.map_none, Option.getD_none, Option.isSome_none] at cx_ss1 cx_ss2
  repeat' (first | (refine jR ?_) | (refine k_op rfl ?_; first | (refine jV (g_pickT rfl rfl rfl) ?_) | (refine jV (g_pickF rfl rfl rfl) ?_) | (refine c_rt rfl rfl rfl cx_ss1 rfl ?_) | (refine c_rt rfl rfl rfl cx_ss2 rfl ?_)) | (refine k_gt rfl rfl rfl ?_) | (refine k_gf rfl rfl rfl ?_) | (refine k_tt rfl rfl ?_))
  all_goals refine jZ (vs := [_]) rfl ⟨rfl, trivial⟩ rfl ⟨rfl, rfl, ?_⟩
  all_goals rfl
 | some y =>
  obtain ⟨kk, xx⟩ := y
  rw [h] at cx_ss1 cx_ss2 hpl
  unfold pgR at cx_ss1 cx_ss2
  simp only [Option.map_some, Option.getD_some, Option.isSome_some] at cx_ss1 cx_ss2 hpl
  by_cases hp : p1 = []
  ·repeat' (first | (refine jR ?_) | (refine k_op rfl ?_; first | (refine jV (g_pickT rfl rfl rfl) ?_) | (refine jV (g_pickF rfl rfl rfl) ?_) | (refine c_rt rfl rfl rfl cx_ss1 rfl ?_) | (refine c_rt rfl rfl rfl cx_ss2 rfl ?_)) | (refine k_gt rfl rfl (dTt rfl) ?_) | (refine k_gf rfl rfl ?_ ?_; (focus ((first | rfl | (simp [*]; done)); done))) | (refine k_tt rfl (dTt ‹_›) ?_))
   all_goals refine jZ (vs := [_]) rfl ⟨rfl, trivial⟩ rfl ⟨rfl, rfl, ?_⟩
   all_goals (rfl)
  ·have hpp : 0 < p1.length := List.length_pos_iff.2 hp
   repeat' (first | (refine jR ?_) | (refine k_op rfl ?_; first | (refine jV (g_pickF rfl rfl rfl) ?_) | (refine c_rt rfl rfl rfl cx_ss1 rfl ?_) | (refine c_rt rfl rfl rfl cx_ss2 rfl ?_)) | (refine k_gf rfl rfl ?_ ?_; (focus ((first | rfl | (simp [*]; done)); done))) | (refine k_ff rfl (dFf ‹_›) ?_))
   refine k_loop (ι := Nat) (fun i => i ≤ p1.length ∧ ∀ j, j < i → bt p1 j ≠ 47) (fun i => [(3, S s1), (4, S k1), (5, S x1), (6, S p1), (7, S kk), (8, S xx), (13, I i)]) (fun _ => G) (fun i => []) (fun i => p1.length - i) 0 ?_ (by repeat' constructor) rfl sRr (fun i Hi => ?_)
   ·exact ⟨Nat.zero_le _, fun j hj => absurd hj (Nat.not_lt_zero _)⟩
   obtain ⟨hi0, hj⟩ := Hi
   have key : ∀ a b : List UInt8, (a, b) = ((cut1 47 p1).1, (cut1 47 p1).2.1) → (b.length ≤ 1048576) → ∃ m w, pathGetV s1 k1 x1 a = some (m, w) ∧ pathGetV s1 m w b = some (kk, xx) ∧ m.length ≤ 400 ∧ w.length ≤ 400 := fun a b hab hb => by
    obtain ⟨m, w, h1, h2⟩ := path_two h hp hab
    have h3 := pgv_len (s := s1) (k := k1) (w := x1) (p := a)
    rw [h1] at h3
    exact ⟨m, w, h1, h2, by simpa using h3.1, by simpa using h3.2⟩
   by_cases hi : i < p1.length
   ·by_cases hc : bt p1 (Int.toNat ((i : Nat) : Int)) = 47
    ·have hcut := cut1_at (k := 47) hi hj hc
     have hdl : (p1.drop (i + 1)).length ≤ 1048576 := by rw [List.length_drop]; omega
     have htl : (p1.take i).length ≤ 1048576 := by rw [List.length_take]; omega
     obtain ⟨m, w, h1, h2, h3, h4⟩ := key (p1.take i) (p1.drop (i + 1)) (by rw [hcut]) hdl
     have cx_pg1 : PuG Tryz.prog 15 [S s1, S k1, S x1, S (List.take (Int.toNat ((i : Nat) : Int)) p1)] G (· = Tu [S m, S w, Bo true]) := by
      have := c_PathGetI (G := G) (s := s1) (k := k1) (w := x1) (p := p1.take i) ⟨hsz.1, hsz.2.1, hsz.2.2.1, htl⟩
      rw [h1] at this; exact this
     have cx_pg2 : PuG Tryz.prog 15 [S s1, S m, S w, S (List.drop (Int.toNat (((i : Nat) : Int) + 1)) p1)] G (· = Tu [S kk, S xx, Bo true]) := by
      have := c_PathGetI (G := G) (s := s1) (k := m) (w := w) (p := p1.drop (i + 1)) ⟨hsz.1, by omega, by omega, hdl⟩
      rw [h2] at this; exact this
     clear key hj h cx_ss1 cx_ss2
     repeat' (first | refine jM ?_ | (refine k_op rfl ?_; first | (refine jV (g_pickT rfl rfl rfl) ?_) | (refine c_rt rfl rfl rfl cx_pg1 rfl ?_) | (refine c_rt rfl rfl rfl cx_pg2 rfl ?_)) | (refine k_gt rfl rfl (by first | rfl | (refine decide_eq_true ?_; first | rfl | omega)) ?_) | (refine k_tt rfl (dTt (by omega)) ?_) | (refine k_ff rfl (dFf (by omega)) ?_))
     all_goals refine jZ (vs := [_]) rfl ⟨rfl, trivial⟩ rfl ⟨rfl, rfl, ?_⟩
     all_goals (exact congrArg Value.bool (decide_eq_true rfl))
    ·clear key
     repeat' (first | refine jM ?_ | (refine k_op rfl ?_; (refine jV (g_pickT rfl rfl rfl) ?_)) | (refine k_gt rfl rfl (dTt (by omega)) ?_) | (refine k_tt rfl (dTt (by omega)) ?_))
     exact k_rd (i + 1) ⟨by omega, fun j hj2 => by
      rcases Nat.lt_or_ge j i with h9 | h9
      ·exact hj j h9
      ·obtain rfl : j = i := by omega
       exact hc⟩ (by omega) (by repeat' constructor) rfl sRr
   ·obtain rfl : i = p1.length := by omega
    have hcut := cut1_no (k := 47) hj
    obtain ⟨m, w, h1, h2, h3, h4⟩ := key p1 [] (by rw [hcut]) (by simp)
    have cx_pg1 : PuG Tryz.prog 15 [S s1, S k1, S x1, S (List.take (Int.toNat ((p1.length : Nat) : Int)) p1)] G (· = Tu [S m, S w, Bo true]) := by
     have := c_PathGetI (G := G) (s := s1) (k := k1) (w := x1) (p := p1) hsz
     rw [h1] at this
     rw [show List.take (Int.toNat ((p1.length : Nat) : Int)) p1 = p1 from List.take_length]
     exact this
    have cx_pg2 : PuG Tryz.prog 15 [S s1, S m, S w, S []] G (· = Tu [S kk, S xx, Bo true]) := by
     have := c_PathGetI (G := G) (s := s1) (k := m) (w := w) (p := []) ⟨hsz.1, by omega, by omega, by simp⟩
     rw [h2] at this; exact this
    clear key hj h cx_ss1 cx_ss2
    repeat' (first | refine jM ?_ | (refine k_op rfl ?_; first | (refine jV (g_pickT rfl rfl rfl) ?_) | (refine jV (g_pickF rfl rfl rfl) ?_) | (refine c_rt rfl rfl rfl cx_pg1 rfl ?_) | (refine c_rt rfl rfl rfl cx_pg2 rfl ?_)) | (refine k_gt rfl rfl (by first | rfl | (refine decide_eq_true ?_; (rfl))) ?_) | (refine k_gf rfl rfl (dFf (by omega)) ?_) | (refine k_ff rfl (by first | rfl | (refine decide_eq_false ?_; (omega))) ?_))
    all_goals refine jZ (vs := [_]) rfl ⟨rfl, trivial⟩ rfl ⟨rfl, rfl, ?_⟩
    all_goals (exact congrArg Value.bool (decide_eq_true rfl))
end Go.E
