/- Contracts and plain laws that the statement rests on, part 4. Conditions: as each says. -/
import Derived.Test.YthcpkoephapecaaZ3
set_option linter.unusedVariables false
set_option linter.unusedSimpArgs false
namespace Go.E
set_option maxRecDepth 20000
set_option maxHeartbeats 2000000
open Go.Proofs
variable {G : Gh}
theorem stepV_plain {ts : List Ty} {c : UInt8} {r : List UInt8} {v : V} {n : Int} (h1 : c.toNat ≠ 91) (h2 : c.toNat ≠ 63) (h3 : c.toNat ≠ 64) : stepV ts (c :: r) v n = none := by
 unfold stepV; dsimp only; rw [if_neg (fun h => by rcases h with h | h; exact h1 h; exact h2 h), refT_p h3]
theorem stepV_kid {ts : List Ty} {c : UInt8} {r : List UInt8} {v : V} {n : Int} (h : c.toNat = 91 ∨ c.toNat = 63) : stepV ts (c :: r) v n = if n < (v.kids.length : Nat) then some (r, nth v.kids n.toNat) else none := by
 unfold stepV; dsimp only; rw [if_pos h]
theorem stepV_typ {ts : List Ty} {k : List UInt8} {v : V} {n : Int} {t : Ty} (h : refT ts k = some t) : stepV ts k v n = match fldT t.fields n with
  | none => none
  | some f => if t.sort = 69 then none else if t.sort = 82 then some (f.kind, getV ts v f) else if v.tag = n then some (f.kind, nth v.kids 0) else none := by
 obtain ⟨r, rfl⟩ := refT_64 h
 unfold stepV; dsimp only; rw [if_neg (by decide), h]
 all_goals rfl
theorem c_stepS {u : Value} {vs : List TyX} (h : SchR G u vs) (hw : SchW (tys vs)) {k : List UInt8} {v : V} {b : Nat} (hr : RepR G (tys vs) v k b) (ho : OfK (tys vs) k v) (hki : kindIn (tys vs) k = true) {n : Int} (hn : 0 ≤ n ∧ n ≤ 999999) (htt : v.tot ≤ 1000000) :
  FnS Try.prog 39 [u, Pt b 0, I n] G (StepP (tys vs) (stepV (tys vs) k v n)) := by
 have hu := h.sl.one
 obtain ⟨ua, uc, rfl⟩ := h.sl.sl
 cases hr with
 | leaf w x k tx b h1 h2 =>
  have hn82 : ¬ tx = [82] := by
   rcases h2 with ⟨_, _, rfl, h⟩ | ⟨_, _, rfl⟩ | ⟨_, _, rfl, h⟩
   ·rintro rfl; exact absurd (h 82 (by simp)) (by decide)
   ·simp
   ·rcases h with rfl | rfl <;> decide
  have hn85 : ¬ tx = [85] := by
   rcases h2 with ⟨_, _, rfl, h⟩ | ⟨_, _, rfl⟩ | ⟨_, _, rfl, h⟩
   ·rintro rfl; exact absurd (h 85 (by simp)) (by decide)
   ·simp
   ·rcases h with rfl | rfl <;> decide
  have hno : stepV (tys vs) k (.nd w x 0 []) n = none := by
   rcases h2 with ⟨_, rfl, _⟩ | ⟨_, rfl, _⟩ | ⟨_, rfl, _⟩
   all_goals exact stepV_plain (by decide) (by decide) (by decide)
  rw [hno]
  rcases h2 with ⟨rfl, rfl, _⟩ | ⟨rfl, rfl, _⟩ | ⟨rfl, rfl, _⟩
  all_goals
   refine jB [(0, _), (1, _), (2, _)] Try.func39 Try.ntmps39 fun B hok hB hW => ?_
   repeat' (first | (refine run (t := tb) 400 rfl ?_ ?_; (focus (repeat' (first | exact trivial | apply And.intro | omega | (simp only [List.length_append, List.length_cons, List.length_nil, Int.toNat_natCast]; omega))))) | (refine k_op rfl ?_; first | refine jV (g_ldS rfl rfl (by assumption) rfl rfl) ?_ | (refine jV (g_pickF rfl rfl rfl) ?_)) | (refine k_gf rfl rfl (by first | rfl | (refine decide_eq_false ?_; (assumption))) ?_) | (refine k_ff rfl rfl ?_))
   all_goals refine jZ (vs := [_, _]) rfl ⟨rfl, rfl, trivial⟩ rfl ⟨Gh.le.refl _, rfl, ?_⟩
   all_goals exact .inl ⟨rfl, _, rfl⟩
 | lst k b ks bs a c h1 h2 h3 hk =>
  have hk0 : bt (91 :: k) (Int.toNat 0) = 91 := bt_zero 91 k
  have hkl2 : (91 :: k).length = k.length + 1 := rfl
  have hst := stepV_kid (ts := tys vs) (c := 91) (r := k) (v := .nd 91 [] 0 ks) (n := n) (.inl rfl)
  rw [V.kids] at hst
  rw [hst]
  by_cases hn2 : n < ((ks.length : Nat) : Int)
  ·obtain ⟨i, rfl⟩ : ∃ i : Nat, n = i := ⟨n.toNat, by omega⟩
   obtain ⟨kb, ko, kc, e, hs⟩ := h2.expl (by omega)
   simp only [Value.slice.injEq] at e
   obtain ⟨rfl, -, rfl⟩ := e
   have hxi : nth bs i = nth bs i := rfl
   rw [if_pos hn2]
   refine jB [(0, _), (1, _), (2, _)] Try.func39 Try.ntmps39 fun B hok hB hW => ?_
   repeat' (first | refine jM ?_ | (refine k_op rfl ?_; first | refine jV (g_ldS rfl rfl (by assumption) rfl rfl) ?_ | (refine jV (g_ldR1x rfl rfl (by assumption) ?_ (by assumption) rfl) ?_; (focus ((omega); done))) | (refine jV (g_pickT rfl rfl rfl) ?_) | refine jV (g_lenL rfl) ?_ | (refine jV (g_iaddrN rfl rfl (by omega)) ?_)) | (refine k_gt rfl rfl rfl ?_) | (refine k_tt rfl rfl ?_) | (refine k_ff rfl (dFf (by omega)) ?_))
   all_goals refine jZ (vs := [_, _]) rfl ⟨rfl, rfl, trivial⟩ rfl ⟨Gh.le.refl _, rfl, ?_⟩
   all_goals exact .inr ⟨_, _, nth bs i, rfl, rfl, hk i (by omega)⟩
  ·rw [if_neg hn2]
   refine jB [(0, _), (1, _), (2, _)] Try.func39 Try.ntmps39 fun B hok hB hW => ?_
   repeat' (first | refine jM ?_ | (refine k_op rfl ?_; first | refine jV (g_ldS rfl rfl (by assumption) rfl rfl) ?_ | (refine jV (g_pickT rfl rfl rfl) ?_) | refine jV (g_lenL rfl) ?_) | (refine k_gt rfl rfl rfl ?_) | (refine k_tt rfl (by first | rfl | (refine decide_eq_true ?_; (omega))) ?_))
   all_goals refine jZ (vs := [_, _]) rfl ⟨rfl, rfl, trivial⟩ rfl ⟨Gh.le.refl _, rfl, ?_⟩
   all_goals exact .inl ⟨rfl, _, rfl⟩
 | non k b h1 =>
  have hk0 : bt (63 :: k) (Int.toNat 0) = 63 := bt_zero 63 k
  have hkl2 : (63 :: k).length = k.length + 1 := rfl
  have hst := stepV_kid (ts := tys vs) (c := 63) (r := k) (v := .nd 63 [] 0 []) (n := n) (.inr rfl)
  rw [V.kids, if_neg (by simp; omega)] at hst
  rw [hst]
  refine jB [(0, _), (1, _), (2, _)] Try.func39 Try.ntmps39 fun B hok hB hW => ?_
  repeat' (first | refine jM ?_ | (refine k_op rfl ?_; first | refine jV (g_ldS rfl rfl (by assumption) rfl rfl) ?_ | (refine jV (g_pickF rfl rfl rfl) ?_) | refine jV (g_lenL rfl) ?_) | (refine k_gf rfl rfl rfl ?_) | (refine k_tt rfl (by first | rfl | (refine decide_eq_true ?_; (omega))) ?_))
  all_goals refine jZ (vs := [_, _]) rfl ⟨rfl, rfl, trivial⟩ rfl ⟨Gh.le.refl _, rfl, ?_⟩
  all_goals exact .inl ⟨rfl, _, rfl⟩
 | opt k b kb b' cc w h0 h1 h2 h3 =>
  have hk0 : bt (63 :: k) (Int.toNat 0) = 63 := bt_zero 63 k
  have hkl2 : (63 :: k).length = k.length + 1 := rfl
  have hst := stepV_kid (ts := tys vs) (c := 63) (r := k) (v := .nd 63 [] 0 [w]) (n := n) (.inr rfl)
  rw [V.kids] at hst
  rw [hst]
  by_cases hn2 : n = 0
  ·subst hn2
   rw [if_pos (by simp)]
   refine jB [(0, _), (1, _), (2, _)] Try.func39 Try.ntmps39 fun B hok hB hW => ?_
   repeat' (first | refine jM ?_ | (refine k_op rfl ?_; first | refine jV (g_ldS rfl rfl (by assumption) rfl rfl) ?_ | (refine jV (g_pickF rfl rfl rfl) ?_) | refine jV (g_lenL rfl) ?_ | (refine jV (g_iaddr rfl rfl (by omega)) ?_)) | (refine k_gf rfl rfl rfl ?_) | (refine k_tt rfl rfl ?_) | (refine k_ff rfl rfl ?_))
   all_goals refine jZ (vs := [_, _]) rfl ⟨rfl, rfl, trivial⟩ rfl ⟨Gh.le.refl _, rfl, ?_⟩
   all_goals exact .inr ⟨_, _, b', rfl, rfl, h3⟩
  ·rw [if_neg (by simp; omega)]
   refine jB [(0, _), (1, _), (2, _)] Try.func39 Try.ntmps39 fun B hok hB hW => ?_
   repeat' (first | refine jM ?_ | (refine k_op rfl ?_; first | refine jV (g_ldS rfl rfl (by assumption) rfl rfl) ?_ | (refine jV (g_pickF rfl rfl rfl) ?_) | refine jV (g_lenL rfl) ?_) | (refine k_gf rfl rfl rfl ?_) | (refine k_tt rfl (by first | rfl | (refine decide_eq_true ?_; (omega))) ?_))
   all_goals refine jZ (vs := [_, _]) rfl ⟨rfl, rfl, trivial⟩ rfl ⟨Gh.le.refl _, rfl, ?_⟩
   all_goals exact .inl ⟨rfl, _, rfl⟩
 | enm k b tgb t d h0 h1 h2 h3 =>
  have hst := stepV_typ (v := .nd 69 [] d.tag []) (n := n) h0.1
  have hno : stepV (tys vs) k (.nd 69 [] d.tag []) n = none := by
   rw [hst]
   cases fldT t.fields n with
   | none => rfl
   | some f => dsimp only; rw [if_pos h0.2]
  rw [hno]
  obtain ⟨r, rfl⟩ := refT_64 h0.1
  have hk0 : bt (64 :: r) (Int.toNat 0) = 64 := bt_zero 64 r
  have hkl2 : (64 :: r).length = r.length + 1 := rfl
  refine jB [(0, _), (1, _), (2, _)] Try.func39 Try.ntmps39 fun B hok hB hW => ?_
  repeat' (first | refine jM ?_ | (refine k_op rfl ?_; first | refine jV (g_ldS rfl rfl (by assumption) rfl rfl) ?_ | (refine jV (g_pickF rfl rfl rfl) ?_)) | (refine k_gf rfl rfl rfl ?_) | (refine k_ff rfl rfl ?_))
  all_goals refine jZ (vs := [_, _]) rfl ⟨rfl, rfl, trivial⟩ rfl ⟨Gh.le.refl _, rfl, ?_⟩
  all_goals exact .inl ⟨rfl, _, rfl⟩
 | uni k b tgb kb b' cc t d w hcc h0 h1 h2 h3 h4 hk =>
  have hst := stepV_typ (v := .nd 85 [] d.tag [w]) (n := n) h0.1
  have hTW := hw.ty _ (refT_mem h0.1)
  have hso := h0.2
  obtain ⟨r, rfl⟩ := refT_64 h0.1
  have hk0 : bt (64 :: r) (Int.toNat 0) = 64 := bt_zero 64 r
  have hkl2 : (64 :: r).length = r.length + 1 := rfl
  by_cases hdn : d.tag = n
  ·have hyes : stepV (tys vs) (64 :: r) (.nd 85 [] d.tag [w]) n = some (d.kind, w) := by
    rw [hst, ← hdn, fldT_mem hTW h1]
    dsimp only
    rw [if_neg (by omega), if_neg (by omega), if_pos (show V.tag (.nd 85 [] d.tag [w]) = d.tag from rfl)]; rfl
   rw [hyes]
   refine jB [(0, _), (1, _), (2, _)] Try.func39 Try.ntmps39 fun B hok hB hW => ?_
   repeat' (first | refine jM ?_ | (refine k_op rfl ?_; first | refine jV (g_ldS rfl rfl (by assumption) rfl rfl) ?_ | (refine jV (g_pickT rfl rfl rfl) ?_) | (refine jV (g_pickF rfl rfl rfl) ?_)) | (refine k_gt rfl rfl rfl ?_) | (refine k_gf rfl rfl rfl ?_) | (refine k_tt rfl rfl ?_) | (refine k_ff rfl rfl ?_))
   (refine k_any (s_any (id := 6) _ (fun _ h => h) mixed ?_); refine jT 9 [0, 1, 2, 6, 7, 8, 12] (bts 16 4551) ?_; (refine jG (bts 16 4559) 3 rfl (g_ldS rfl rfl (by assumption) rfl rfl) ?_); (refine jG (bts 16 4575) 4 rfl (g_iaddr rfl rfl (by omega)) ?_); (refine jG (bts 16 4607) 5 rfl (g_ldS rfl rfl (by assumption) rfl rfl) ?_); refine jT 5 [14] (bts 16 20991) ?_; (refine jG (bts 16 21503) 9 rfl (g_ldS rfl rfl (by assumption) rfl rfl) ?_); (refine jG (bts 16 22527) 10 rfl (g_iaddr rfl rfl (by omega)) ?_); (refine jG (bts 16 24575) 11 rfl (g_ldS rfl rfl (by assumption) rfl rfl) ?_); refine jT 0 [13, 15] (bts 16 65535) ?_; refine x_done (by kernel_rfl) (k_bk ?_))
   all_goals repeat' (refine jR ?_)
   all_goals refine jZ (vs := [_, _]) rfl ⟨rfl, rfl, trivial⟩ rfl ⟨Gh.le.refl _, rfl, ?_⟩
   all_goals (try rw [decide_eq_true hdn])
   all_goals exact .inr ⟨_, _, b', rfl, rfl, hk⟩
  ·have hno : stepV (tys vs) (64 :: r) (.nd 85 [] d.tag [w]) n = none := by
    rw [hst]
    cases fldT t.fields n with
    | none => rfl
    | some f =>
     dsimp only
     rw [if_neg (by omega), if_neg (by omega), if_neg (show ¬ V.tag (.nd 85 [] d.tag [w]) = n from hdn)]
   rw [hno]
   refine jB [(0, _), (1, _), (2, _)] Try.func39 Try.ntmps39 fun B hok hB hW => ?_
   repeat' (first | refine jM ?_ | (refine k_op rfl ?_; first | refine jV (g_ldS rfl rfl (by assumption) rfl rfl) ?_ | (refine jV (g_pickT rfl rfl rfl) ?_) | (refine jV (g_pickF rfl rfl rfl) ?_)) | (refine k_gt rfl rfl rfl ?_) | (refine k_gf rfl rfl rfl ?_) | (refine k_tt rfl rfl ?_) | (refine k_ff rfl rfl ?_))
   (refine k_any (s_any (id := 6) _ (fun _ h => h) mixed ?_); refine jT 9 [0, 1, 2, 6, 7, 8, 12] (bts 16 4551) ?_; (refine jG (bts 16 4559) 3 rfl (g_ldS rfl rfl (by assumption) rfl rfl) ?_); (refine jG (bts 16 4575) 4 rfl (g_iaddr rfl rfl (by omega)) ?_); (refine jG (bts 16 4607) 5 rfl (g_ldS rfl rfl (by assumption) rfl rfl) ?_); refine jT 5 [14] (bts 16 20991) ?_; (refine jG (bts 16 21503) 9 rfl (g_ldS rfl rfl (by assumption) rfl rfl) ?_); (refine jG (bts 16 22527) 10 rfl (g_iaddr rfl rfl (by omega)) ?_); (refine jG (bts 16 24575) 11 rfl (g_ldS rfl rfl (by assumption) rfl rfl) ?_); refine jT 0 [13, 15] (bts 16 65535) ?_; refine x_done (by kernel_rfl) (k_bk ?_))
   all_goals repeat' (refine jR ?_)
   all_goals refine jZ (vs := [_, _]) rfl ⟨rfl, rfl, trivial⟩ rfl ⟨Gh.le.refl _, rfl, ?_⟩
   all_goals (try rw [decide_eq_false hdn])
   all_goals exact .inl ⟨rfl, _, rfl⟩
 | recd k b t fs bs a a2 c c2 h0 h1 h2 h3 h4 h5 hk =>
  have hst := stepV_typ (v := .nd 82 [] 0 (fs.map fldV)) (n := n) h0.1
  have hTW := hw.ty _ (refT_mem h0.1)
  have hso := h0.2
  have hkk := kindOk_kOk (kindIn_ok hki)
  obtain ⟨r, rfl⟩ := refT_64 h0.1
  have hk0 : bt (64 :: r) (Int.toNat 0) = 64 := bt_zero 64 r
  have hkl2 : (64 :: r).length = r.length + 1 := rfl
  have hvl : vs.length ≤ 8 := by have := hw.len; unfold tys at this; simpa using this
  have href := refV_ty vs (64 :: r)
  have cx_rf := c_ref (k := 64 :: r) h (by omega) hkk.1 (by omega)
  rcases hrv : refV vs (64 :: r) with _ | x
  ·rw [hrv, h0.1] at href; cases href
  rw [hrv] at href cx_rf
  have htx : x.2 = t := by rw [h0.1] at href; exact Option.some.inj href
  subst htx
  have hxm := refV_mem hrv
  have hfl := hTW.len
  have cx_rec := c_l4Record (n := n) hu (h.fl x hxm) (by omega) cx_rf hso
  cases hg : fldT x.2.fields n with
  | none =>
   rw [hg] at hst cx_rec
   have hno : stepV (tys vs) (64 :: r) (.nd 82 [] 0 (fs.map fldV)) n = none := hst
   rw [show (fs.map fun p => V.nd 61 [] p.1.tag [p.2]) = fs.map fldV from rfl, hno]
   refine jB [(0, _), (1, _), (2, _)] Try.func39 Try.ntmps39 fun B hok hB hW => ?_
   repeat' (first | refine jM ?_ | (refine k_op rfl ?_; first | refine jV (g_ldS rfl rfl (by assumption) rfl rfl) ?_ | (refine jV (g_pickT rfl rfl rfl) ?_) | (refine jV (g_pickF rfl rfl rfl) ?_) | refine c_al rfl rfl fun _ => ?_ | refine c_stA rfl rfl rfl rfl rfl rfl ?_ | (refine c_rt rfl rfl rfl cx_rec rfl ?_)) | (refine k_gt rfl rfl rfl ?_) | (refine k_gf rfl rfl rfl ?_) | (refine k_tt rfl rfl ?_) | (refine k_ff rfl rfl ?_))
   all_goals refine jZ (vs := [_, _]) rfl ⟨rfl, rfl, trivial⟩ rfl ⟨Gh.le.refl _, rfl, ?_⟩
   all_goals exact .inl ⟨rfl, _, rfl⟩
  | some f =>
   rw [hg] at hst cx_rec
   simp only [Option.getD_some, Option.isSome_some] at cx_rec
   have hfm := List.mem_of_find?_eq_some hg
   have hft : f.tag = n := by have := List.find?_some hg; simpa using this
   have hyes : stepV (tys vs) (64 :: r) (.nd 82 [] 0 (fs.map fldV)) n = some (f.kind, getV (tys vs) (.nd 82 [] 0 (fs.map fldV)) f) := by
    rw [hst]; dsimp only; rw [if_neg (by omega), if_pos hso]
   rw [show (fs.map fun p => V.nd 61 [] p.1.tag [p.2]) = fs.map fldV from rfl, hyes]
   have hfs9 : fs.length ≤ 100000 := by
    have h7 := tots_len (fs.map fldV)
    rw [nd_tot] at htt
    have e1 : (fs.map fldV).length = fs.length := by simp
    have e2 : (fs.map fun p => V.nd 61 [] p.1.tag [p.2]) = fs.map fldV := rfl
    rw [e2] at htt
    omega
   have htn : ∀ i, i < fs.length → nth (fs.map fun p : Fld × V => p.1.tag) i = (nth fs i).1.tag := fun i hi => by rw [nth_eq (by simpa using hi), nth_eq hi]; simp
   have htl : (fs.map fun p : Fld × V => p.1.tag).length = fs.length := by simp
   by_cases hex : ∃ j, j < fs.length ∧ (nth fs j).1.tag = n
   ·obtain ⟨j, hj, hjn, hjf⟩ := first_at hex
    have hget : getV (tys vs) (.nd 82 [] 0 (fs.map fldV)) f = (nth fs j).2 := by
     unfold getV
     rw [V.kids, toldV_at hj (by rw [hjn, hft]) (fun i hi => by rw [hft]; exact hjf i hi)]; rfl
    have hkd : (nth fs j).1 = f := fld_tag hTW (h5 j hj) hfm (by rw [hjn, hft])
    rw [hget]
    have cx_at := c_atY (tg := fs.map fun p : Fld × V => p.1.tag) (n := n) (by rw [h4, htl]) (by omega) (by rw [htl]; exact h1) (by rw [htl]; exact h2) (by rw [htl]; exact h3) (by rw [htl]; exact hj) (by rw [htn j hj]; exact hjn) (fun i hi => by rw [htn i (by omega)]; exact hjf i hi)
    have hrj := hk j hj
    rw [hkd] at hrj
    refine jB [(0, _), (1, _), (2, _)] Try.func39 Try.ntmps39 fun B hok hB hW => ?_
    repeat' (first | refine jM ?_ | (refine k_op rfl ?_; first | refine jV (g_ldS rfl rfl (by assumption) rfl rfl) ?_ | (refine jV (g_pickT rfl rfl rfl) ?_) | (refine jV (g_pickF rfl rfl rfl) ?_) | refine c_al rfl rfl fun _ => ?_ | refine c_stA rfl rfl rfl rfl rfl rfl ?_ | (refine c_rt rfl rfl rfl cx_rec rfl ?_) | (refine c_rt rfl rfl rfl cx_at rfl ?_)) | (refine k_gt rfl rfl rfl ?_) | (refine k_gf rfl rfl rfl ?_) | (refine k_tt rfl rfl ?_) | (refine k_ff rfl rfl ?_))
    all_goals refine jZ (vs := [_, _]) rfl ⟨rfl, rfl, trivial⟩ rfl ⟨Gh.le.refl _, rfl, ?_⟩
    all_goals exact .inr ⟨_, _, nth bs j, rfl, rfl, hrj⟩
   ·have hjno : ∀ i, i < fs.length → (nth fs i).1.tag ≠ n := fun i hi e => hex ⟨i, hi, e⟩
    have hget : getV (tys vs) (.nd 82 [] 0 (fs.map fldV)) f = standV (tys vs) f := by
     unfold getV
     rw [V.kids, toldV_no fun i hi => by rw [hft]; exact hjno i hi]; rfl
    rw [hget]
    obtain ⟨g1, g2, g3⟩ := standV_ok hw (refT_mem h0.1) (by omega) hfm
    obtain ⟨g4, g5⟩ := valOf_rd g2
    have hdk : kindIn (tys vs) f.kind = true := kind_in hw (refT_mem h0.1) (by omega) hfm
    have cx_at := c_atN (tg := fs.map fun p : Fld × V => p.1.tag) (n := n) (by omega) (by rw [htl]; exact h1) (by rw [htl]; exact h2) (fun i hi => by rw [htn i (by omega)]; exact hjno i (by omega))
    have cx_sta := c_standS (f := f) h hw hdk
    have cx_rd := readC_all (u := .slice ua vs.length uc) (vs := vs) hw 12 (by omega) G f.kind (standF (tys vs) f) h hdk (by omega)
    rw [g4] at cx_rd
    refine jB [(0, _), (1, _), (2, _)] Try.func39 Try.ntmps39 fun B hok hB hW => ?_
    repeat' (first | refine jM ?_ | (refine k_op rfl ?_; first | refine jV (g_ldS rfl rfl (by assumption) rfl rfl) ?_ | (refine jV (g_pickT rfl rfl rfl) ?_) | (refine jV (g_pickF rfl rfl rfl) ?_) | refine c_al rfl rfl fun _ => ?_ | refine c_stA rfl rfl rfl rfl rfl rfl ?_ | (refine c_rt rfl rfl rfl cx_rec rfl ?_) | (refine c_rt rfl rfl rfl cx_at rfl ?_)) | (refine k_gt rfl rfl rfl ?_) | (refine k_gf rfl rfl rfl ?_) | (refine k_tt rfl rfl ?_) | (refine k_ff rfl rfl ?_))
    (refine k_any (s_any (id := 14) _ (fun _ h => h) mixed ?_); refine jT 12 [0, 2, 5] (bts 15 37) ?_; (refine jG (bts 15 39) 1 rfl (g_bld rfl rfl) ?_); (refine jG (bts 15 47) 3 rfl (g_ldA rfl rfl rfl rfl) ?_); (refine jG (bts 15 111) 6 rfl (g_ld rfl rfl rfl) ?_); refine jA 4 rfl ?_; (refine c_rt rfl rfl rfl cx_sta rfl ?_); refine jS (bts 15 127) ?_; refine jA 7 rfl ?_; (refine c_fns rfl rfl rfl cx_rd rfl ?_; rintro _ G hle ⟨q1, r1, ok1, rfl, hyes, hno⟩; skip); refine jS (bts 15 255) ?_; refine jT 0 [8, 9, 10, 11, 12, 13, 14] (bts 15 32767) ?_; refine x_done (by kernel_rfl) (k_bk ?_))
    all_goals
     cases ok1 with
     | false => cases hno rfl
     | true =>
      obtain ⟨w, wb, rfl, hf, hrep⟩ := hyes rfl
      simp only [Option.some.injEq, Prod.mk.injEq] at hf
      obtain ⟨rfl, rfl⟩ := hf
      repeat' (first | (refine jR ?_) | (refine k_op rfl ?_; (refine jV (g_pickT rfl rfl rfl) ?_)) | (refine k_gt rfl rfl rfl ?_))
      all_goals refine jZ (vs := [_, _]) rfl ⟨rfl, rfl, trivial⟩ rfl ⟨hle, rfl, ?_⟩
      all_goals exact .inr ⟨_, _, wb, rfl, rfl, hrep⟩
theorem given_some {s k w : List UInt8} {u : V} (hg : givenV s k w = some u) : ∃ ts, schemaOf s = some ts ∧ kindIn ts k = true ∧ valOf ts k w = some u ∧ u.tot ≤ 40000 ∧ u.wf := by
 obtain ⟨ts, hs, hki, hvo⟩ : ∃ ts, schemaOf s = some ts ∧ kindIn ts k = true ∧ valOf ts k w = some u := by
  unfold givenV at hg
  cases hs : schemaOf s with
  | none => rw [hs] at hg; cases hg
  | some ts =>
   rw [hs] at hg
   dsimp only at hg
   by_cases hk : kindIn ts k = true
   ·rw [if_pos hk] at hg; exact ⟨ts, rfl, hk, hg⟩
   ·rw [if_neg hk] at hg; cases hg
 refine ⟨ts, hs, hki, hvo, ?_, (valOf_wf hvo).1⟩
 unfold valOf at hvo
 split at hvo
 ·split at hvo
  ·rename_i v hv
   obtain rfl := Option.some.inj hvo
   have := rd_tot _ _ _ _ hv
   dsimp only at this; omega
  ·cases hvo
 ·cases hvo
theorem standV_tot {ts : List Ty} (hw : SchW ts) {t : Ty} (ht : t ∈ ts) (hs : t.sort ≠ 69) {d : Fld} (hd : d ∈ t.fields) : (standV ts d).tot ≤ 40000 := by
 obtain ⟨g4, g5⟩ := valOf_rd (standV_ok hw ht hs hd).2.1
 have := rd_tot _ _ _ _ g4
 dsimp only at this
 simp only [List.length_nil] at this
 omega
theorem stepV_tot {ts : List Ty} (hw : SchW ts) {k : List UInt8} {v : V} (h : OfK ts k v) (hk : kindIn ts k = true) {n : Int} (hn : 0 ≤ n) {k' : List UInt8} {v' : V} (e : stepV ts k v n = some (k', v')) {N : Nat} (hv : v.tot ≤ N) (hN : 40000 ≤ N) : v'.tot ≤ N := by
 obtain ⟨c, r, rfl⟩ := kind_ne hk
 unfold stepV at e
 dsimp only at e
 split at e
 ·rename_i hc
  split at e
  ·rename_i hlt
   simp only [Option.some.injEq, Prod.mk.injEq] at e
   obtain ⟨rfl, rfl⟩ := e
   have h1 := tot_nth (ks := v.kids) (i := n.toNat) (by omega)
   obtain ⟨w, x, t, ks⟩ := v
   rw [nd_tot] at hv
   rw [V.kids] at h1 ⊢
   omega
  ·cases e
 ·split at e
  ·cases e
  ·rename_i t hr
   have ht := refT_mem hr
   split at e
   ·cases e
   ·rename_i f hf
    have hfm := List.mem_of_find?_eq_some hf
    split at e
    ·cases e
    ·rename_i h69
     split at e
     ·rename_i h82
      simp only [Option.some.injEq, Prod.mk.injEq] at e
      obtain ⟨rfl, rfl⟩ := e
      rcases ofK_inv_t h hr with ⟨_, fs, rfl, g3, g4, _, _⟩ | ⟨h1, _⟩ | ⟨h1, _⟩
      ·unfold getV
       rw [V.kids]
       cases hto : toldV f (fs.map fldV) with
       | none =>
        have := standV_tot hw ht h69 hfm
        show (standV ts f).tot ≤ N
        omega
       | some u =>
        obtain ⟨_, p, hp, _, rfl⟩ := toldV_of (hw.ty t ht) hfm (fun p hp => ⟨g3 p hp, g4 p hp⟩) hto
        have h2 := tots_mem (List.mem_map_of_mem (f := fldV) hp)
        rw [nd_tot] at hv
        simp only [fldV, nd_tot, V.tots] at h2
        show p.2.tot ≤ N
        omega
      ·omega
      ·omega
     ·rename_i h82
      split at e
      ·simp only [Option.some.injEq, Prod.mk.injEq] at e
       obtain ⟨rfl, rfl⟩ := e
       rcases ofK_inv_t h hr with ⟨h1, _⟩ | ⟨h1, _⟩ | ⟨_, _, d, u, rfl, g4, g5⟩
       ·omega
       ·omega
       ·simp only [nd_tot, V.tots] at hv
        show u.tot ≤ N
        omega
      ·cases e
theorem followV_drop {ts : List Ty} {p : List Int} {i : Nat} (hi : i < p.length) {k : List UInt8} {v : V} : followV ts k v (p.drop i) = match stepV ts k v (nth p i) with
  | none => none
  | some (k', v') => followV ts k' v' (p.drop (i + 1)) := by
 rw [List.drop_eq_getElem_cons hi, nth_eq hi, followV]
 all_goals (cases stepV ts k v p[i] <;> rfl)
theorem repR_seg {ts : List Ty} {v : V} {k : List UInt8} {b : Nat} (h : RepR G ts v k b) : ∃ x y z, Seg G b 0 [S k, x, y, z] := by
 cases h with
 | leaf w x k tx b h1 h2 => exact ⟨_, _, _, h1⟩
 | lst k b ks bs a c h1 h2 h3 hk => exact ⟨_, _, _, h1⟩
 | non k b h1 => exact ⟨_, _, _, h1⟩
 | opt k b kb b' cc w h0 h1 h2 h3 => exact ⟨_, _, _, h1⟩
 | recd k b t fs bs a a2 c c2 h0 h1 h2 h3 h4 h5 hk => exact ⟨_, _, _, h1⟩
 | enm k b tgb t d h0 h1 h2 h3 => exact ⟨_, _, _, h2⟩
 | uni k b tgb kb b' cc t d w hcc h0 h1 h2 h3 h4 hk => exact ⟨_, _, _, h2⟩
theorem c_walkS {u : Value} {vs : List TyX} (h : SchR G u vs) (hw : SchW (tys vs)) {p : List Int} {pv : Value} (hp : SlV G pv 1 p.length (rows inR p)) (hpn : ∀ n ∈ p, 0 ≤ n ∧ n ≤ 999999) (hpl : p.length ≤ 1000) {k : List UInt8} {v : V} {b : Nat} (hr : RepR G (tys vs) v k b) (ho : OfK (tys vs) k v) (hki : kindIn (tys vs) k = true) (htt : v.tot ≤ 1000000) :
  FnS Try.prog 56 [u, Pt b 0, pv] G (StepP (tys vs) (followV (tys vs) k v p)) := by
 have hu := h.sl.one
 obtain ⟨pa, pc, rfl⟩ := hp.sl
 refine jB [(0, _), (1, _), (2, _)] Try.func56 Try.ntmps56 fun B hok hB hW => ?_
 repeat' (refine jR ?_)
 refine k_loop (ι := List UInt8 × V × Nat × Nat × Gh) (fun j => ((RepR j.2.2.2.2 (tys vs) j.2.1 j.1 j.2.2.1 ∧ OfK (tys vs) j.1 j.2.1) ∧ (kindIn (tys vs) j.1 = true ∧ j.2.1.tot ≤ 1000000)) ∧ (Gh.le G j.2.2.2.2 ∧ j.2.2.2.1 ≤ p.length) ∧ followV (tys vs) k v p = followV (tys vs) j.1 j.2.1 (p.drop j.2.2.2.1)) (fun j => [(0, u), (1, Pt j.2.2.1 0), (2, .slice pa p.length pc), (8, I j.2.2.2.1)]) (fun j => j.2.2.2.2) (fun j => []) (fun j => p.length - j.2.2.2.1) (k, v, b, 0, G) ?_ (by repeat' constructor) rfl sRr (fun j Hj => ?_)
 ·exact ⟨⟨⟨hr, ho⟩, hki, htt⟩, ⟨Gh.le.refl _, Nat.zero_le _⟩, rfl⟩
 obtain ⟨k0, v0, b0, i, Gq⟩ := j
 dsimp only at Hj ⊢
 obtain ⟨⟨⟨hr0, ho0⟩, hk0, ht0⟩, ⟨hgq, hi0⟩, he⟩ := Hj
 by_cases hi : i < p.length
 ·obtain ⟨xb, xo, xc, e, hs1⟩ := (hp.mono hgq).expl (by omega)
  simp only [Value.slice.injEq] at e
  obtain ⟨rfl, -, rfl⟩ := e
  have hni := hpn _ (nth_mem hi)
  have hti : nth p i = nth p i := rfl
  have hstp := c_stepS (h.mono hgq) hw hr0 ho0 hk0 hni ht0
  rw [followV_drop hi] at he
  cases hsv : stepV (tys vs) k0 v0 (nth p i) with
  | none =>
   have cx_stn := StepP.no hstp hsv
   rw [hsv] at he
   repeat' (first | (refine jR ?_) | (refine k_op rfl ?_; first | refine jV (g_lenL rfl) ?_ | (refine jV (g_iaddrN rfl rfl (by omega)) ?_) | (refine jV (g_ldR1x rfl rfl (by assumption) ?_ (by assumption) rfl) ?_; (focus ((omega); done))) | (refine c_fns rfl rfl rfl cx_stn rfl ?_; rintro _ G hle ⟨q1, rfl⟩; skip)) | (refine k_tt rfl (by first | rfl | (refine decide_eq_true ?_; (omega))) ?_))
   all_goals refine jZ (vs := [_, _]) rfl ⟨rfl, rfl, trivial⟩ rfl ⟨hgq.trans hle, rfl, ?_⟩
   all_goals exact .inl ⟨he, _, rfl⟩
  | some y =>
   obtain ⟨k1, v1⟩ := y
   have cx_sty := StepP.yes hstp hsv
   rw [hsv] at he
   obtain ⟨g1, g2⟩ := stepV_ok hw ho0 hk0 hni.1 hsv
   have g3 := stepV_tot hw ho0 hk0 hni.1 hsv ht0 (by omega)
   repeat' (first | refine jM ?_ | (refine k_op rfl ?_; first | refine jV (g_lenL rfl) ?_ | (refine jV (g_iaddrN rfl rfl (by omega)) ?_) | (refine jV (g_ldR1x rfl rfl (by assumption) ?_ (by assumption) rfl) ?_; (focus ((omega); done))) | (refine c_fns rfl rfl rfl cx_sty rfl ?_; rintro _ G hle ⟨b1, rfl, hrep1⟩; skip)) | (refine k_tt rfl (dTt (by omega)) ?_) | (refine k_ff rfl rfl ?_))
   exact k_rd (k1, v1, b1, i + 1, G) ⟨⟨⟨hrep1, g1⟩, g2, g3⟩, ⟨hgq.trans hle, by dsimp only; omega⟩, he⟩ (by dsimp only; omega) (by repeat' constructor) rfl sRr
 ·have hd : p.drop i = [] := List.drop_eq_nil_of_le (by omega)
  rw [hd] at he
  repeat' (first | (refine jR ?_) | (refine k_op rfl ?_; (refine jV (g_lenL rfl) ?_)) | (refine k_ff rfl (dFf (by omega)) ?_))
  all_goals refine jZ (vs := [_, _]) rfl ⟨rfl, rfl, trivial⟩ rfl ⟨hgq, rfl, ?_⟩
  all_goals exact .inr ⟨_, _, b0, he, rfl, hr0⟩
theorem c_l4OfX {s k w : List UInt8} {v : V} {ts : List Ty} (h : s.length ≤ 1048576 ∧ k.length ≤ 1048576 ∧ w.length ≤ 1048576) (hs : schemaOf s = some ts) (hki : kindIn ts k = true) (hvo : valOf ts k w = some v) :
  FnS Try.prog 21 [S s, S k, S w] G (fun r G' => ∃ a c vs b, r = Tu [.slice a vs.length c, Pt b 0, Bo true] ∧ SchR G' (.slice a vs.length c) vs ∧ tys vs = ts ∧ RepR G' ts v k b) := by
 have hw := schemaOf_w hs
 have hk : kindS s k = true := by unfold kindS; rw [hs]; exact hki
 obtain ⟨h12, hl⟩ := valOf_rd hvo
 have cx_lka : ∀ G, FnS Try.prog 18 [S s, S k] G (fun v G' => ∃ a c vs, v = Tu [.slice a vs.length c, Bo true] ∧ SchR G' (.slice a vs.length c) vs ∧ tys vs = ts) := fun G => by
  refine (c_l3Kind (G := G) (s := s) (k := k) (by omega) (by omega)).mono ?_
  rintro v G' L' ⟨h1, h2, u, vs, rfl, h4, _, h6⟩
  obtain ⟨_, ⟨rfl, h0⟩ | ⟨b, o, cap, rfl, _, _⟩⟩ := h4.sl
  ·exact ⟨h1, h2, none, 0, vs, by rw [hk, h0], by rw [h0]; exact h4, h6 ts hs hki⟩
  ·exact ⟨h1, h2, _, cap, vs, by rw [hk], h4, h6 ts hs hki⟩
 refine jB [(0, _), (1, _), (2, _)] Try.func21 Try.ntmps21 fun B hok hB hW => ?_
 repeat' (first | (refine jR ?_) | (refine k_op rfl ?_; first | (refine jV (g_pickF rfl rfl rfl) ?_) | refine jV (g_bld rfl rfl) ?_ | (refine c_fns rfl rfl rfl (cx_lka _) rfl ?_; rintro _ G hle ⟨av1, cv1, vs1, rfl, hR1, hT1⟩; skip)) | (refine k_gf rfl rfl rfl ?_) | (refine k_ff rfl (dFf (by omega)) ?_))
 subst hT1
 have cx_rd : FnS Try.prog 36 [Ag [.slice av1 vs1.length cv1], S w, S k, I (12 : Nat)] G (fun r G' => ∃ b, r = Tu [Pt b 0, S [], Bo true] ∧ RepR G' (tys vs1) v k b) := by
  refine (readC_all (u := .slice av1 vs1.length cv1) (vs := vs1) hw 12 (by omega) G k w hR1 hki (by omega)).mono ?_
  rintro r G' L' ⟨h1, h2, q, rest, ok, rfl, h3, h4⟩
  cases ok with
  | false => rw [h12] at h4; cases h4 rfl
  | true =>
   obtain ⟨v', b, rfl, h5, h6⟩ := h3 rfl
   rw [h12] at h5
   simp only [Option.some.injEq, Prod.mk.injEq] at h5
   obtain ⟨rfl, rfl⟩ := h5
   exact ⟨h1, h2, b, rfl, h6⟩
 refine k_op rfl ?_
 refine c_fns rfl rfl rfl cx_rd rfl ?_
 rintro _ G2 hle2 ⟨b, rfl, hrep⟩
 repeat' (first | (refine jR ?_) | (refine k_op rfl ?_; (refine jV (g_pickT rfl rfl rfl) ?_)) | (refine k_gt rfl rfl rfl ?_))
 refine jZ (vs := [_, _, _]) rfl ⟨rfl, rfl, rfl, trivial⟩ rfl ⟨(Gh.le.trans hle hle2), rfl, ?_⟩
 exact ⟨_, _, _, b, rfl, hR1.mono hle2, rfl, hrep⟩
theorem steps_no {s : List UInt8} (h : s.length ≤ 1048576) (hp : pathOf s = none) : ∀ G, FnS Try.prog 23 [S s] G (fun v _ => ∃ a c n, v = Tu [.slice a n c, Bo false] ∧ True) := fun G => by
 refine (c_stepsS (G := G) h).mono ?_
 rintro v G' L' ⟨h1, h2, a, c, n, rfl, _⟩
 exact ⟨h1, h2, a, c, n, by rw [hp]; rfl, trivial⟩
theorem steps_yes {s : List UInt8} {p : List Int} (h : s.length ≤ 1048576) (hp : pathOf s = some p) : ∀ G, FnS Try.prog 23 [S s] G (fun v G' => ∃ a c n, v = Tu [.slice a n c, Bo true] ∧ n = p.length ∧ SlV G' (.slice a n c) 1 p.length (rows inR p)) := fun G => by
 refine (c_stepsS (G := G) h).mono ?_
 rintro v G' L' ⟨h1, h2, a, c, n, rfl, h3⟩
 exact ⟨h1, h2, a, c, n, by rw [hp]; rfl, h3 p hp⟩
theorem pathOf_le {s : List UInt8} {p : List Int} (h : pathOf s = some p) : p.length ≤ 8 ∧ ∀ n ∈ p, 0 ≤ n ∧ n ≤ 999999 := by
 unfold pathOf at h
 split at h
 ·simp only [Option.some.injEq] at h; subst h; simp
 ·split at h
  ·rename_i q hq
   split at h
   ·rename_i h8
    simp only [Option.some.injEq] at h; subst h
    exact ⟨h8, (stepsOf_len hq).2⟩
   ·cases h
  ·cases h
end Go.E
namespace Go.E
set_option maxRecDepth 20000
set_option maxHeartbeats 2000000
open Go.Proofs
variable {G : Gh}
theorem putB_at {α : Type} [Inhabited α] {tg : α → Int} {node : α} {tag : Int} {l : List α} {i : Nat} (hi : i < l.length) {d : Bool} : putB tg node tag (l.drop i) d = (if tag < tg (nth l i) ∧ d = false then [node] else []) ++ ((if tg (nth l i) = tag then [] else [nth l i]) ++ putB tg node tag (l.drop (i + 1)) (d || decide (tag < tg (nth l i)))) := by
 rw [List.drop_eq_getElem_cons hi, nth_eq hi, putB]
theorem putB_mem {α : Type} {tg : α → Int} {node : α} {tag : Int} {y : α} : ∀ {l : List α} {d : Bool}, y ∈ putB tg node tag l d → y = node ∨ y ∈ l
 | [], d, h => by
  unfold putB at h
  split at h
  ·simp at h
  ·exact .inl (by simpa using h)
 | z :: r, d, h => by
  rw [putB] at h
  simp only [List.mem_append] at h
  rcases h with h | h | h
  ·split at h
   ·exact .inl (by simpa using h)
   ·simp at h
  ·split at h
   ·simp at h
   ·exact .inr (by simp at h; simp [h])
  ·exact (putB_mem h).imp id fun h => by simp [h]
theorem putB_memT {α : Type} {tg : α → Int} {node : α} {tag : Int} {y : α} : ∀ {l : List α}, y ∈ putB tg node tag l true → y ∈ l
 | [], h => by simp [putB] at h
 | z :: r, h => by
  rw [putB, if_neg (by simp), Bool.true_or, List.nil_append] at h
  rcases List.mem_append.1 h with h | h
  ·split at h
   ·simp at h
   ·simp at h; simp [h]
  ·simp [putB_memT h]
def tgP (p : (Fld × V) × Nat) : Int := p.1.1.tag
def fvP (p : (Fld × V) × Nat) : V := fldV p.1
theorem fvP_map {ps : List ((Fld × V) × Nat)} : ps.map fvP = (ps.map (·.1)).map fldV := by rw [List.map_map]; rfl
theorem recd_inv {ts : List Ty} {k : List UInt8} {t : Ty} {b : Nat} {vs : List V} (hr : RepR G ts (.nd 82 [] 0 vs) k b) (hrf : refT ts k = some t) : t.sort = 82 ∧ ∃ (ps : List ((Fld × V) × Nat)) (a a2 : Option Addr) (c c2 : Nat), vs = ps.map fvP ∧ Seg G b 0 [S k, S [82], .slice a ps.length c, .slice a2 ps.length c2] ∧ SlV G (.slice a ps.length c) 1 ps.length (rows inR (ps.map tgP)) ∧ SlV G (.slice a2 ps.length c2) 1 ps.length (rows ptR (ps.map (·.2))) ∧ ∀ p ∈ ps, p.1.1 ∈ t.fields ∧ RepR G ts p.1.2 p.1.1.kind p.2 := by
 cases hr with
 | leaf w x k tx b h1 h2 => rcases h2 with ⟨h, _⟩ | ⟨h, _⟩ | ⟨h, _⟩ <;> omega
 | recd k b t' fs bs a a2 c c2 h0 h1 h2 h3 h4 h5 hk =>
  obtain rfl : t' = t := by rw [hrf] at h0; exact (Option.some.inj h0.1).symm
  have e1 : (fs.zip bs).map (·.1) = fs := List.map_fst_zip (by omega)
  have e2 : (fs.zip bs).map (·.2) = bs := List.map_snd_zip (by omega)
  have el : (fs.zip bs).length = fs.length := by simp [h4]
  have e3 : (fs.zip bs).map tgP = fs.map fun p => p.1.tag := by
   rw [show tgP = (fun p : Fld × V => p.1.tag) ∘ Prod.fst from rfl, ← List.map_map, e1]
  refine ⟨h0.2, fs.zip bs, a, a2, c, c2, by rw [fvP_map, e1], by rw [el]; exact h1, by rw [el, e3]; exact h2, by rw [el, e2]; exact h3, fun p hp => ?_⟩
  obtain ⟨i, hi, e⟩ := List.getElem_of_mem hp
  rw [List.getElem_zip] at e
  subst e
  have hi' : i < fs.length := by rw [el] at hi; exact hi
  have g1 := hk i hi'
  have g2 := h5 i hi'
  rw [nth_eq hi', nth_eq (by omega)] at g1
  rw [nth_eq hi'] at g2
  exact ⟨g2, g1⟩
theorem recd_mk {ts : List Ty} {k : List UInt8} {t : Ty} {b : Nat} {ps : List ((Fld × V) × Nat)} {a a2 : Option Addr} {c c2 : Nat} (hrf : refT ts k = some t) (hso : t.sort = 82) (h1 : Seg G b 0 [S k, S [82], .slice a ps.length c, .slice a2 ps.length c2]) (h2 : SlV G (.slice a ps.length c) 1 ps.length (rows inR (ps.map tgP))) (h3 : SlV G (.slice a2 ps.length c2) 1 ps.length (rows ptR (ps.map (·.2)))) (hm : ∀ p ∈ ps, p.1.1 ∈ t.fields ∧ RepR G ts p.1.2 p.1.1.kind p.2) : RepR G ts (.nd 82 [] 0 (ps.map fvP)) k b := by
 have el : (ps.map (·.1)).length = ps.length := by simp
 have hn1 : ∀ i, i < ps.length → nth (ps.map (·.1)) i = (nth ps i).1 := fun i hi => by rw [nth_eq (by simpa using hi), nth_eq hi]; simp
 have hn2 : ∀ i, i < ps.length → nth (ps.map (·.2)) i = (nth ps i).2 := fun i hi => by rw [nth_eq (by simpa using hi), nth_eq hi]; simp
 have e3 : (ps.map (·.1)).map (fun p : Fld × V => p.1.tag) = ps.map tgP := by rw [List.map_map]; rfl
 rw [fvP_map]
 refine RepR.recd k b t (ps.map (·.1)) (ps.map (·.2)) a a2 c c2 ⟨hrf, hso⟩ (by rw [el]; exact h1) (by rw [el, e3]; exact h2) (by rw [el]; exact h3) (by simp) (fun i hi => ?_) (fun i hi => ?_)
 ·rw [el] at hi
  rw [hn1 i hi]; exact (hm _ (nth_mem hi)).1
 ·rw [el] at hi
  rw [hn1 i hi, hn2 i hi]; exact (hm _ (nth_mem hi)).2
abbrev tIntW : TypeId := 3
abbrev tPtrW : TypeId := 47
section
variable {ts : List Ty} {k : List UInt8} {t : Ty} {b : Nat} {ps : List ((Fld × V) × Nat)} {a a2 : Option Addr} {c c2 : Nat}
theorem c_withN {node : (Fld × V) × Nat} {tag : Int} (hrf : refT ts k = some t) (hso : t.sort = 82) (h1 : Seg G b 0 [S k, S [82], .slice a ps.length c, .slice a2 ps.length c2]) (h2 : SlV G (.slice a ps.length c) 1 ps.length (rows inR (ps.map tgP))) (h3 : SlV G (.slice a2 ps.length c2) 1 ps.length (rows ptR (ps.map (·.2)))) (hm : ∀ p ∈ ps, p.1.1 ∈ t.fields ∧ RepR G ts p.1.2 p.1.1.kind p.2) (h9 : ps.length ≤ 100000) :
  FnS Try.prog 68 [Pt b 0, I tag, .pointer none] G (fun r G' => ∃ b', r = Pt b' 0 ∧ RepR G' ts (.nd 82 [] 0 ((putB tgP node tag ps true).map fvP)) k b') := by
 have htl : (ps.map tgP).length = ps.length := by simp
 have hbl : (ps.map (·.2)).length = ps.length := by simp
 refine jB [(0, _), (1, _), (2, _)] Try.func68 Try.ntmps68 fun B hok hB hW => ?_
 repeat' (first | (refine jR ?_) | (refine k_op rfl ?_; (refine jV (g_peq0 rfl rfl) ?_)) | (refine k_any (s_any (id := 1) _ (fun _ h => h) mixed ?_); refine jT 5 [0, 1, 2, 4, 5, 6] (bts 11 119) ?_; (refine jG (bts 11 127) 3 rfl (g_ldS rfl rfl (by assumption) rfl rfl) ?_); (refine jG (bts 11 255) 7 rfl (g_ldS rfl rfl (by assumption) rfl rfl) ?_); (refine jG (bts 11 511) 8 rfl (g_bld rfl rfl) ?_); refine jA 9 rfl ?_; (refine c_bx rfl rfl rfl fun _ => ?_); refine jS (bts 11 1023) ?_; refine jT 0 [10] (bts 11 2047) ?_; refine x_done (by kernel_rfl) (k_bk ?_)))
 rename_i x
 refine Nx.addNil tIntW 1 (Nx.addNil tPtrW 1 ?_)
 refine k_loop (ι := List ((Fld × V) × Nat) × Option Addr × Nat × Option Addr × Nat × Nat) (fun q => (q.2.2.2.2.2 ≤ ps.length ∧ q.1.length ≤ q.2.2.2.2.2) ∧ putB tgP node tag ps true = q.1 ++ putB tgP node tag (ps.drop q.2.2.2.2.2) true) (fun q => [(0, Pt b 0), (1, I tag), (7, Pt x 0), (8, Bo true), (9, I q.2.2.2.2.2)]) (fun _ => G) (fun q => [.acc (.slice q.2.2.2.1 q.1.length q.2.2.2.2.1) tPtrW 1 q.1.length (rows ptR (q.1.map (·.2))), .acc (.slice q.2.1 q.1.length q.2.2.1) tIntW 1 q.1.length (rows inR (q.1.map tgP)), .blk x (.cells (List.toArray [S k, S [82], .slice q.2.1 q.1.length q.2.2.1, .slice q.2.2.2.1 q.1.length q.2.2.2.2.1]) tLv (0, 0))]) (fun q => ps.length - q.2.2.2.2.2) ([], none, 0, none, 0, 0) ?_ (by repeat' constructor) rfl sRr (fun q Hq => ?_)
 ·exact ⟨⟨Nat.zero_le _, Nat.zero_le _⟩, rfl⟩
 obtain ⟨gs, a3, c3, a4, c4, i⟩ := q
 dsimp only at Hq ⊢
 obtain ⟨⟨hi0, hgl⟩, hinv⟩ := Hq
 by_cases hi : i < ps.length
 ·obtain ⟨xb, xo, xc, e, hs1⟩ := h2.expl (by omega)
  simp only [Value.slice.injEq] at e
  obtain ⟨rfl, -, rfl⟩ := e
  obtain ⟨zb, zo, zc, e, hs2⟩ := h3.expl (by omega)
  simp only [Value.slice.injEq] at e
  obtain ⟨rfl, -, rfl⟩ := e
  have hti : nth (ps.map tgP) i = tgP (nth ps i) := by rw [nth_eq (by omega), nth_eq hi]; simp
  have hxi : nth (ps.map (·.2)) i = (nth ps i).2 := by rw [nth_eq (by omega), nth_eq hi]; simp
  rw [putB_at hi, if_neg (by simp), List.nil_append, Bool.true_or] at hinv
  by_cases hne : tgP (nth ps i) = tag
  ·rw [if_pos hne, List.nil_append] at hinv
   repeat' (first | refine jM ?_ | (refine k_op rfl ?_; first | refine jV (g_ldS rfl rfl (by assumption) rfl rfl) ?_ | (refine jV (g_ldR1x rfl rfl (by assumption) ?_ (by assumption) rfl) ?_; (focus ((omega); done))) | refine jV (g_lenL rfl) ?_ | (refine jV (g_iaddrN rfl rfl (by omega)) ?_) | (refine jV (g_pickF rfl rfl rfl) ?_)) | (refine k_gf rfl rfl rfl ?_) | (refine k_tt rfl (dTt (by omega)) ?_) | (refine k_ff rfl (by first | rfl | (refine decide_eq_false ?_; (omega))) ?_))
   exact k_rd (gs, a3, c3, a4, c4, i + 1) ⟨⟨by dsimp only; omega, by dsimp only; omega⟩, hinv⟩ (by dsimp only; omega) (by repeat' constructor) rfl sRr
  ·rw [if_neg hne, ← List.append_assoc] at hinv
   have hl1 : (gs ++ [nth ps i]).length = gs.length + 1 := by simp
   have hr1 : rows inR (gs.map tgP) ++ [I (tgP (nth ps i))] = rows inR ((gs ++ [nth ps i]).map tgP) := by rw [List.map_append]; exact (rows_snoc inR _ (tgP (nth ps i))).symm
   have hr2 : rows ptR (gs.map (·.2)) ++ [Pt (nth ps i).2 0] = rows ptR ((gs ++ [nth ps i]).map (·.2)) := by rw [List.map_append]; exact (rows_snoc ptR _ (nth ps i).2).symm
   repeat' (first | (refine jR ?_) | (refine k_op rfl ?_; first | refine jV (g_ldS rfl rfl (by assumption) rfl rfl) ?_ | (refine jV (g_ldR1x rfl rfl (by assumption) ?_ (by assumption) rfl) ?_; (focus ((omega); done))) | refine jV (g_lenL rfl) ?_ | (refine jV (g_iaddrN rfl rfl (by omega)) ?_) | (refine jV (g_pickF rfl rfl rfl) ?_)) | (refine k_gf rfl rfl rfl ?_) | (refine k_tt rfl (by refine decide_eq_true ?_; first | assumption | omega) ?_) | (refine k_ff rfl rfl ?_))
   (refine k_any (s_any (id := 11) [] (fun _ h => absurd h (by simp)) mixed ?_); refine jU 9 [0, 1, 2, 3, 5, 6, 7, 9] (bts 17 751) ?_ ?_; (focus (repeat' (exact trivial))); (refine jG (bts 17 1007) 8 rfl (g_ldS rfl rfl (by assumption) rfl rfl) ?_); ((refine jG (bts 17 2031) 10 rfl (g_iaddrN rfl rfl ?_) ?_; (focus ((omega); done)))); ((refine jG (bts 17 4079) 11 rfl (g_ldR1x rfl rfl (by assumption) ?_ (by assumption) rfl) ?_; (focus ((omega); done)))); refine x_all [4, 12] (by kernel_rfl) (by decide) ⟨?_, ?_, trivial⟩; (focus (refine x_opg rfl rfl ?_; (refine jV (g_ld rfl rfl rfl) ?_); refine jK (bts 17 4095) ?_; refine jA 12 rfl ?_; (refine c_bsl rfl rfl rfl rfl rfl rfl fun _ => ?_); refine jK (bts 17 8191) ?_; refine jA 13 rfl ?_; ((refine c_apX rfl rfl rfl rfl rfl rfl rfl rfl rfl ?_ fun _ _ => ?_; (focus ((omega); done)))); refine jK (bts 17 16383) ?_; refine jU 1 [14, 15] (bts 17 65535) ?_ ?_; (focus (repeat' (exact trivial))); refine jA 16 rfl ?_; (refine c_st1 rfl rfl rfl rfl ?_); refine jK (bts 17 131071) ?_; refine x_done (by kernel_rfl) (k_bk ?_))); rotate_left 1; (focus (refine x_opg rfl rfl ?_; (refine c_bsl rfl rfl rfl rfl rfl rfl fun _ => ?_); refine jK (bts 17 8175) ?_; refine jA 4 rfl ?_; (refine jV (g_ld rfl rfl rfl) ?_); refine jK (bts 17 8191) ?_; refine jA 13 rfl ?_; ((refine c_apX rfl rfl rfl rfl rfl rfl rfl rfl rfl ?_ fun _ _ => ?_; (focus ((omega); done)))); refine jK (bts 17 16383) ?_; refine jU 1 [14, 15] (bts 17 65535) ?_ ?_; (focus (repeat' (exact trivial))); refine jA 16 rfl ?_; (refine c_st1 rfl rfl rfl rfl ?_); refine jK (bts 17 131071) ?_; refine x_done (by kernel_rfl) (k_bk ?_))); rotate_left 1)
   all_goals repeat' (refine jR ?_)
   all_goals (refine k_any (s_any (id := 12) [] (fun _ h => absurd h (by simp)) mixed ?_); refine jU 9 [0, 1, 2, 3, 5, 6, 7, 9] (bts 17 751) ?_ ?_; (focus (repeat' (exact trivial))); (refine jG (bts 17 1007) 8 rfl (g_ldS rfl rfl (by assumption) rfl rfl) ?_); ((refine jG (bts 17 2031) 10 rfl (g_iaddrN rfl rfl ?_) ?_; (focus ((omega); done)))); ((refine jG (bts 17 4079) 11 rfl (g_ldR1x rfl rfl (by assumption) ?_ (by assumption) rfl) ?_; (focus ((omega); done)))); refine x_all [4, 12] (by kernel_rfl) (by decide) ⟨?_, ?_, trivial⟩; (focus (refine x_opg rfl rfl ?_; (refine jV (g_ld rfl rfl rfl) ?_); refine jK (bts 17 4095) ?_; refine jA 12 rfl ?_; (refine c_bsl rfl rfl rfl rfl rfl rfl fun _ => ?_); refine jK (bts 17 8191) ?_; refine jA 13 rfl ?_; ((refine c_apX rfl rfl rfl rfl rfl rfl rfl rfl rfl ?_ fun _ _ => ?_; (focus ((omega); done)))); refine jK (bts 17 16383) ?_; refine jU 1 [14, 15] (bts 17 65535) ?_ ?_; (focus (repeat' (exact trivial))); refine jA 16 rfl ?_; (refine c_st1 rfl rfl rfl rfl ?_); refine jK (bts 17 131071) ?_; refine x_done (by kernel_rfl) (k_bk ?_))); rotate_left 1; (focus (refine x_opg rfl rfl ?_; (refine c_bsl rfl rfl rfl rfl rfl rfl fun _ => ?_); refine jK (bts 17 8175) ?_; refine jA 4 rfl ?_; (refine jV (g_ld rfl rfl rfl) ?_); refine jK (bts 17 8191) ?_; refine jA 13 rfl ?_; ((refine c_apX rfl rfl rfl rfl rfl rfl rfl rfl rfl ?_ fun _ _ => ?_; (focus ((omega); done)))); refine jK (bts 17 16383) ?_; refine jU 1 [14, 15] (bts 17 65535) ?_ ?_; (focus (repeat' (exact trivial))); refine jA 16 rfl ?_; (refine c_st1 rfl rfl rfl rfl ?_); refine jK (bts 17 131071) ?_; refine x_done (by kernel_rfl) (k_bk ?_))); rotate_left 1)
   all_goals repeat' (refine jM ?_)
   all_goals
    rename_i _ y1 yc1 _ y2 yc2
    rw [hr1, hr2]
    exact k_rd (gs ++ [nth ps i], some ⟨y1, 0, none⟩, yc1, some ⟨y2, 0, none⟩, yc2, i + 1) ⟨⟨by dsimp only; omega, by dsimp only; omega⟩, hinv⟩ (by dsimp only; omega) (by repeat' constructor) rfl (by rw [hl1]; repeat (first | exact List.Sublist.refl _ | apply List.Sublist.cons_cons | apply List.Sublist.cons))
 ·rw [List.drop_eq_nil_of_le (by omega), show putB tgP node tag [] true = [] from rfl, List.append_nil] at hinv
  repeat' (first | (refine jR ?_) | (refine k_op rfl ?_; first | refine jV (g_ldS rfl rfl (by assumption) rfl rfl) ?_ | refine jV (g_lenL rfl) ?_) | (refine k_ff rfl (by first | rfl | (refine decide_eq_false ?_; (omega))) ?_))
  refine Nx.sealS (v := .slice a3 gs.length c3) fun G2 hG2 hs1 => ?_
  refine Nx.sealS (v := .slice a4 gs.length c4) fun G3 hG3 hs2 => ?_
  refine Nx.sealC (b := x) fun G4 hG4 hsg => ?_
  refine jZ (vs := [_]) rfl ⟨rfl, trivial⟩ rfl ⟨((hG2.trans hG3).trans hG4), rfl, ?_⟩
  rw [hinv]
  exact ⟨x, rfl, recd_mk hrf hso hsg ((hs1.mono hG3).mono hG4) (hs2.mono hG4) fun p hp => by
   rw [← hinv] at hp
   have hp := putB_memT hp
   exact ⟨(hm p hp).1, ((hm p hp).2).mono ((hG2.trans hG3).trans hG4)⟩⟩
theorem c_withY {f : Fld} {z : V} {zb : Nat} (hrf : refT ts k = some t) (hso : t.sort = 82) (h1 : Seg G b 0 [S k, S [82], .slice a ps.length c, .slice a2 ps.length c2]) (h2 : SlV G (.slice a ps.length c) 1 ps.length (rows inR (ps.map tgP))) (h3 : SlV G (.slice a2 ps.length c2) 1 ps.length (rows ptR (ps.map (·.2)))) (hm : ∀ p ∈ ps, p.1.1 ∈ t.fields ∧ RepR G ts p.1.2 p.1.1.kind p.2) (h9 : ps.length ≤ 100000) (hf : f ∈ t.fields) (hz : RepR G ts z f.kind zb) :
  FnS Try.prog 68 [Pt b 0, I f.tag, Pt zb 0] G (fun r G' => ∃ b', r = Pt b' 0 ∧ RepR G' ts (.nd 82 [] 0 ((putB tgP ((f, z), zb) f.tag ps false).map fvP)) k b') := by
 have htl : (ps.map tgP).length = ps.length := by simp
 have hbl : (ps.map (·.2)).length = ps.length := by simp
 have hnd : tgP ((f, z), zb) = f.tag := rfl
 have hap1 : ∀ (gs : List ((Fld × V) × Nat)) (p : (Fld × V) × Nat), rows inR (gs.map tgP) ++ [I (tgP p)] = rows inR ((gs ++ [p]).map tgP) := fun gs p => by rw [List.map_append]; exact (rows_snoc inR _ (tgP p)).symm
 have hap2 : ∀ (gs : List ((Fld × V) × Nat)) (p : (Fld × V) × Nat), rows ptR (gs.map (·.2)) ++ [Pt p.2 0] = rows ptR ((gs ++ [p]).map (·.2)) := fun gs p => by rw [List.map_append]; exact (rows_snoc ptR _ p.2).symm
 have hmem : ∀ {G' : Gh} {p : (Fld × V) × Nat}, Gh.le G G' → p ∈ putB tgP ((f, z), zb) f.tag ps false → p.1.1 ∈ t.fields ∧ RepR G' ts p.1.2 p.1.1.kind p.2 := fun hle hp => by
  rcases putB_mem hp with rfl | hp
  ·exact ⟨hf, hz.mono hle⟩
  ·exact ⟨(hm _ hp).1, ((hm _ hp).2).mono hle⟩
 refine jB [(0, _), (1, _), (2, _)] Try.func68 Try.ntmps68 fun B hok hB hW => ?_
 repeat' (first | (refine jR ?_) | (refine k_op rfl ?_; (refine jV (g_peq0 rfl rfl) ?_)) | (refine k_any (s_any (id := 1) _ (fun _ h => h) mixed ?_); refine jT 5 [0, 1, 2, 4, 5, 6] (bts 11 119) ?_; (refine jG (bts 11 127) 3 rfl (g_ldS rfl rfl (by assumption) rfl rfl) ?_); (refine jG (bts 11 255) 7 rfl (g_ldS rfl rfl (by assumption) rfl rfl) ?_); (refine jG (bts 11 511) 8 rfl (g_bld rfl rfl) ?_); refine jA 9 rfl ?_; (refine c_bx rfl rfl rfl fun _ => ?_); refine jS (bts 11 1023) ?_; refine jT 0 [10] (bts 11 2047) ?_; refine x_done (by kernel_rfl) (k_bk ?_)))
 rename_i x
 refine Nx.addNil tIntW 1 (Nx.addNil tPtrW 1 ?_)
 refine k_loop (ι := List ((Fld × V) × Nat) × Option Addr × Nat × Option Addr × Nat × Bool × Nat) (fun q => (q.2.2.2.2.2.2 ≤ ps.length ∧ q.1.length ≤ 2 * q.2.2.2.2.2.2 + 1) ∧ putB tgP ((f, z), zb) f.tag ps false = q.1 ++ putB tgP ((f, z), zb) f.tag (ps.drop q.2.2.2.2.2.2) q.2.2.2.2.2.1) (fun q => [(0, Pt b 0), (1, I f.tag), (2, Pt zb 0), (7, Pt x 0), (8, Bo q.2.2.2.2.2.1), (9, I q.2.2.2.2.2.2)]) (fun _ => G) (fun q => [.acc (.slice q.2.2.2.1 q.1.length q.2.2.2.2.1) tPtrW 1 q.1.length (rows ptR (q.1.map (·.2))), .acc (.slice q.2.1 q.1.length q.2.2.1) tIntW 1 q.1.length (rows inR (q.1.map tgP)), .blk x (.cells (List.toArray [S k, S [82], .slice q.2.1 q.1.length q.2.2.1, .slice q.2.2.2.1 q.1.length q.2.2.2.2.1]) tLv (0, 0))]) (fun q => ps.length - q.2.2.2.2.2.2) ([], none, 0, none, 0, false, 0) ?_ (by repeat' constructor) rfl sRr (fun q Hq => ?_)
 ·exact ⟨⟨Nat.zero_le _, Nat.zero_le _⟩, rfl⟩
 obtain ⟨gs, a3, c3, a4, c4, d, i⟩ := q
 dsimp only at Hq ⊢
 obtain ⟨⟨hi0, hgl⟩, hinv⟩ := Hq
 by_cases hi : i < ps.length
 ·obtain ⟨xb, xo, xc, e, hs1⟩ := h2.expl (by omega)
  simp only [Value.slice.injEq] at e
  obtain ⟨rfl, -, rfl⟩ := e
  obtain ⟨zc, zo, zd, e, hs2⟩ := h3.expl (by omega)
  simp only [Value.slice.injEq] at e
  obtain ⟨rfl, -, rfl⟩ := e
  have hti : nth (ps.map tgP) i = tgP (nth ps i) := by rw [nth_eq (by omega), nth_eq hi]; simp
  have hxi : nth (ps.map (·.2)) i = (nth ps i).2 := by rw [nth_eq (by omega), nth_eq hi]; simp
  rw [putB_at hi] at hinv
  have hl1 : (gs ++ [nth ps i]).length = gs.length + 1 := by simp
  have hl2 : (gs ++ [((f, z), zb)] ++ [nth ps i]).length = gs.length + 1 + 1 := by simp
  cases d with
  | true =>
   rw [if_neg (by simp), List.nil_append, Bool.true_or] at hinv
   by_cases hne : tgP (nth ps i) = f.tag
   ·rw [if_pos hne, List.nil_append] at hinv
    repeat' (first | refine jM ?_ | (refine k_op rfl ?_; first | refine jV (g_ldS rfl rfl (by assumption) rfl rfl) ?_ | (refine jV (g_ldR1x rfl rfl (by assumption) ?_ (by assumption) rfl) ?_; (focus ((omega); done))) | refine jV (g_lenL rfl) ?_ | (refine jV (g_iaddrN rfl rfl (by omega)) ?_) | (refine jV (g_pickF rfl rfl rfl) ?_)) | (refine k_gf rfl rfl rfl ?_) | (refine k_tt rfl (dTt (by omega)) ?_) | (refine k_ff rfl (by first | rfl | (refine decide_eq_false ?_; (omega))) ?_))
    exact k_rd (gs, a3, c3, a4, c4, true, i + 1) ⟨⟨by dsimp only; omega, by dsimp only; omega⟩, hinv⟩ (by dsimp only; omega) (by repeat' constructor) rfl sRr
   ·rw [if_neg hne, ← List.append_assoc] at hinv
    repeat' (first | (refine jR ?_) | (refine k_op rfl ?_; first | refine jV (g_ldS rfl rfl (by assumption) rfl rfl) ?_ | (refine jV (g_ldR1x rfl rfl (by assumption) ?_ (by assumption) rfl) ?_; (focus ((omega); done))) | refine jV (g_lenL rfl) ?_ | (refine jV (g_iaddrN rfl rfl (by omega)) ?_) | (refine jV (g_pickF rfl rfl rfl) ?_)) | (refine k_gf rfl rfl rfl ?_) | (refine k_tt rfl (by refine decide_eq_true ?_; first | assumption | omega) ?_) | (refine k_ff rfl rfl ?_))
    (refine k_any (s_any (id := 11) [] (fun _ h => absurd h (by simp)) mixed ?_); refine jU 9 [0, 1, 2, 3, 5, 6, 7, 9] (bts 17 751) ?_ ?_; (focus (repeat' (exact trivial))); (refine jG (bts 17 1007) 8 rfl (g_ldS rfl rfl (by assumption) rfl rfl) ?_); ((refine jG (bts 17 2031) 10 rfl (g_iaddrN rfl rfl ?_) ?_; (focus ((omega); done)))); ((refine jG (bts 17 4079) 11 rfl (g_ldR1x rfl rfl (by assumption) ?_ (by assumption) rfl) ?_; (focus ((omega); done)))); refine x_all [4, 12] (by kernel_rfl) (by decide) ⟨?_, ?_, trivial⟩; (focus (refine x_opg rfl rfl ?_; (refine jV (g_ld rfl rfl rfl) ?_); refine jK (bts 17 4095) ?_; refine jA 12 rfl ?_; (refine c_bsl rfl rfl rfl rfl rfl rfl fun _ => ?_); refine jK (bts 17 8191) ?_; refine jA 13 rfl ?_; ((refine c_apX rfl rfl rfl rfl rfl rfl rfl rfl rfl ?_ fun _ _ => ?_; (focus ((omega); done)))); refine jK (bts 17 16383) ?_; refine jU 1 [14, 15] (bts 17 65535) ?_ ?_; (focus (repeat' (exact trivial))); refine jA 16 rfl ?_; (refine c_st1 rfl rfl rfl rfl ?_); refine jK (bts 17 131071) ?_; refine x_done (by kernel_rfl) (k_bk ?_))); rotate_left 1; (focus (refine x_opg rfl rfl ?_; (refine c_bsl rfl rfl rfl rfl rfl rfl fun _ => ?_); refine jK (bts 17 8175) ?_; refine jA 4 rfl ?_; (refine jV (g_ld rfl rfl rfl) ?_); refine jK (bts 17 8191) ?_; refine jA 13 rfl ?_; ((refine c_apX rfl rfl rfl rfl rfl rfl rfl rfl rfl ?_ fun _ _ => ?_; (focus ((omega); done)))); refine jK (bts 17 16383) ?_; refine jU 1 [14, 15] (bts 17 65535) ?_ ?_; (focus (repeat' (exact trivial))); refine jA 16 rfl ?_; (refine c_st1 rfl rfl rfl rfl ?_); refine jK (bts 17 131071) ?_; refine x_done (by kernel_rfl) (k_bk ?_))); rotate_left 1)
    all_goals repeat' (refine jR ?_)
    all_goals (refine k_any (s_any (id := 12) [] (fun _ h => absurd h (by simp)) mixed ?_); refine jU 9 [0, 1, 2, 3, 5, 6, 7, 9] (bts 17 751) ?_ ?_; (focus (repeat' (exact trivial))); (refine jG (bts 17 1007) 8 rfl (g_ldS rfl rfl (by assumption) rfl rfl) ?_); ((refine jG (bts 17 2031) 10 rfl (g_iaddrN rfl rfl ?_) ?_; (focus ((omega); done)))); ((refine jG (bts 17 4079) 11 rfl (g_ldR1x rfl rfl (by assumption) ?_ (by assumption) rfl) ?_; (focus ((omega); done)))); refine x_all [4, 12] (by kernel_rfl) (by decide) ⟨?_, ?_, trivial⟩; (focus (refine x_opg rfl rfl ?_; (refine jV (g_ld rfl rfl rfl) ?_); refine jK (bts 17 4095) ?_; refine jA 12 rfl ?_; (refine c_bsl rfl rfl rfl rfl rfl rfl fun _ => ?_); refine jK (bts 17 8191) ?_; refine jA 13 rfl ?_; ((refine c_apX rfl rfl rfl rfl rfl rfl rfl rfl rfl ?_ fun _ _ => ?_; (focus ((omega); done)))); refine jK (bts 17 16383) ?_; refine jU 1 [14, 15] (bts 17 65535) ?_ ?_; (focus (repeat' (exact trivial))); refine jA 16 rfl ?_; (refine c_st1 rfl rfl rfl rfl ?_); refine jK (bts 17 131071) ?_; refine x_done (by kernel_rfl) (k_bk ?_))); rotate_left 1; (focus (refine x_opg rfl rfl ?_; (refine c_bsl rfl rfl rfl rfl rfl rfl fun _ => ?_); refine jK (bts 17 8175) ?_; refine jA 4 rfl ?_; (refine jV (g_ld rfl rfl rfl) ?_); refine jK (bts 17 8191) ?_; refine jA 13 rfl ?_; ((refine c_apX rfl rfl rfl rfl rfl rfl rfl rfl rfl ?_ fun _ _ => ?_; (focus ((omega); done)))); refine jK (bts 17 16383) ?_; refine jU 1 [14, 15] (bts 17 65535) ?_ ?_; (focus (repeat' (exact trivial))); refine jA 16 rfl ?_; (refine c_st1 rfl rfl rfl rfl ?_); refine jK (bts 17 131071) ?_; refine x_done (by kernel_rfl) (k_bk ?_))); rotate_left 1)
    all_goals repeat' (refine jM ?_)
    all_goals
     rename_i _ y1 yc1 _ y2 yc2
     rw [hap1, hap2]
     exact k_rd (gs ++ [nth ps i], some ⟨y1, 0, none⟩, yc1, some ⟨y2, 0, none⟩, yc2, true, i + 1) ⟨⟨by dsimp only; omega, by dsimp only; omega⟩, hinv⟩ (by dsimp only; omega) (by repeat' constructor) rfl (by rw [hl1]; repeat (first | exact List.Sublist.refl _ | apply List.Sublist.cons_cons | apply List.Sublist.cons))
  | false =>
   rw [Bool.false_or] at hinv
   by_cases hgt : f.tag < tgP (nth ps i)
   ·rw [if_pos ⟨hgt, rfl⟩, decide_eq_true hgt, if_neg (by omega), ← List.append_assoc, ← List.append_assoc] at hinv
    have hne : ¬ tgP (nth ps i) = f.tag := by omega
    repeat' (first | (refine jR ?_) | (refine k_op rfl ?_; first | refine jV (g_ld rfl rfl rfl) ?_ | refine jV (g_ldS rfl rfl (by assumption) rfl rfl) ?_ | (refine jV (g_ldR1x rfl rfl (by assumption) ?_ (by assumption) rfl) ?_; (focus ((omega); done))) | refine jV (g_lenL rfl) ?_ | (refine jV (g_iaddrN rfl rfl (by omega)) ?_) | (refine jV (g_pickT rfl rfl rfl) ?_) | refine c_bsl rfl rfl rfl rfl rfl rfl fun _ => ?_ | (refine c_apX rfl rfl rfl rfl rfl rfl rfl rfl rfl (by omega) fun _ _ => ?_) | refine c_st1 rfl rfl rfl rfl ?_) | (refine k_gt rfl rfl rfl ?_) | (refine k_tt rfl (by refine decide_eq_true ?_; first | assumption | omega) ?_))
    (refine k_any (s_any (id := 11) [] (fun _ h => absurd h (by simp)) mixed ?_); refine jU 9 [0, 1, 2, 3, 5, 6, 7, 9] (bts 17 751) ?_ ?_; (focus (repeat' (exact trivial))); (refine jG (bts 17 1007) 8 rfl (g_ldS rfl rfl (by assumption) rfl rfl) ?_); ((refine jG (bts 17 2031) 10 rfl (g_iaddrN rfl rfl ?_) ?_; (focus ((omega); done)))); ((refine jG (bts 17 4079) 11 rfl (g_ldR1x rfl rfl (by assumption) ?_ (by assumption) rfl) ?_; (focus ((omega); done)))); refine x_all [4, 12] (by kernel_rfl) (by decide) ⟨?_, ?_, trivial⟩; (focus (refine x_opg rfl rfl ?_; (refine jV (g_ld rfl rfl rfl) ?_); refine jK (bts 17 4095) ?_; refine jA 12 rfl ?_; (refine c_bsl rfl rfl rfl rfl rfl rfl fun _ => ?_); refine jK (bts 17 8191) ?_; refine jA 13 rfl ?_; ((refine c_apX rfl rfl rfl rfl rfl rfl rfl rfl rfl ?_ fun _ _ => ?_; (focus ((omega); done)))); refine jK (bts 17 16383) ?_; refine jU 1 [14, 15] (bts 17 65535) ?_ ?_; (focus (repeat' (exact trivial))); refine jA 16 rfl ?_; (refine c_st1 rfl rfl rfl rfl ?_); refine jK (bts 17 131071) ?_; refine x_done (by kernel_rfl) (k_bk ?_))); rotate_left 1; (focus (refine x_opg rfl rfl ?_; (refine c_bsl rfl rfl rfl rfl rfl rfl fun _ => ?_); refine jK (bts 17 8175) ?_; refine jA 4 rfl ?_; (refine jV (g_ld rfl rfl rfl) ?_); refine jK (bts 17 8191) ?_; refine jA 13 rfl ?_; ((refine c_apX rfl rfl rfl rfl rfl rfl rfl rfl rfl ?_ fun _ _ => ?_; (focus ((omega); done)))); refine jK (bts 17 16383) ?_; refine jU 1 [14, 15] (bts 17 65535) ?_ ?_; (focus (repeat' (exact trivial))); refine jA 16 rfl ?_; (refine c_st1 rfl rfl rfl rfl ?_); refine jK (bts 17 131071) ?_; refine x_done (by kernel_rfl) (k_bk ?_))); rotate_left 1)
    all_goals repeat' (refine jR ?_)
    all_goals (refine k_any (s_any (id := 12) [] (fun _ h => absurd h (by simp)) mixed ?_); refine jU 9 [0, 1, 2, 3, 5, 6, 7, 9] (bts 17 751) ?_ ?_; (focus (repeat' (exact trivial))); (refine jG (bts 17 1007) 8 rfl (g_ldS rfl rfl (by assumption) rfl rfl) ?_); ((refine jG (bts 17 2031) 10 rfl (g_iaddrN rfl rfl ?_) ?_; (focus ((omega); done)))); ((refine jG (bts 17 4079) 11 rfl (g_ldR1x rfl rfl (by assumption) ?_ (by assumption) rfl) ?_; (focus ((omega); done)))); refine x_all [4, 12] (by kernel_rfl) (by decide) ⟨?_, ?_, trivial⟩; (focus (refine x_opg rfl rfl ?_; (refine jV (g_ld rfl rfl rfl) ?_); refine jK (bts 17 4095) ?_; refine jA 12 rfl ?_; (refine c_bsl rfl rfl rfl rfl rfl rfl fun _ => ?_); refine jK (bts 17 8191) ?_; refine jA 13 rfl ?_; ((refine c_apX rfl rfl rfl rfl rfl rfl rfl rfl rfl ?_ fun _ _ => ?_; (focus ((omega); done)))); refine jK (bts 17 16383) ?_; refine jU 1 [14, 15] (bts 17 65535) ?_ ?_; (focus (repeat' (exact trivial))); refine jA 16 rfl ?_; (refine c_st1 rfl rfl rfl rfl ?_); refine jK (bts 17 131071) ?_; refine x_done (by kernel_rfl) (k_bk ?_))); rotate_left 1; (focus (refine x_opg rfl rfl ?_; (refine c_bsl rfl rfl rfl rfl rfl rfl fun _ => ?_); refine jK (bts 17 8175) ?_; refine jA 4 rfl ?_; (refine jV (g_ld rfl rfl rfl) ?_); refine jK (bts 17 8191) ?_; refine jA 13 rfl ?_; ((refine c_apX rfl rfl rfl rfl rfl rfl rfl rfl rfl ?_ fun _ _ => ?_; (focus ((omega); done)))); refine jK (bts 17 16383) ?_; refine jU 1 [14, 15] (bts 17 65535) ?_ ?_; (focus (repeat' (exact trivial))); refine jA 16 rfl ?_; (refine c_st1 rfl rfl rfl rfl ?_); refine jK (bts 17 131071) ?_; refine x_done (by kernel_rfl) (k_bk ?_))); rotate_left 1)
    all_goals repeat' (refine jM ?_)
    all_goals
     rename_i _ y1 yc1 _ y2 yc2 _ y3 yc3 _ y4 yc4
     rw [show rows inR (gs.map tgP) ++ [I f.tag] = rows inR ((gs ++ [((f, z), zb)]).map tgP) from hap1 gs ((f, z), zb), show rows ptR (gs.map (·.2)) ++ [Pt zb 0] = rows ptR ((gs ++ [((f, z), zb)]).map (·.2)) from hap2 gs ((f, z), zb), hap1, hap2]
     exact k_rd (gs ++ [((f, z), zb)] ++ [nth ps i], some ⟨y3, 0, none⟩, yc3, some ⟨y4, 0, none⟩, yc4, true, i + 1) ⟨⟨by dsimp only; omega, by dsimp only; omega⟩, hinv⟩ (by dsimp only; omega) (by repeat' constructor) rfl (by rw [hl2]; repeat (first | exact List.Sublist.refl _ | apply List.Sublist.cons_cons | apply List.Sublist.cons))
   ·rw [if_neg (by simp [hgt]), decide_eq_false hgt, List.nil_append] at hinv
    by_cases hne : tgP (nth ps i) = f.tag
    ·rw [if_pos hne, List.nil_append] at hinv
     repeat' (first | refine jM ?_ | (refine k_op rfl ?_; first | refine jV (g_ldS rfl rfl (by assumption) rfl rfl) ?_ | (refine jV (g_ldR1x rfl rfl (by assumption) ?_ (by assumption) rfl) ?_; (focus ((omega); done))) | refine jV (g_lenL rfl) ?_ | (refine jV (g_iaddrN rfl rfl (by omega)) ?_) | (refine jV (g_pickT rfl rfl rfl) ?_)) | (refine k_gt rfl rfl rfl ?_) | (refine k_tt rfl (dTt (by omega)) ?_) | (refine k_ff rfl (by refine decide_eq_false ?_; first | assumption | omega) ?_))
     exact k_rd (gs, a3, c3, a4, c4, false, i + 1) ⟨⟨by dsimp only; omega, by dsimp only; omega⟩, hinv⟩ (by dsimp only; omega) (by repeat' constructor) rfl sRr
    ·rw [if_neg hne, ← List.append_assoc] at hinv
     repeat' (first | (refine jR ?_) | (refine k_op rfl ?_; first | refine jV (g_ldS rfl rfl (by assumption) rfl rfl) ?_ | (refine jV (g_ldR1x rfl rfl (by assumption) ?_ (by assumption) rfl) ?_; (focus ((omega); done))) | refine jV (g_lenL rfl) ?_ | (refine jV (g_iaddrN rfl rfl (by omega)) ?_) | (refine jV (g_pickT rfl rfl rfl) ?_)) | (refine k_gt rfl rfl rfl ?_) | (refine k_tt rfl (by refine decide_eq_true ?_; first | assumption | omega) ?_) | (refine k_ff rfl (dFf ‹_›) ?_))
     (refine k_any (s_any (id := 11) [] (fun _ h => absurd h (by simp)) mixed ?_); refine jU 9 [0, 1, 2, 3, 5, 6, 7, 9] (bts 17 751) ?_ ?_; (focus (repeat' (exact trivial))); (refine jG (bts 17 1007) 8 rfl (g_ldS rfl rfl (by assumption) rfl rfl) ?_); ((refine jG (bts 17 2031) 10 rfl (g_iaddrN rfl rfl ?_) ?_; (focus ((omega); done)))); ((refine jG (bts 17 4079) 11 rfl (g_ldR1x rfl rfl (by assumption) ?_ (by assumption) rfl) ?_; (focus ((omega); done)))); refine x_all [4, 12] (by kernel_rfl) (by decide) ⟨?_, ?_, trivial⟩; (focus (refine x_opg rfl rfl ?_; (refine jV (g_ld rfl rfl rfl) ?_); refine jK (bts 17 4095) ?_; refine jA 12 rfl ?_; (refine c_bsl rfl rfl rfl rfl rfl rfl fun _ => ?_); refine jK (bts 17 8191) ?_; refine jA 13 rfl ?_; ((refine c_apX rfl rfl rfl rfl rfl rfl rfl rfl rfl ?_ fun _ _ => ?_; (focus ((omega); done)))); refine jK (bts 17 16383) ?_; refine jU 1 [14, 15] (bts 17 65535) ?_ ?_; (focus (repeat' (exact trivial))); refine jA 16 rfl ?_; (refine c_st1 rfl rfl rfl rfl ?_); refine jK (bts 17 131071) ?_; refine x_done (by kernel_rfl) (k_bk ?_))); rotate_left 1; (focus (refine x_opg rfl rfl ?_; (refine c_bsl rfl rfl rfl rfl rfl rfl fun _ => ?_); refine jK (bts 17 8175) ?_; refine jA 4 rfl ?_; (refine jV (g_ld rfl rfl rfl) ?_); refine jK (bts 17 8191) ?_; refine jA 13 rfl ?_; ((refine c_apX rfl rfl rfl rfl rfl rfl rfl rfl rfl ?_ fun _ _ => ?_; (focus ((omega); done)))); refine jK (bts 17 16383) ?_; refine jU 1 [14, 15] (bts 17 65535) ?_ ?_; (focus (repeat' (exact trivial))); refine jA 16 rfl ?_; (refine c_st1 rfl rfl rfl rfl ?_); refine jK (bts 17 131071) ?_; refine x_done (by kernel_rfl) (k_bk ?_))); rotate_left 1)
     all_goals repeat' (refine jR ?_)
     all_goals (refine k_any (s_any (id := 12) [] (fun _ h => absurd h (by simp)) mixed ?_); refine jU 9 [0, 1, 2, 3, 5, 6, 7, 9] (bts 17 751) ?_ ?_; (focus (repeat' (exact trivial))); (refine jG (bts 17 1007) 8 rfl (g_ldS rfl rfl (by assumption) rfl rfl) ?_); ((refine jG (bts 17 2031) 10 rfl (g_iaddrN rfl rfl ?_) ?_; (focus ((omega); done)))); ((refine jG (bts 17 4079) 11 rfl (g_ldR1x rfl rfl (by assumption) ?_ (by assumption) rfl) ?_; (focus ((omega); done)))); refine x_all [4, 12] (by kernel_rfl) (by decide) ⟨?_, ?_, trivial⟩; (focus (refine x_opg rfl rfl ?_; (refine jV (g_ld rfl rfl rfl) ?_); refine jK (bts 17 4095) ?_; refine jA 12 rfl ?_; (refine c_bsl rfl rfl rfl rfl rfl rfl fun _ => ?_); refine jK (bts 17 8191) ?_; refine jA 13 rfl ?_; ((refine c_apX rfl rfl rfl rfl rfl rfl rfl rfl rfl ?_ fun _ _ => ?_; (focus ((omega); done)))); refine jK (bts 17 16383) ?_; refine jU 1 [14, 15] (bts 17 65535) ?_ ?_; (focus (repeat' (exact trivial))); refine jA 16 rfl ?_; (refine c_st1 rfl rfl rfl rfl ?_); refine jK (bts 17 131071) ?_; refine x_done (by kernel_rfl) (k_bk ?_))); rotate_left 1; (focus (refine x_opg rfl rfl ?_; (refine c_bsl rfl rfl rfl rfl rfl rfl fun _ => ?_); refine jK (bts 17 8175) ?_; refine jA 4 rfl ?_; (refine jV (g_ld rfl rfl rfl) ?_); refine jK (bts 17 8191) ?_; refine jA 13 rfl ?_; ((refine c_apX rfl rfl rfl rfl rfl rfl rfl rfl rfl ?_ fun _ _ => ?_; (focus ((omega); done)))); refine jK (bts 17 16383) ?_; refine jU 1 [14, 15] (bts 17 65535) ?_ ?_; (focus (repeat' (exact trivial))); refine jA 16 rfl ?_; (refine c_st1 rfl rfl rfl rfl ?_); refine jK (bts 17 131071) ?_; refine x_done (by kernel_rfl) (k_bk ?_))); rotate_left 1)
     all_goals repeat' (refine jM ?_)
     all_goals
      rename_i _ y1 yc1 _ y2 yc2
      rw [hap1, hap2]
      exact k_rd (gs ++ [nth ps i], some ⟨y1, 0, none⟩, yc1, some ⟨y2, 0, none⟩, yc2, false, i + 1) ⟨⟨by dsimp only; omega, by dsimp only; omega⟩, hinv⟩ (by dsimp only; omega) (by repeat' constructor) rfl (by rw [hl1]; repeat (first | exact List.Sublist.refl _ | apply List.Sublist.cons_cons | apply List.Sublist.cons))
 ·rw [List.drop_eq_nil_of_le (by omega)] at hinv
  cases d with
  | true =>
   rw [show putB tgP ((f, z), zb) f.tag [] true = [] from rfl, List.append_nil] at hinv
   repeat' (first | (refine jR ?_) | (refine k_op rfl ?_; first | refine jV (g_ldS rfl rfl (by assumption) rfl rfl) ?_ | refine jV (g_lenL rfl) ?_) | (refine k_ff rfl (by first | rfl | (refine decide_eq_false ?_; (omega))) ?_))
   refine Nx.sealS (v := .slice a3 gs.length c3) fun G2 hG2 hs1 => ?_
   refine Nx.sealS (v := .slice a4 gs.length c4) fun G3 hG3 hs2 => ?_
   refine Nx.sealC (b := x) fun G4 hG4 hsg => ?_
   refine jZ (vs := [_]) rfl ⟨rfl, trivial⟩ rfl ⟨((hG2.trans hG3).trans hG4), rfl, ?_⟩
   exact ⟨x, rfl, by rw [hinv]; exact recd_mk hrf hso hsg ((hs1.mono hG3).mono hG4) (hs2.mono hG4) fun p hp => hmem ((hG2.trans hG3).trans hG4) (by rw [hinv]; exact hp)⟩
  | false =>
   rw [show putB tgP ((f, z), zb) f.tag [] false = [((f, z), zb)] from rfl] at hinv
   have hl1 : (gs ++ [((f, z), zb)]).length = gs.length + 1 := by simp
   repeat' (first | (refine jR ?_) | (refine k_op rfl ?_; first | refine jV (g_ld rfl rfl rfl) ?_ | refine jV (g_ldS rfl rfl (by assumption) rfl rfl) ?_ | refine jV (g_lenL rfl) ?_ | refine c_bsl rfl rfl rfl rfl rfl rfl fun _ => ?_ | (refine c_apX rfl rfl rfl rfl rfl rfl rfl rfl rfl (by omega) fun _ _ => ?_) | refine c_st1 rfl rfl rfl rfl ?_) | (refine k_tt rfl rfl ?_) | (refine k_ff rfl (dFf (by omega)) ?_))
   rename_i _ y1 yc1 _ y2 yc2
   rw [show rows inR (gs.map tgP) ++ [I f.tag] = rows inR ((gs ++ [((f, z), zb)]).map tgP) from hap1 gs ((f, z), zb), show rows ptR (gs.map (·.2)) ++ [Pt zb 0] = rows ptR ((gs ++ [((f, z), zb)]).map (·.2)) from hap2 gs ((f, z), zb), ← hl1]
   refine Nx.sealS (v := .slice (some ⟨y1, 0, none⟩) (gs ++ [((f, z), zb)]).length yc1) fun G2 hG2 hs1 => ?_
   refine Nx.sealS (v := .slice (some ⟨y2, 0, none⟩) (gs ++ [((f, z), zb)]).length yc2) fun G3 hG3 hs2 => ?_
   refine Nx.sealC (b := x) fun G4 hG4 hsg => ?_
   refine jZ (vs := [_]) rfl ⟨rfl, trivial⟩ rfl ⟨((hG2.trans hG3).trans hG4), rfl, ?_⟩
   exact ⟨x, rfl, by rw [hinv]; exact recd_mk hrf hso hsg ((hs1.mono hG3).mono hG4) (hs2.mono hG4) fun p hp => hmem ((hG2.trans hG3).trans hG4) (by rw [hinv]; exact hp)⟩
end
end Go.E
namespace Go.E
set_option maxRecDepth 20000
set_option maxHeartbeats 2000000
open Go.Proofs
variable {ts : List Ty}
theorem fldT_tag' {fs : List Fld} {n : Int} {d : Fld} (h : fldT fs n = some d) : d.tag = n ∧ d ∈ fs := ⟨by have := List.find?_some h; simpa using this, List.mem_of_find?_eq_some h⟩
theorem tots_set : ∀ {ks : List V} {i : Nat} {y : V}, i < ks.length → V.tots (ks.set i y) + (nth ks i).tot = V.tots ks + y.tot
 | [], i, y, h => by simp at h
 | v :: ks, 0, y, _ => by rw [List.set_cons_zero, V.tots, V.tots, show nth (v :: ks) 0 = v from rfl]; omega
 | v :: ks, i + 1, y, h => by
  have := tots_set (ks := ks) (i := i) (y := y) (by simpa using h)
  rw [List.set_cons_succ, V.tots, V.tots, show nth (v :: ks) (i + 1) = nth ks i from rfl]; omega
theorem nf_tot {f : Fld} {y : V} : V.tots (nf ts f y) ≤ 20 + y.tot := by
 unfold nf
 split
 ·simp [V.tots]
 ·simp [V.tots, nd_tot]
theorem putF_tot {f : Fld} {y : V} : ∀ {vs : List V}, V.tots (putF ts f y vs) ≤ V.tots vs + 20 + y.tot
 | [] => by rw [putF_nil]; have := nf_tot (ts := ts) (f := f) (y := y); simp only [V.tots]; omega
 | v :: vs => by
  have h1 := nf_tot (ts := ts) (f := f) (y := y)
  have h2 := putF_tot (f := f) (y := y) (vs := vs)
  rw [putF_cons]
  split
  ·rw [V.tots, V.tots]; omega
  ·rw [tots_app]
   split
   ·rw [V.tots]; omega
   ·rw [V.tots]; omega
theorem kid0_tot (v : V) : (nth v.kids 0).tot ≤ v.tot := by
 obtain ⟨w, x, t, ks⟩ := v
 rw [nd_tot, V.kids]
 cases ks with
 | nil =>
  have : (nth ([] : List V) 0).tot = 20 := by show V.tot (.nd 0 [] 0 []) = 20; rw [nd_tot]; simp [V.tots]
  omega
 | cons u ks => rw [V.tots, show nth (u :: ks) 0 = u from rfl]; omega
theorem putF_tot2 {f : Fld} {y u : V} : ∀ {vs : List V}, Srt vs → toldV f vs = some u → V.tots (putF ts f y vs) + u.tot ≤ V.tots vs + 20 + y.tot
 | [], _, h => by cases h
 | v :: vs, hs, h => by
  replace hs := List.pairwise_cons.1 hs
  have h1 := nf_tot (ts := ts) (f := f) (y := y)
  rw [toldV] at h
  rw [putF_cons]
  by_cases he : v.tag = f.tag
  ·rw [if_pos he] at h
   simp only [Option.some.injEq] at h
   have h3 := kid0_tot v
   rw [h] at h3
   rw [if_neg (by omega), if_pos he, tots_app, V.tots]; omega
  ·rw [if_neg he] at h
   by_cases hl : v.tag < f.tag
   ·have h2 := putF_tot2 (y := y) hs.2 h
    rw [if_pos hl, V.tots, V.tots]; omega
   ·rw [toldV_gt fun z hz => by have := hs.1 z hz; omega] at h
    cases h
theorem setV_tot (hw : SchW ts) {k : List UInt8} {v : V} (h : OfK ts k v) (hk : kindIn ts k = true) {n : Int} (hn : 0 ≤ n) {k1 : List UInt8} {v1 : V} (e : stepV ts k v n = some (k1, v1)) (y : V) :
  (setV ts k v n y).tot + v1.tot ≤ v.tot + 40 + y.tot ∨ (v1.tot ≤ 40000 ∧ (setV ts k v n y).tot ≤ v.tot + 40 + y.tot) := by
 obtain ⟨c, r, rfl⟩ := kind_ne hk
 unfold stepV at e
 dsimp only at e
 split at e
 ·rename_i hc
  split at e
  ·rename_i hlt
   simp only [Option.some.injEq, Prod.mk.injEq] at e
   obtain ⟨rfl, rfl⟩ := e
   rcases ofK_inv_c h (by omega) with ⟨g1, _⟩ | ⟨g1, _⟩ | ⟨g1, _⟩ | ⟨g1, ks, g2, g3, rfl⟩ | ⟨g1, rfl | ⟨u, g3, rfl⟩⟩
   ·omega
   ·omega
   ·omega
   ·rw [V.kids] at hlt ⊢
    have hs := tots_set (ks := ks) (i := n.toNat) (y := y) (by omega)
    unfold setV
    rw [V.what, if_neg (by decide), if_pos rfl, V.kids, nd_tot, nd_tot]
    left; omega
   ·simp [V.kids] at hlt; omega
   ·simp [V.kids] at hlt
    obtain rfl : n = 0 := by omega
    unfold setV
    rw [V.what, if_neg (by decide), if_neg (by decide), V.kids, nd_tot, nd_tot]
    left
    simp only [V.tots]
    show 20 + _ + (y.tot + 0) + u.tot ≤ _
    omega
  ·cases e
 ·split at e
  ·cases e
  ·rename_i t hr
   have ht := refT_mem hr
   split at e
   ·cases e
   ·rename_i f hf
    have hfm := List.mem_of_find?_eq_some hf
    split at e
    ·cases e
    ·rename_i h69
     split at e
     ·rename_i h82
      simp only [Option.some.injEq, Prod.mk.injEq] at e
      obtain ⟨rfl, rfl⟩ := e
      rcases ofK_inv_t h hr with ⟨_, fs, rfl, g3, g4, g5, g6⟩ | ⟨g1, _⟩ | ⟨g1, _⟩
      ·have e1 : setV ts (c :: r) (.nd 82 [] 0 (fs.map fldV)) n y = .nd 82 [] 0 (putF ts f y (fs.map fldV)) := by
        unfold setV; rw [V.what, if_pos rfl, hr]
        dsimp only
        rw [hf]; rfl
       rw [e1, nd_tot, nd_tot]
       unfold getV
       rw [V.kids]
       cases hto : toldV f (fs.map fldV) with
       | none =>
        have h1 := putF_tot (ts := ts) (f := f) (y := y) (vs := fs.map fldV)
        have h2 := standV_tot hw ht h69 hfm
        right
        refine ⟨h2, ?_⟩
        omega
       | some u =>
        have h1 := putF_tot2 (ts := ts) (y := y) (srt_fs g6) hto
        left
        show _ + u.tot ≤ _
        omega
      ·omega
      ·omega
     ·rename_i h82
      split at e
      ·simp only [Option.some.injEq, Prod.mk.injEq] at e
       obtain ⟨rfl, rfl⟩ := e
       rcases ofK_inv_t h hr with ⟨h1, _⟩ | ⟨h1, _⟩ | ⟨_, _, d, u, rfl, g4, g5⟩
       ·omega
       ·omega
       ·unfold setV
        rw [V.what, if_neg (by decide), if_neg (by decide), V.kids, nd_tot, nd_tot]
        left
        simp only [V.tots]
        show 20 + _ + (y.tot + 0) + u.tot ≤ _
        omega
      ·cases e
theorem changeV_tot (hw : SchW ts) : ∀ {p : List Int} {k : List UInt8} {v y : V} {k' : List UInt8} {v' : V}, OfK ts k v → kindIn ts k = true → (∀ n ∈ p, 0 ≤ n) → followV ts k v p = some (k', v') → (changeV ts k v p y).tot ≤ v.tot + 40040 * p.length + y.tot
 | [], k, v, y, k', v', h, hk, _, e => by rw [changeV]; omega
 | n :: p, k, v, y, k', v', h, hk, hp, e => by
  unfold followV at e
  cases hs : stepV ts k v n with
  | none => rw [hs] at e; cases e
  | some x =>
   rw [hs] at e
   obtain ⟨k1, v1⟩ := x
   have hn := hp n (by simp)
   obtain ⟨h1, h2⟩ := stepV_ok hw h hk hn hs
   have ih := changeV_tot hw (y := y) h1 h2 (fun m hm => hp m (by simp [hm])) e
   rw [changeV_cons hs, List.length_cons]
   rcases setV_tot hw h hk hn hs (changeV ts k1 v1 p y) with g | ⟨g1, g2⟩
   ·omega
   ·omega
end Go.E
namespace Go.E
set_option maxRecDepth 20000
set_option maxHeartbeats 2000000
open Go.Proofs
variable {G : Gh}
theorem putB_put {ts : List Ty} {f : Fld} {z : V} {zb : Nat} {ps : List ((Fld × V) × Nat)} {vs : List V} (e : vs = ps.map fvP) (hs : Srt vs) {d : Bool} (hd : d = decide (z.out = standF ts f)) : (putB tgP ((f, z), zb) f.tag ps d).map fvP = putF ts f z vs := by
 rw [putB_map (tg := tgP) (tg' := V.tag) (h := fvP) (fun _ => rfl), ← e, hd]
 exact putB_eq hs
theorem cut_ints {b o c : Nat} {n : Int} {p : List Int} (h : SlV G (.slice (some ⟨b, o, none⟩) (n :: p).length c) 1 (n :: p).length (rows inR (n :: p))) : SlV G (.slice (some ⟨b, slO o c (Int.toNat 1) 1, none⟩) ((n :: p).length - Int.toNat 1) (c - Int.toNat 1)) 1 p.length (rows inR p) := by
 have h1 := h.cutAt (m := Int.toNat 1) (by show 1 ≤ p.length + 1; omega)
 exact h1
theorem nth_set {α : Type} [Inhabited α] {l : List α} {m i : Nat} {x : α} (hi : i < l.length) : nth (l.set m x) i = if m = i then x else nth l i := by
 rw [nth_eq (by rw [List.length_set]; exact hi), nth_eq hi, List.getElem_set]
theorem slv_cap {b o m c sz : Nat} {xs : List Value} (h : SlV G (.slice (some ⟨b, o, none⟩) m c) sz m xs) (hm : 1 ≤ m) : 1 ≤ c := by
 obtain ⟨_, ⟨h2, _⟩ | ⟨b', o', c', e, hc, _⟩⟩ := h
 ·cases h2
 ·simp only [Value.slice.injEq] at e
  omega
abbrev tPtrS : TypeId := 47
section
variable {u : Value} {vs : List TyX} {k1 : List UInt8} {v1 z : V} {n : Int} {p : List Int} {pb po pc b yb : Nat}
theorem c_setRec (h : SchR G u vs) (hw : SchW (tys vs)) {k : List UInt8} {fs : List (Fld × V)} {t : Ty} {f : Fld} (hki : kindIn (tys vs) k = true) (hrf : refT (tys vs) k = some t) (hg : fldT t.fields n = some f) (hk1 : k1 = f.kind) (hsr : Srt (fs.map fldV)) (hfs : fs.length ≤ 100000) (hn : 0 ≤ n ∧ n ≤ 999999) (hp : SlV G (.slice (some ⟨pb, po, none⟩) (n :: p).length pc) 1 (n :: p).length (rows inR (n :: p)))
  (hr : RepR G (tys vs) (.nd 82 [] 0 (fs.map fldV)) k b) (hpl : p.length ≤ 100) (hzt : z.tot ≤ 10000000000)
  (cx_sty : FnS Try.prog 39 [u, Pt b 0, I n] G (fun r G' => ∃ b', r = Tu [Pt b' 0, Bo true] ∧ RepR G' (tys vs) v1 k1 b'))
  (ihz : ∀ {G2 : Gh} {b1 : Nat}, Gh.le G G2 → RepR G2 (tys vs) v1 k1 b1 → FnS Try.prog 57 [u, Pt b1 0, .slice (some ⟨pb, slO po pc (Int.toNat 1) 1, none⟩) ((n :: p).length - Int.toNat 1) (pc - Int.toNat 1), Pt yb 0] G2 (fun r G' => ∃ b', r = Tu [Pt b' 0, Bo true] ∧ RepR G' (tys vs) z k1 b')) :
  FnS Try.prog 57 [u, Pt b 0, .slice (some ⟨pb, po, none⟩) (n :: p).length pc, Pt yb 0] G (fun r G' => ∃ b', r = Tu [Pt b' 0, Bo true] ∧ RepR G' (tys vs) (.nd 82 [] 0 (putF (tys vs) f z (fs.map fldV))) k b') := by
 have hu := h.sl.one
 obtain ⟨ua, uc, rfl⟩ := h.sl.sl
 obtain ⟨hso, ps, a, a2, c, c2, e, h1, h2, h3, hm⟩ := recd_inv hr hrf
 have hTW := hw.ty _ (refT_mem hrf)
 have hkk := kindOk_kOk (kindIn_ok hki)
 obtain ⟨r, rfl⟩ := refT_64 hrf
 have hk0 : bt (64 :: r) (Int.toNat 0) = 64 := bt_zero 64 r
 have hkl2 : (64 :: r).length = r.length + 1 := rfl
 have hpl0 : (n :: p).length = p.length + 1 := rfl
 have hti : nth (n :: p) (Int.toNat 0) = n := rfl
 have hvl : vs.length ≤ 8 := by have := hw.len; unfold tys at this; simpa using this
 have href := refV_ty vs (64 :: r)
 rcases hrv : refV vs (64 :: r) with _ | x
 ·rw [hrv, hrf] at href; cases href
 rw [hrv] at href
 have htx : x.2 = t := by rw [hrf] at href; exact Option.some.inj href
 subst htx
 have hxm := refV_mem hrv
 have hfl := hTW.len
 obtain ⟨hft, hfm⟩ := fldT_tag' hg
 have hdk : kindIn (tys vs) f.kind = true := kind_in hw (refT_mem hrf) (by omega) hfm
 have hpsl : ps.length ≤ 100000 := by
  have e1 : (fs.map fldV).length = ps.length := by rw [e]; simp
  simp at e1; omega
 obtain ⟨G0, rfl⟩ : ∃ G0, G0 = G := ⟨G, rfl⟩
 have hg0 : Gh.le G0 G0 := Gh.le.refl _
 have hsx : Seg G0 pb po (rows inR (n :: p)) := by
  obtain ⟨b', o', c', e', hs'⟩ := hp.expl (by simp)
  simp only [Value.slice.injEq, Option.some.injEq, Addr.mk.injEq] at e'
  obtain ⟨⟨rfl, rfl, _⟩, _, rfl⟩ := e'
  exact hs'
 refine jB [(0, _), (1, _), (2, _), (3, _)] Try.func57 Try.ntmps57 fun B hok hB hW => ?_
 repeat' (first | (refine jR ?_) | (refine k_op rfl ?_; first | refine jV (g_lenL rfl) ?_ | (refine jV (g_iaddr rfl rfl (by omega)) ?_) | (refine jV (g_ldRFx rfl rfl (by assumption) ?_ (by assumption) rfl rfl) ?_; (focus ((omega); done))) | (refine jV (g_slV rfl rfl (by omega)) ?_) | (refine c_fns rfl rfl rfl cx_sty rfl ?_; rintro _ G hle ⟨b1, rfl, hrep1⟩; (have hg0 := hg0.trans hle); (have h1 := h1.mono hle); (have h2 := h2.mono hle); (have h3 := h3.mono hle); (have h := h.mono hle); (try have hrep1 := RepR.mono hle hrep1); (try have hrepz := RepR.mono hle hrepz))) | (refine k_ff rfl rfl ?_))
 have cx_set := ihz hg0 hrep1
 repeat' (first | refine jM ?_ | (refine k_op rfl ?_; first | refine jV (g_ldS rfl rfl (by assumption) rfl rfl) ?_ | (refine jV (g_pickT rfl rfl rfl) ?_) | (refine c_fns rfl rfl rfl cx_set rfl ?_; rintro _ G hle ⟨bz, rfl, hrepz⟩; (have hg0 := hg0.trans hle); (have h1 := h1.mono hle); (have h2 := h2.mono hle); (have h3 := h3.mono hle); (have h := h.mono hle); (try have hrep1 := RepR.mono hle hrep1); (try have hrepz := RepR.mono hle hrepz))) | (refine k_gt rfl rfl rfl ?_) | (refine k_tt rfl rfl ?_) | (refine k_ff rfl rfl ?_))
 have cx_rf := c_ref (k := 64 :: r) h (by omega) hkk.1 (by omega)
 rw [hrv] at cx_rf
 have cx_rec := c_l4Record (n := n) hu (h.fl x hxm) (by omega) cx_rf hso
 rw [hg] at cx_rec
 simp only [Option.getD_some, Option.isSome_some] at cx_rec
 have cx_out := c_outS hw hrepz (by omega)
 have cx_sta := c_standS (f := f) h hw hdk
 subst hk1
 have hm2 : ∀ q ∈ ps, q.1.1 ∈ x.2.fields ∧ RepR G (tys vs) q.1.2 q.1.1.kind q.2 := fun q hq => ⟨(hm q hq).1, ((hm q hq).2).mono hg0⟩
 by_cases hst : z.out = standF (tys vs) f
 ·have cx_wi := c_withN (node := ((f, z), 0)) (tag := f.tag) hrf hso h1 h2 h3 hm2 hpsl
  rw [putB_put e hsr (decide_eq_true hst).symm, hft] at cx_wi
  repeat' (first | (refine jR ?_) | (refine k_op rfl ?_; first | refine c_al rfl rfl fun _ => ?_ | refine c_stA rfl rfl rfl rfl rfl rfl ?_ | (refine c_rt rfl rfl rfl cx_rec rfl ?_) | (refine c_fns rfl rfl rfl cx_wi rfl ?_; rintro _ G hle ⟨bw, rfl, hrepw⟩; (have hg0 := hg0.trans hle); (have h1 := h1.mono hle); (have h2 := h2.mono hle); (have h3 := h3.mono hle); (have h := h.mono hle); (try have hrep1 := RepR.mono hle hrep1); (try have hrepz := RepR.mono hle hrepz))) | (refine k_tt rfl (dTt ‹_›) ?_) | (refine k_any (s_any (id := 12) _ (fun _ h => h) mixed ?_); refine jT 4 [0, 2] (bts 6 5) ?_; (refine jG (bts 6 13) 3 rfl (g_ldA rfl rfl rfl rfl) ?_); refine jA 1 rfl ?_; (refine c_rt rfl rfl rfl cx_out rfl ?_); refine jS (bts 6 15) ?_; refine jA 4 rfl ?_; (refine c_rt rfl rfl rfl cx_sta rfl ?_); refine jS (bts 6 31) ?_; refine jT 0 [5] (bts 6 63) ?_; refine x_done (by kernel_rfl) (k_bk ?_)))
  all_goals refine jZ (vs := [_, _]) rfl ⟨rfl, rfl, trivial⟩ rfl ⟨hg0, rfl, ?_⟩
  all_goals exact ⟨_, rfl, hrepw⟩
 ·have cx_wi := c_withY (f := f) (z := z) hrf hso h1 h2 h3 hm2 hpsl hfm hrepz
  rw [putB_put e hsr (decide_eq_false hst).symm, hft] at cx_wi
  repeat' (first | (refine jR ?_) | (refine k_op rfl ?_; first | refine c_al rfl rfl fun _ => ?_ | refine c_stA rfl rfl rfl rfl rfl rfl ?_ | (refine c_rt rfl rfl rfl cx_rec rfl ?_) | (refine c_fns rfl rfl rfl cx_wi rfl ?_; rintro _ G hle ⟨bw, rfl, hrepw⟩; (have hg0 := hg0.trans hle); (have h1 := h1.mono hle); (have h2 := h2.mono hle); (have h3 := h3.mono hle); (have h := h.mono hle); (try have hrep1 := RepR.mono hle hrep1); (try have hrepz := RepR.mono hle hrepz))) | (refine k_ff rfl (dFf ‹_›) ?_) | (refine k_any (s_any (id := 12) _ (fun _ h => h) mixed ?_); refine jT 4 [0, 2] (bts 6 5) ?_; (refine jG (bts 6 13) 3 rfl (g_ldA rfl rfl rfl rfl) ?_); refine jA 1 rfl ?_; (refine c_rt rfl rfl rfl cx_out rfl ?_); refine jS (bts 6 15) ?_; refine jA 4 rfl ?_; (refine c_rt rfl rfl rfl cx_sta rfl ?_); refine jS (bts 6 31) ?_; refine jT 0 [5] (bts 6 63) ?_; refine x_done (by kernel_rfl) (k_bk ?_)))
  all_goals refine jZ (vs := [_, _]) rfl ⟨rfl, rfl, trivial⟩ rfl ⟨hg0, rfl, ?_⟩
  all_goals exact ⟨_, rfl, hrepw⟩
theorem setN_take {bs : List Nat} {i m : Nat} {zb : Nat} (hi : i < bs.length) : ((bs.set m zb).take (i + 1)) = (bs.set m zb).take i ++ [if i = m then zb else nth bs i] := by
 rw [take_nth (by rw [List.length_set]; exact hi)]
 congr 2
 rw [nth_eq (by rw [List.length_set]; exact hi), nth_eq hi, List.getElem_set]
 by_cases h : m = i
 ·rw [if_pos h, if_pos h.symm]
 ·rw [if_neg h, if_neg (fun e => h e.symm)]
theorem c_setKid (hu : u.oneCell' = true) {c0 : UInt8} {k : List UInt8} {bs : List Nat} {a : Option Addr} {c : Nat} {m : Nat} (hc0 : c0 = 91 ∨ c0 = 63) (hnm : n = (m : Nat)) (hm : m < bs.length) (hbs : bs.length ≤ 100000) (hn : 0 ≤ n ∧ n ≤ 999999) (hp : SlV G (.slice (some ⟨pb, po, none⟩) (n :: p).length pc) 1 (n :: p).length (rows inR (n :: p)))
  (h1 : Seg G b 0 [S (c0 :: k), S [], nilS, .slice a bs.length c]) (h2 : SlV G (.slice a bs.length c) 1 bs.length (rows ptR bs)) (hpl : p.length ≤ 100) {ts : List Ty}
  (cx_sty : FnS Try.prog 39 [u, Pt b 0, I n] G (fun r G' => ∃ b', r = Tu [Pt b' 0, Bo true] ∧ RepR G' ts v1 k1 b'))
  (ihz : ∀ {G2 : Gh} {b1 : Nat}, Gh.le G G2 → RepR G2 ts v1 k1 b1 → FnS Try.prog 57 [u, Pt b1 0, .slice (some ⟨pb, slO po pc (Int.toNat 1) 1, none⟩) ((n :: p).length - Int.toNat 1) (pc - Int.toNat 1), Pt yb 0] G2 (fun r G' => ∃ b', r = Tu [Pt b' 0, Bo true] ∧ RepR G' ts z k1 b')) :
  FnS Try.prog 57 [u, Pt b 0, .slice (some ⟨pb, po, none⟩) (n :: p).length pc, Pt yb 0] G (fun r G' => ∃ b' zb kb cc, r = Tu [Pt b' 0, Bo true] ∧ RepR G' ts z k1 zb ∧ Gh.le G G' ∧ Seg G' b' 0 [S (c0 :: k), S [], nilS, .slice (some ⟨kb, 0, none⟩) bs.length cc] ∧ SlV G' (.slice (some ⟨kb, 0, none⟩) bs.length cc) 1 bs.length (rows ptR (bs.set m zb))) := by
 have hk0 : bt (c0 :: k) (Int.toNat 0) = c0.toNat := bt_zero c0 k
 have hc64 : ¬ c0.toNat = 64 := by rcases hc0 with rfl | rfl <;> decide
 have hkl2 : (c0 :: k).length = k.length + 1 := rfl
 have hpl0 : (n :: p).length = p.length + 1 := rfl
 have hti : nth (n :: p) (Int.toNat 0) = n := rfl
 obtain ⟨G0, rfl⟩ : ∃ G0, G0 = G := ⟨G, rfl⟩
 have hg0 : Gh.le G0 G0 := Gh.le.refl _
 have hsx : Seg G0 pb po (rows inR (n :: p)) := by
  obtain ⟨b', o', c', e', hs'⟩ := hp.expl (by simp)
  simp only [Value.slice.injEq, Option.some.injEq, Addr.mk.injEq] at e'
  obtain ⟨⟨rfl, rfl, _⟩, _, rfl⟩ := e'
  exact hs'
 obtain ⟨xb, xo, xc, e, hs1⟩ := h2.expl (by omega)
 simp only [Value.slice.injEq] at e
 obtain ⟨rfl, -, rfl⟩ := e
 refine jB [(0, _), (1, _), (2, _), (3, _)] Try.func57 Try.ntmps57 fun B hok hB hW => ?_
 repeat' (first | (refine jR ?_) | (refine k_op rfl ?_; first | refine jV (g_lenL rfl) ?_ | (refine jV (g_iaddr rfl rfl (by omega)) ?_) | refine jV (g_ldS rfl rfl (by assumption) rfl rfl) ?_ | (refine jV (g_slV rfl rfl (by omega)) ?_) | (refine c_fns rfl rfl rfl cx_sty rfl ?_; rintro _ G hle ⟨b1, rfl, hrep1⟩; (have hg0 := hg0.trans hle); (have h1 := h1.mono hle); (have h2 := h2.mono hle); (have hs1 := hs1.mono hle); (try have hrep1 := RepR.mono hle hrep1); (try have hrepz := RepR.mono hle hrepz))) | (refine k_ff rfl rfl ?_))
 have cx_set := ihz hg0 hrep1
 repeat' (first | (refine jR ?_) | (refine k_op rfl ?_; first | refine jV (g_ldS rfl rfl (by assumption) rfl rfl) ?_ | (refine jV (g_pickF rfl rfl rfl) ?_) | (refine c_fns rfl rfl rfl cx_set rfl ?_; rintro _ G hle ⟨bz, rfl, hrepz⟩; (have hg0 := hg0.trans hle); (have h1 := h1.mono hle); (have h2 := h2.mono hle); (have hs1 := hs1.mono hle); (try have hrep1 := RepR.mono hle hrep1); (try have hrepz := RepR.mono hle hrepz))) | (refine k_gf rfl rfl rfl ?_) | (refine k_ff rfl rfl ?_) | (refine k_any (s_any (id := 15) _ (fun _ h => h) mixed ?_); refine jT 6 [0, 1, 2, 4, 5, 6, 8, 9, 10] (bts 15 1911) ?_; (refine jG (bts 15 1919) 3 rfl (g_ldS rfl rfl (by assumption) rfl rfl) ?_); (refine jG (bts 15 2047) 7 rfl (g_ldS rfl rfl (by assumption) rfl rfl) ?_); (refine jG (bts 15 4095) 11 rfl (g_ldS rfl rfl (by assumption) rfl rfl) ?_); (refine jG (bts 15 8191) 12 rfl (g_bld rfl rfl) ?_); refine jA 13 rfl ?_; (refine c_bx rfl rfl rfl fun _ => ?_); refine jS (bts 15 16383) ?_; refine jT 0 [14] (bts 15 32767) ?_; refine x_done (by kernel_rfl) (k_bk ?_)))
 rename_i x
 refine Nx.addNil tPtrS 1 ?_
 have hsl : ∀ zb : Nat, (bs.set m zb).length = bs.length := fun zb => List.length_set
 refine k_loop (ι := Option Addr × Nat × Nat) (fun q => q.2.2 ≤ bs.length) (fun q => [(1, Pt b 0), (10, I n), (13, Pt bz 0), (17, Pt x 0), (18, I q.2.2)]) (fun _ => G) (fun q => [.acc (.slice q.1 q.2.2 q.2.1) tPtrS 1 q.2.2 (rows ptR ((bs.set m bz).take q.2.2)), .blk x (.cells (List.toArray [S (c0 :: k), S [], nilS, .slice q.1 q.2.2 q.2.1]) tLv (0, 0))]) (fun q => bs.length - q.2.2) (none, 0, 0) ?_ (by repeat' constructor) rfl sRr (fun q Hq => ?_)
 ·exact Nat.zero_le _
 obtain ⟨a3, c3, i⟩ := q
 dsimp only at Hq ⊢
 by_cases hi : i < bs.length
 ·have hxi : nth bs i = nth bs i := rfl
  have hst := setN_take (m := m) (zb := bz) hi
  by_cases him : i = m
  ·rw [if_pos him] at hst
   have hin : ((i : Nat) : Int) = n := by omega
   repeat' (first | refine jM ?_ | (refine k_op rfl ?_; first | refine jV (g_lenL rfl) ?_ | refine jV (g_ld rfl rfl rfl) ?_ | refine jV (g_ldS rfl rfl (by assumption) rfl rfl) ?_ | (refine jV (g_pickT rfl rfl rfl) ?_) | refine c_st1 rfl rfl rfl rfl ?_ | refine c_bsl rfl rfl rfl rfl rfl rfl fun _ => ?_ | (refine c_apX rfl rfl rfl rfl rfl rfl rfl rfl rfl (by omega) fun _ _ => ?_)) | (refine k_gt rfl rfl (dTt ‹_›) ?_) | (refine k_tt rfl (by first | rfl | (refine decide_eq_true ?_; (omega))) ?_))
   rename_i y1 yc1
   rw [show rows ptR ((bs.set m bz).take i) ++ [Pt bz 0] = rows ptR ((bs.set m bz).take (i + 1)) by rw [hst, rows_snoc]; rfl]
   exact k_rd (some ⟨y1, 0, none⟩, yc1, i + 1) (by dsimp only; omega) (by dsimp only; omega) (by repeat' constructor) rfl (by repeat (first | exact List.Sublist.refl _ | apply List.Sublist.cons_cons | apply List.Sublist.cons))
  ·rw [if_neg him] at hst
   have hin : ¬ ((i : Nat) : Int) = n := by omega
   repeat' (first | (refine jR ?_) | (refine k_op rfl ?_; first | refine jV (g_lenL rfl) ?_ | refine jV (g_ldS rfl rfl (by assumption) rfl rfl) ?_ | (refine jV (g_pickF rfl rfl rfl) ?_)) | (refine k_gf rfl rfl (by first | rfl | (refine decide_eq_false ?_; (assumption))) ?_) | (refine k_tt rfl (dTt (by omega)) ?_) | (refine k_ff rfl rfl ?_))
   (refine k_any (s_any (id := 21) [] (fun _ h => absurd h (by simp)) mixed ?_); refine jU 9 [0, 1, 2, 3, 5, 6, 7, 9] (bts 17 751) ?_ ?_; (focus (repeat' (exact trivial))); (refine jG (bts 17 1007) 8 rfl (g_ldS rfl rfl (by assumption) rfl rfl) ?_); ((refine jG (bts 17 2031) 10 rfl (g_iaddrN rfl rfl ?_) ?_; (focus ((omega); done)))); ((refine jG (bts 17 4079) 11 rfl (g_ldR1x rfl rfl (by assumption) ?_ (by assumption) rfl) ?_; (focus ((omega); done)))); refine x_all [4, 12] (by kernel_rfl) (by decide) ⟨?_, ?_, trivial⟩; (focus (refine x_opg rfl rfl ?_; (refine jV (g_ld rfl rfl rfl) ?_); refine jK (bts 17 4095) ?_; refine jA 12 rfl ?_; (refine c_bsl rfl rfl rfl rfl rfl rfl fun _ => ?_); refine jK (bts 17 8191) ?_; refine jA 13 rfl ?_; ((refine c_apX rfl rfl rfl rfl rfl rfl rfl rfl rfl ?_ fun _ _ => ?_; (focus ((omega); done)))); refine jK (bts 17 16383) ?_; refine jU 1 [14, 15] (bts 17 65535) ?_ ?_; (focus (repeat' (exact trivial))); refine jA 16 rfl ?_; (refine c_st1 rfl rfl rfl rfl ?_); refine jK (bts 17 131071) ?_; refine x_done (by kernel_rfl) (k_bk ?_))); rotate_left 1; (focus (refine x_opg rfl rfl ?_; (refine c_bsl rfl rfl rfl rfl rfl rfl fun _ => ?_); refine jK (bts 17 8175) ?_; refine jA 4 rfl ?_; (refine jV (g_ld rfl rfl rfl) ?_); refine jK (bts 17 8191) ?_; refine jA 13 rfl ?_; ((refine c_apX rfl rfl rfl rfl rfl rfl rfl rfl rfl ?_ fun _ _ => ?_; (focus ((omega); done)))); refine jK (bts 17 16383) ?_; refine jU 1 [14, 15] (bts 17 65535) ?_ ?_; (focus (repeat' (exact trivial))); refine jA 16 rfl ?_; (refine c_st1 rfl rfl rfl rfl ?_); refine jK (bts 17 131071) ?_; refine x_done (by kernel_rfl) (k_bk ?_))); rotate_left 1)
   all_goals repeat' (refine jM ?_)
   all_goals
    rename_i _ y1 yc1
    rw [show rows ptR ((bs.set m bz).take i) ++ [Pt (nth bs i) 0] = rows ptR ((bs.set m bz).take (i + 1)) by rw [hst, rows_snoc]; rfl]
    exact k_rd (some ⟨y1, 0, none⟩, yc1, i + 1) (by dsimp only; omega) (by dsimp only; omega) (by repeat' constructor) rfl (by repeat (first | exact List.Sublist.refl _ | apply List.Sublist.cons_cons | apply List.Sublist.cons))
 ·have hib : i = bs.length := by have : i ≤ bs.length := Hq; omega
  subst hib
  rw [List.take_of_length_le (by rw [hsl]; exact Nat.le_refl _)]
  repeat' (first | (refine jR ?_) | (refine k_op rfl ?_; first | refine jV (g_lenL rfl) ?_ | refine jV (g_ldS rfl rfl (by assumption) rfl rfl) ?_) | (refine k_ff rfl (dFf (by omega)) ?_))
  refine Nx.shp (.head _) fun hsh => ?_
  obtain ⟨kb, kc, e9⟩ := hsh.pos (by omega)
  simp only [Value.slice.injEq] at e9
  obtain ⟨rfl, -, rfl⟩ := e9
  refine Nx.sealS (v := .slice (some ⟨kb, 0, none⟩) bs.length c3) fun G2 hG2 hs3 => ?_
  refine Nx.sealC (b := x) fun G4 hG4 hsg => ?_
  refine jZ (vs := [_, _]) rfl ⟨rfl, rfl, trivial⟩ rfl ⟨(hg0.trans (hG2.trans hG4)), rfl, ?_⟩
  exact ⟨x, bz, kb, c3, rfl, hrepz.mono (hG2.trans hG4), hg0.trans (hG2.trans hG4), hsg, hs3.mono hG4⟩
theorem c_setUni (hu : u.oneCell' = true) {r : List UInt8} {tgb wb0 kb0 cc tc : Nat} {tg : Int} (hcc : 1 ≤ cc) (hn : 0 ≤ n ∧ n ≤ 999999) (hp : SlV G (.slice (some ⟨pb, po, none⟩) (n :: p).length pc) 1 (n :: p).length (rows inR (n :: p)))
  (h1 : Seg G b 0 [S (64 :: r), S [85], .slice (some ⟨tgb, 0, none⟩) 1 (tc + 1), .slice (some ⟨kb0, 0, none⟩) 1 cc]) (h2 : Seg G tgb 0 [I tg]) (h3 : Seg G kb0 0 [Pt wb0 0]) (hpl : p.length ≤ 100) {ts : List Ty}
  (cx_sty : FnS Try.prog 39 [u, Pt b 0, I n] G (fun r G' => ∃ b', r = Tu [Pt b' 0, Bo true] ∧ RepR G' ts v1 k1 b'))
  (ihz : ∀ {G2 : Gh} {b1 : Nat}, Gh.le G G2 → RepR G2 ts v1 k1 b1 → FnS Try.prog 57 [u, Pt b1 0, .slice (some ⟨pb, slO po pc (Int.toNat 1) 1, none⟩) ((n :: p).length - Int.toNat 1) (pc - Int.toNat 1), Pt yb 0] G2 (fun r G' => ∃ b', r = Tu [Pt b' 0, Bo true] ∧ RepR G' ts z k1 b')) :
  FnS Try.prog 57 [u, Pt b 0, .slice (some ⟨pb, po, none⟩) (n :: p).length pc, Pt yb 0] G (fun rr G' => ∃ b' zb kb cc, rr = Tu [Pt b' 0, Bo true] ∧ RepR G' ts z k1 zb ∧ 1 ≤ cc ∧ Seg G' b' 0 [S (64 :: r), S [85], .slice (some ⟨tgb, 0, none⟩) 1 (tc + 1), .slice (some ⟨kb, 0, none⟩) 1 cc] ∧ Seg G' tgb 0 [I tg] ∧ Seg G' kb 0 [Pt zb 0]) := by
 have hk0 : bt (64 :: r) (Int.toNat 0) = 64 := bt_zero 64 r
 have hkl2 : (64 :: r).length = r.length + 1 := rfl
 have hpl0 : (n :: p).length = p.length + 1 := rfl
 have hti : nth (n :: p) (Int.toNat 0) = n := rfl
 obtain ⟨G0, rfl⟩ : ∃ G0, G0 = G := ⟨G, rfl⟩
 have hg0 : Gh.le G0 G0 := Gh.le.refl _
 have hsx : Seg G0 pb po (rows inR (n :: p)) := by
  obtain ⟨b', o', c', e', hs'⟩ := hp.expl (by simp)
  simp only [Value.slice.injEq, Option.some.injEq, Addr.mk.injEq] at e'
  obtain ⟨⟨rfl, rfl, _⟩, _, rfl⟩ := e'
  exact hs'
 refine jB [(0, _), (1, _), (2, _), (3, _)] Try.func57 Try.ntmps57 fun B hok hB hW => ?_
 repeat' (first | (refine jR ?_) | (refine k_op rfl ?_; first | refine jV (g_lenL rfl) ?_ | (refine jV (g_iaddr rfl rfl (by omega)) ?_) | (refine jV (g_ldRFx rfl rfl (by assumption) ?_ (by assumption) rfl rfl) ?_; (focus ((omega); done))) | (refine jV (g_slV rfl rfl (by omega)) ?_) | (refine c_fns rfl rfl rfl cx_sty rfl ?_; rintro _ G hle ⟨b1, rfl, hrep1⟩; (have hg0 := hg0.trans hle); (have h1 := h1.mono hle); (have h2 := h2.mono hle); (have h3 := h3.mono hle); (try have hrep1 := RepR.mono hle hrep1); (try have hrepz := RepR.mono hle hrepz))) | (refine k_ff rfl rfl ?_))
 have cx_set := ihz hg0 hrep1
 repeat' (first | (refine jR ?_) | (refine k_op rfl ?_; first | refine jV (g_ldS rfl rfl (by assumption) rfl rfl) ?_ | (refine jV (g_pickF rfl rfl rfl) ?_) | (refine c_fns rfl rfl rfl cx_set rfl ?_; rintro _ G hle ⟨bz, rfl, hrepz⟩; (have hg0 := hg0.trans hle); (have h1 := h1.mono hle); (have h2 := h2.mono hle); (have h3 := h3.mono hle); (try have hrep1 := RepR.mono hle hrep1); (try have hrepz := RepR.mono hle hrepz))) | (refine k_gf rfl rfl rfl ?_) | (refine k_ff rfl rfl ?_) | (refine k_any (s_any (id := 15) _ (fun _ h => h) mixed ?_); refine jT 6 [0, 1, 2, 4, 5, 6, 8, 9, 10] (bts 15 1911) ?_; (refine jG (bts 15 1919) 3 rfl (g_ldS rfl rfl (by assumption) rfl rfl) ?_); (refine jG (bts 15 2047) 7 rfl (g_ldS rfl rfl (by assumption) rfl rfl) ?_); (refine jG (bts 15 4095) 11 rfl (g_ldS rfl rfl (by assumption) rfl rfl) ?_); (refine jG (bts 15 8191) 12 rfl (g_bld rfl rfl) ?_); refine jA 13 rfl ?_; (refine c_bx rfl rfl rfl fun _ => ?_); refine jS (bts 15 16383) ?_; refine jT 0 [14] (bts 15 32767) ?_; refine x_done (by kernel_rfl) (k_bk ?_)))
 rename_i x
 refine Nx.addNil tPtrS 1 ?_
 refine k_loop (ι := Option Addr × Nat × Nat) (fun q => q.2.2 ≤ 1) (fun q => [(1, Pt b 0), (10, I n), (13, Pt bz 0), (17, Pt x 0), (18, I q.2.2)]) (fun _ => G) (fun q => [.acc (.slice q.1 q.2.2 q.2.1) tPtrS 1 q.2.2 (rows ptR (List.replicate q.2.2 bz)), .blk x (.cells (List.toArray [S (64 :: r), S [85], .slice (some ⟨tgb, 0, none⟩) 1 (tc + 1), .slice q.1 q.2.2 q.2.1]) tLv (0, 0))]) (fun q => 1 - q.2.2) (none, 0, 0) ?_ (by repeat' constructor) rfl sRr (fun q Hq => ?_)
 ·exact Nat.zero_le _
 obtain ⟨a3, c3, i⟩ := q
 dsimp only at Hq ⊢
 by_cases hi : i < 1
 ·have hi0 : i = 0 := by omega
  subst hi0
  have hrr : rows ptR (List.replicate 0 bz) ++ [Pt bz 0] = rows ptR (List.replicate 1 bz) := rfl
  by_cases hn0 : ((0 : Nat) : Int) = n
  ·repeat' (first | refine jM ?_ | (refine k_op rfl ?_; first | refine jV (g_lenL rfl) ?_ | refine jV (g_ld rfl rfl rfl) ?_ | refine jV (g_ldS rfl rfl (by assumption) rfl rfl) ?_ | (refine jV (g_pickT rfl rfl rfl) ?_) | refine c_st1 rfl rfl rfl rfl ?_ | refine c_bsl rfl rfl rfl rfl rfl rfl fun _ => ?_ | (refine c_apX rfl rfl rfl rfl rfl rfl rfl rfl rfl (by omega) fun _ _ => ?_)) | (refine k_gt rfl rfl (dTt ‹_›) ?_) | (refine k_tt rfl rfl ?_))
   rename_i y1 yc1
   rw [hrr]
   exact k_rd (some ⟨y1, 0, none⟩, yc1, 1) (Nat.le_refl _) (by dsimp only; omega) (by repeat' constructor) rfl (by repeat (first | exact List.Sublist.refl _ | apply List.Sublist.cons_cons | apply List.Sublist.cons))
  ·repeat' (first | refine jM ?_ | (refine k_op rfl ?_; first | refine jV (g_lenL rfl) ?_ | refine jV (g_ld rfl rfl rfl) ?_ | refine jV (g_ldS rfl rfl (by assumption) rfl rfl) ?_ | (refine jV (g_pickT rfl rfl rfl) ?_) | (refine jV (g_pickF rfl rfl rfl) ?_) | refine c_st1 rfl rfl rfl rfl ?_ | refine c_bsl rfl rfl rfl rfl rfl rfl fun _ => ?_ | (refine c_apX rfl rfl rfl rfl rfl rfl rfl rfl rfl (by omega) fun _ _ => ?_)) | (refine k_gt rfl rfl rfl ?_) | (refine k_gf rfl rfl (dFf ‹_›) ?_) | (refine k_tt rfl rfl ?_))
   rename_i y1 yc1
   rw [hrr]
   exact k_rd (some ⟨y1, 0, none⟩, yc1, 1) (Nat.le_refl _) (by dsimp only; omega) (by repeat' constructor) rfl (by repeat (first | exact List.Sublist.refl _ | apply List.Sublist.cons_cons | apply List.Sublist.cons))
 ·have hib : i = 1 := by omega
  subst hib
  repeat' (first | (refine jR ?_) | (refine k_op rfl ?_; first | refine jV (g_lenL rfl) ?_ | refine jV (g_ldS rfl rfl (by assumption) rfl rfl) ?_) | (refine k_ff rfl rfl ?_))
  refine Nx.shp (.head _) fun hsh => ?_
  obtain ⟨kb, kc, e9⟩ := hsh.pos (by omega)
  simp only [Value.slice.injEq] at e9
  obtain ⟨rfl, -, rfl⟩ := e9
  refine Nx.sealS (v := .slice (some ⟨kb, 0, none⟩) 1 c3) fun G2 hG2 hs3 => ?_
  refine Nx.sealC (b := x) fun G4 hG4 hsg => ?_
  refine jZ (vs := [_, _]) rfl ⟨rfl, rfl, trivial⟩ rfl ⟨(hg0.trans (hG2.trans hG4)), rfl, ?_⟩
  obtain ⟨kb', ko', kc', e9, hs9⟩ := hs3.expl (by omega)
  simp only [Value.slice.injEq, Option.some.injEq, Addr.mk.injEq] at e9
  obtain ⟨⟨rfl, rfl, -⟩, -, rfl⟩ := e9
  exact ⟨x, bz, kb, c3, rfl, hrepz.mono (hG2.trans hG4), slv_cap (hs3.mono hG4) (by omega), hsg, h2.mono (hG2.trans hG4), hs9.mono hG4⟩
end
theorem c_setS {vs : List TyX} (hw : SchW (tys vs)) : ∀ (p : List Int) {G : Gh} {u pv : Value} {k : List UInt8} {v y : V} {b yb : Nat} {k' : List UInt8} {v' : V}, SchR G u vs → SlV G pv 1 p.length (rows inR p) → (∀ n ∈ p, 0 ≤ n ∧ n ≤ 999999) → p.length ≤ 8 → RepR G (tys vs) v k b → OfK (tys vs) k v → kindIn (tys vs) k = true → v.tot ≤ 400000 → followV (tys vs) k v p = some (k', v') → RepR G (tys vs) y k' yb → OfK (tys vs) k' y → y.tot ≤ 200000000 →
  FnS Try.prog 57 [u, Pt b 0, pv, Pt yb 0] G (fun r G' => ∃ b', r = Tu [Pt b' 0, Bo true] ∧ RepR G' (tys vs) (changeV (tys vs) k v p y) k b')
 | [], G, u, pv, k, v, y, b, yb, k', v', h, hp, hpn, hpl, hr, ho, hki, htt, hf, hy, hoy, hyt => by
  simp only [followV, Option.some.injEq, Prod.mk.injEq] at hf
  obtain ⟨rfl, rfl⟩ := hf
  obtain ⟨pa, pc, rfl⟩ := hp.sl
  have hl0 : ([] : List Int).length = 0 := rfl
  rw [changeV]
  refine jB [(0, _), (1, _), (2, _), (3, _)] Try.func57 Try.ntmps57 fun B hok hB hW => ?_
  repeat' (first | (refine jR ?_) | (refine k_op rfl ?_; (refine jV (g_lenL rfl) ?_)) | (refine k_tt rfl rfl ?_))
  all_goals refine jZ (vs := [_, _]) rfl ⟨rfl, rfl, trivial⟩ rfl ⟨Gh.le.refl _, rfl, ?_⟩
  all_goals exact ⟨yb, rfl, hy⟩
 | n :: p, G, u, pv, k, v, y, b, yb, k', v', h, hp, hpn, hpl, hr, ho, hki, htt, hf, hy, hoy, hyt => by
  obtain ⟨pb, po, pc, rfl, _⟩ := hp.expl (by simp)
  have hn := hpn n (by simp)
  have hpn2 : ∀ m ∈ p, 0 ≤ m ∧ m ≤ 999999 := fun m hm => hpn m (by simp [hm])
  have hpl2 : p.length ≤ 8 := by simp at hpl; omega
  unfold followV at hf
  cases hs : stepV (tys vs) k v n with
  | none => rw [hs] at hf; cases hf
  | some x =>
   rw [hs] at hf
   obtain ⟨k1, v1⟩ := x
   dsimp only at hf
   obtain ⟨g1, g2⟩ := stepV_ok hw ho hki hn.1 hs
   have g3 := stepV_tot hw ho hki hn.1 hs (N := 400000) htt (by omega)
   have g4 := changeV_tot hw (y := y) g1 g2 (fun m hm => (hpn2 m hm).1) hf
   have cx_sty := StepP.yes (c_stepS h hw hr ho hki hn (by omega)) hs
   have hcut := cut_ints hp
   have ihz : ∀ {G2 : Gh} {b1 : Nat}, Gh.le G G2 → RepR G2 (tys vs) v1 k1 b1 → FnS Try.prog 57 [u, Pt b1 0, .slice (some ⟨pb, slO po pc (Int.toNat 1) 1, none⟩) ((n :: p).length - Int.toNat 1) (pc - Int.toNat 1), Pt yb 0] G2 (fun r G' => ∃ b', r = Tu [Pt b' 0, Bo true] ∧ RepR G' (tys vs) (changeV (tys vs) k1 v1 p y) k1 b') := fun hle hr1 =>
    c_setS hw p (h.mono hle) (hcut.mono hle) hpn2 hpl2 hr1 g1 g2 g3 hf (hy.mono hle) hoy hyt
   rw [changeV_cons hs]
   have hu := h.sl.one
   cases hrf : refT (tys vs) k with
   | none =>
    obtain ⟨c, kr, rfl⟩ := kind_ne hki
    by_cases hc : c.toNat = 91 ∨ c.toNat = 63
    ·have hst := stepV_kid (ts := tys vs) (c := c) (r := kr) (v := v) (n := n) hc
     rw [hs] at hst
     by_cases hlt : n < ((v.kids.length : Nat) : Int)
     ·rw [if_pos hlt] at hst
      simp only [Option.some.injEq, Prod.mk.injEq] at hst
      obtain ⟨rfl, rfl⟩ := hst
      rcases ofK_inv_c ho (by omega) with ⟨a1, _⟩ | ⟨a1, _⟩ | ⟨a1, _⟩ | ⟨a1, ks, a2, a3, rfl⟩ | ⟨a1, rfl | ⟨w, a3, rfl⟩⟩
      ·omega
      ·omega
      ·omega
      ·obtain rfl := u8_eq a1 (by decide)
       rw [V.kids] at hlt
       cases hr with
       | leaf w x k tx b h1 h2 => rcases h2 with ⟨h, _⟩ | ⟨h, _⟩ | ⟨h, _⟩ <;> omega
       | lst k b ks bs a c h1 h2 h3 hk =>
        have hbl : bs.length = ks.length := h3
        refine (c_setKid (u := u) (n := n) (m := n.toNat) (bs := bs) hu (.inl rfl) (by omega) (by omega) (by omega) hn hp (by rw [hbl]; exact h1) (by rw [hbl]; exact h2) (by omega) cx_sty ihz).mono ?_
        rintro v G' L' ⟨q1, q2, b', zb, kb, cc, rfl, q3, q4, q5, q6⟩
        refine ⟨q1, q2, b', rfl, ?_⟩
        have e1 : setV (tys vs) (91 :: k1) (.nd 91 [] 0 ks) n (changeV (tys vs) k1 (nth ks n.toNat) p y) = .nd 91 [] 0 (ks.set n.toNat (changeV (tys vs) k1 (nth ks n.toNat) p y)) := by
         unfold setV; rw [V.what, if_neg (by decide), if_pos rfl]; rfl
        show RepR G' (tys vs) (setV (tys vs) (91 :: k1) (.nd 91 [] 0 ks) n (changeV (tys vs) k1 (nth ks n.toNat) p y)) (91 :: k1) b'
        rw [e1]
        rw [hbl] at q5 q6
        refine RepR.lst k1 b' _ (bs.set n.toNat zb) (some ⟨kb, 0, none⟩) cc (by rw [List.length_set]; exact q5) (by rw [List.length_set]; exact q6) (by simp [hbl]) fun i hi => ?_
        rw [List.length_set] at hi
        rw [nth_set hi, nth_set (by omega)]
        by_cases him : n.toNat = i
        ·rw [if_pos him, if_pos him]; exact q3
        ·rw [if_neg him, if_neg him]; exact (hk i hi).mono q4
      ·simp [V.kids] at hlt; omega
      ·obtain rfl := u8_eq a1 (by decide)
       simp [V.kids] at hlt
       obtain rfl : n = 0 := by omega
       cases hr with
       | opt k b kb b' cc v hcc h1 h2 h3 =>
        have h2s : SlV G (.slice (some ⟨kb, 0, none⟩) 1 cc) 1 1 (rows ptR [b']) := ⟨rfl, .inr ⟨kb, 0, cc, rfl, hcc, h2⟩⟩
        refine (c_setKid (u := u) (n := 0) (m := 0) (bs := [b']) hu (.inr rfl) rfl (by simp) (by simp) hn hp h1 h2s (by omega) cx_sty ihz).mono ?_
        rintro v G' L' ⟨q1, q2, b2, zb, kb2, cc2, rfl, q3, q4, q5, q6⟩
        refine ⟨q1, q2, b2, rfl, ?_⟩
        have q7 := slv_cap q6 (by simp)
        obtain ⟨kb', ko', kc', e9, hs9⟩ := q6.expl (by simp)
        simp only [Value.slice.injEq, Option.some.injEq, Addr.mk.injEq] at e9
        obtain ⟨⟨rfl, rfl, -⟩, -, rfl⟩ := e9
        exact RepR.opt k1 b2 kb2 zb cc2 _ q7 q5 hs9 q3
     ·rw [if_neg hlt] at hst; cases hst
    ·have hno : stepV (tys vs) (c :: kr) v n = none := by
      rcases plain_kinds hki hc hrf with e | e | e
      all_goals (rw [e]; exact stepV_plain (by decide) (by decide) (by decide))
     rw [hno] at hs; cases hs
   | some t =>
    have hst := stepV_typ (v := v) (n := n) hrf
    rw [hs] at hst
    cases hg : fldT t.fields n with
    | none => rw [hg] at hst; cases hst
    | some f =>
     rw [hg] at hst
     dsimp only at hst
     by_cases h69 : t.sort = 69
     ·rw [if_pos h69] at hst; cases hst
     ·rw [if_neg h69] at hst
      by_cases h82 : t.sort = 82
      ·rw [if_pos h82] at hst
       simp only [Option.some.injEq, Prod.mk.injEq] at hst
       obtain ⟨rfl, rfl⟩ := hst
       rcases ofK_inv_t ho hrf with ⟨_, fs, rfl, a3, a4, a5, a6⟩ | ⟨a1, _⟩ | ⟨a1, _⟩
       ·have hfs9 : fs.length ≤ 100000 := by
         have h7 := tots_len (fs.map fldV)
         rw [nd_tot] at htt
         have e1 : (fs.map fldV).length = fs.length := by simp
         omega
        have e1 : ∀ z, setV (tys vs) k (.nd 82 [] 0 (fs.map fldV)) n z = .nd 82 [] 0 (putF (tys vs) f z (fs.map fldV)) := fun z => by
         unfold setV; rw [V.what, if_pos rfl, hrf]
         dsimp only
         rw [hg]; rfl
        rw [e1]
        exact c_setRec h hw hki hrf hg rfl (srt_fs a6) hfs9 hn hp hr (by omega) (by omega) cx_sty ihz
       ·omega
       ·omega
      ·rw [if_neg h82] at hst
       by_cases htg : v.tag = n
       ·rw [if_pos htg] at hst
        simp only [Option.some.injEq, Prod.mk.injEq] at hst
        obtain ⟨rfl, rfl⟩ := hst
        obtain ⟨hft, hfm⟩ := fldT_tag' hg
        cases hr with
        | leaf w x k tx b h1 h2 =>
         rcases h2 with ⟨_, rfl, _⟩ | ⟨_, rfl, _⟩ | ⟨_, rfl, _⟩ <;> exact (refT_no hrf rfl (by decide)).elim
        | lst k b ks bs a c h1 h2 h3 hk => exact (refT_no hrf rfl (by decide)).elim
        | non k b h1 => exact (refT_no hrf rfl (by decide)).elim
        | opt k b kb b' cc w h0 h1 h2 h3 => exact (refT_no hrf rfl (by decide)).elim
        | recd k b t' fs bs a a2 c c2 h0 h1 h2 h3 h4 h5 hk => rw [hrf] at h0; obtain rfl := Option.some.inj h0.1; exact (h82 h0.2).elim
        | enm k b tgb t' d h0 h1 h2 h3 => rw [hrf] at h0; obtain rfl := Option.some.inj h0.1; exact (h69 h0.2).elim
        | uni k b tgb kb b' cc t' d w hcc h0 h1 h2 h3 h4 hk =>
         rw [hrf] at h0
         obtain rfl := Option.some.inj h0.1
         have hdf : d = f := fld_tag (hw.ty _ (refT_mem hrf)) h1 hfm (by rw [hft]; exact htg)
         subst hdf
         obtain ⟨r, rfl⟩ := refT_64 hrf
         refine (c_setUni (u := u) (n := n) hu hcc hn hp h2 h3 h4 (by omega) cx_sty ihz).mono ?_
         rintro v G' L' ⟨q1, q2, b2, zb, kb2, cc2, rfl, q3, q4, q5, q6, q7⟩
         refine ⟨q1, q2, b2, rfl, ?_⟩
         have e1 : ∀ z, setV (tys vs) (64 :: r) (.nd 85 [] d.tag [w]) n z = .nd 85 [] d.tag [z] := fun z => by
          unfold setV; rw [V.what, if_neg (by decide), if_neg (by decide)]; rfl
         rw [e1]
         exact RepR.uni _ b2 tgb kb2 zb cc2 _ d _ q4 ⟨hrf, h0.2⟩ h1 q5 q6 q7 q3
       ·rw [if_neg htg] at hst; cases hst
theorem c_l4Back {u : Value} {vs : List TyX} (hw : SchW (tys vs)) (h : SchR G u vs) {k s : List UInt8} (hki : kindIn (tys vs) k = true) :
  FnS Try.prog 58 [u, S k, S s] G (fun r _ => r = Tu [S (if (valOf (tys vs) k s).isSome = true then s else []), Bo (valOf (tys vs) k s).isSome]) := by
 obtain ⟨ua, uc, rfl⟩ := h.sl.sl
 by_cases hl : s.length ≤ 400
 ·have cx_rd := readC_all (u := .slice ua vs.length uc) (vs := vs) hw 12 (by omega) G k s h hki (by omega)
  have hvo : valOf (tys vs) k s = match rd (tys vs) 12 k s with
   | some (v, []) => some v
   | _ => none := by
   unfold valOf; rw [if_pos hl]
   all_goals (rcases rd (tys vs) 12 k s with _ | ⟨v, _ | _⟩ <;> rfl)
  refine jB [(0, _), (1, _), (2, _)] Try.func58 Try.ntmps58 fun B hok hB hW => ?_
  repeat' (first | (refine jR ?_) | (refine k_op rfl ?_; first | refine jV (g_bld rfl rfl) ?_ | (refine jV (g_pickT rfl rfl rfl) ?_) | (refine jV (g_pickF rfl rfl rfl) ?_) | (refine c_fns rfl rfl rfl cx_rd rfl ?_; rintro _ G hle ⟨q1, r1, ok1, rfl, hyes, hno⟩; skip)) | refine k_gb rfl rfl (fun _ => ?_) (fun _ => ?_) | (refine k_tt rfl rfl ?_) | (refine k_ff rfl (dFf (by omega)) ?_) | refine k_if rfl (fun _ => ?_) (fun _ => ?_))
  all_goals refine jZ (vs := [_, _]) rfl ⟨rfl, rfl, trivial⟩ rfl ⟨hle, rfl, ?_⟩
  ·rename_i hz
   rw [hno (by simpa using hz)] at hvo
   rw [hvo]; rfl
  ·rename_i hz hr
   obtain ⟨w, b, rfl, hf, hrep⟩ := hyes (by simpa using hz)
   rw [hf] at hvo
   have hvo2 : valOf (tys vs) k s = none := by
    rw [hvo]
    cases r1 with
    | nil => exact absurd rfl hr
    | cons c r => rfl
   rw [hvo2]; rfl
  ·rename_i hz hr
   obtain ⟨w, b, rfl, hf, hrep⟩ := hyes (by simpa using hz)
   obtain rfl : r1 = [] := by simpa using hr
   rw [hf] at hvo
   rw [hvo]; rfl
 ·have hvo : valOf (tys vs) k s = none := by unfold valOf; rw [if_neg hl]
  rw [hvo]
  refine jB [(0, _), (1, _), (2, _)] Try.func58 Try.ntmps58 fun B hok hB hW => ?_
  repeat' (first | (refine jR ?_) | (refine k_tt rfl (dTt (by omega)) ?_))
  all_goals refine jZ (vs := [_, _]) rfl ⟨rfl, rfl, trivial⟩ rfl ⟨Gh.le.refl _, rfl, ?_⟩
  all_goals rfl
def pathSetV (s k w p x : List UInt8) : Option (List UInt8) := match schemaOf s, givenV s k w, pathOf p with
 | some ts, some u, some q => match followV ts k u q with
  | none => none
  | some (k', _) => match rd ts 12 k' x with
   | some (y, []) => if (changeV ts k u q y).out.length ≤ 400 ∧ (changeV ts k u q y).deep ≤ 12 then some (changeV ts k u q y).out else none
   | _ => none
 | _, _, _ => none
def psR (o : Option (List UInt8)) : Value := Tu [S (o.getD []), Bo o.isSome]
theorem psv_none {s k x : List UInt8} {o : Option (List Int)} : (match schemaOf s, (none : Option V), o with
 | some ts, some u, some q => match followV ts k u q with
  | none => none
  | some (k', _) => match rd ts 12 k' x with
   | some (y, []) => if (changeV ts k u q y).out.length ≤ 400 ∧ (changeV ts k u q y).deep ≤ 12 then some (changeV ts k u q y).out else none
   | _ => none
 | _, _, _ => none) = none := by cases schemaOf s <;> rfl
theorem c_PathSetS {s k w p x : List UInt8} (h1 : s.length ≤ 1048576 ∧ k.length ≤ 1048576 ∧ w.length ≤ 1048576 ∧ p.length ≤ 1048576) (hx : x.length ≤ 1048576) : PuG Try.prog 44 [S s, S k, S w, S p, S x] G (· = psR (pathSetV s k w p x)) := by
 unfold pathSetV
 cases hg : givenV s k w with
 | none =>
  rw [psv_none]
  have cx_la0 := fun G => c_l4Of0 (G := G) (s := s) (k := k) (w := w) (by omega) hg
  cases hpo : pathOf p with
  | none =>
   have cx_sp := steps_no h1.2.2.2 hpo
   refine jB (Post := fun v G' L' => G' = G ∧ L' = [] ∧ _) [(0, _), (1, _), (2, _), (3, _), (4, _)] Try.func44 Try.ntmps44 fun B hok hB hW => ?_
   repeat' (first | (refine jR ?_) | (refine k_op rfl ?_; first | (refine jV (g_pickT rfl rfl rfl) ?_) | (refine c_fns rfl rfl rfl (cx_la0 _) rfl ?_; rintro _ G hle ⟨ua, qa, rfl⟩; skip) | (refine c_fns rfl rfl rfl (cx_sp _) rfl ?_; rintro _ G hle ⟨sa, sc, sn, rfl, hsp⟩; skip)) | (refine k_gt rfl rfl rfl ?_) | (refine k_tt rfl rfl ?_))
   all_goals refine Nx.base hok hB ?_
   all_goals refine jZ (vs := [_, _]) rfl ⟨rfl, rfl, trivial⟩ rfl ⟨rfl, rfl, ?_⟩
   all_goals rfl
  | some q =>
   have cx_sp := steps_yes h1.2.2.2 hpo
   refine jB (Post := fun v G' L' => G' = G ∧ L' = [] ∧ _) [(0, _), (1, _), (2, _), (3, _), (4, _)] Try.func44 Try.ntmps44 fun B hok hB hW => ?_
   repeat' (first | (refine jR ?_) | (refine k_op rfl ?_; first | (refine jV (g_pickT rfl rfl rfl) ?_) | (refine c_fns rfl rfl rfl (cx_la0 _) rfl ?_; rintro _ G hle ⟨ua, qa, rfl⟩; skip) | (refine c_fns rfl rfl rfl (cx_sp _) rfl ?_; rintro _ G hle ⟨sa, sc, sn, rfl, hsp⟩; skip)) | (refine k_gt rfl rfl rfl ?_) | (refine k_tt rfl rfl ?_))
   all_goals refine Nx.base hok hB ?_
   all_goals refine jZ (vs := [_, _]) rfl ⟨rfl, rfl, trivial⟩ rfl ⟨rfl, rfl, ?_⟩
   all_goals rfl
 | some u =>
  obtain ⟨ts, hs, hki, hvo, hto, hwf⟩ := given_some hg
  have cx_l4x := c_l4OfX (G := G) (s := s) (k := k) (w := w) (by omega) hs hki hvo
  rw [hs]
  cases hpo : pathOf p with
  | none =>
   have cx_sp := steps_no h1.2.2.2 hpo
   refine jB (Post := fun v G' L' => G' = G ∧ L' = [] ∧ _) [(0, _), (1, _), (2, _), (3, _), (4, _)] Try.func44 Try.ntmps44 fun B hok hB hW => ?_
   repeat' (first | (refine jR ?_) | (refine k_op rfl ?_; first | (refine jV (g_pickF rfl rfl rfl) ?_) | (refine c_fns rfl rfl rfl cx_l4x rfl ?_; rintro _ G hle ⟨av1, cv1, vs1, b1, rfl, hR1, hT1, hrep⟩; skip) | (refine c_fns rfl rfl rfl (cx_sp _) rfl ?_; rintro _ G hle ⟨sa, sc, sn, rfl, hsp⟩; skip)) | (refine k_gf rfl rfl rfl ?_) | (refine k_tt rfl rfl ?_))
   all_goals refine Nx.base hok hB ?_
   all_goals refine jZ (vs := [_, _]) rfl ⟨rfl, rfl, trivial⟩ rfl ⟨rfl, rfl, ?_⟩
   all_goals rfl
  | some q =>
   have cx_sp := steps_yes h1.2.2.2 hpo
   obtain ⟨hq8, hqn⟩ := pathOf_le hpo
   have hof := valOf_of_k hvo
   have hw := schemaOf_w hs
   dsimp only
   refine jB (Post := fun v G' L' => G' = G ∧ L' = [] ∧ _) [(0, _), (1, _), (2, _), (3, _), (4, _)] Try.func44 Try.ntmps44 fun B hok hB hW => ?_
   repeat' (first | (refine jR ?_) | (refine k_op rfl ?_; first | (refine jV (g_pickF rfl rfl rfl) ?_) | (refine c_fns rfl rfl rfl cx_l4x rfl ?_; rintro _ G hle ⟨av1, cv1, vs1, b1, rfl, hR1, hT1, hrep⟩; (try have hrep := RepR.mono hle hrep); (try have hR1 := SchR.mono hR1 hle); (try have hsp := SlV.mono hsp hle); (try have hsg1 := Seg.mono hsg1 hle)) | (refine c_fns rfl rfl rfl (cx_sp _) rfl ?_; rintro _ G hle ⟨sa, sc, sn, rfl, hsp⟩; (try have hrep := RepR.mono hle hrep); (try have hR1 := SchR.mono hR1 hle); (try have hsp := SlV.mono hsp hle); (try have hsg1 := Seg.mono hsg1 hle))) | (refine k_gf rfl rfl rfl ?_) | (refine k_ff rfl rfl ?_))
   obtain ⟨rfl, hsp⟩ := hsp
   subst hT1
   have hwk := c_walkS hR1 hw hsp hqn (by omega) hrep hof hki (by omega)
   cases hfo : followV (tys vs1) k u q with
   | none =>
    have cx_wan := StepP.no hwk hfo
    repeat' (first | (refine jR ?_) | (refine k_op rfl ?_; (refine c_fns rfl rfl rfl cx_wan rfl ?_; rintro _ G hle ⟨q1, rfl⟩; (try have hrep := RepR.mono hle hrep); (try have hR1 := SchR.mono hR1 hle); (try have hsp := SlV.mono hsp hle); (try have hsg1 := Seg.mono hsg1 hle))) | (refine k_tt rfl rfl ?_))
    all_goals refine Nx.base hok hB ?_
    all_goals refine jZ (vs := [_, _]) rfl ⟨rfl, rfl, trivial⟩ rfl ⟨rfl, rfl, ?_⟩
    all_goals rfl
   | some y =>
    obtain ⟨k1, v1⟩ := y
    have cx_way := StepP.yes hwk hfo
    have hqn0 := fun n hn => (hqn n hn).1
    obtain ⟨_, hk1⟩ := followV_ok hw hof hki hqn0 hfo
    dsimp only
    repeat' (first | (refine jR ?_) | (refine k_op rfl ?_; first | refine jV (g_bld rfl rfl) ?_ | (refine c_fns rfl rfl rfl cx_way rfl ?_; rintro _ G hle ⟨b1, rfl, hrep1⟩; (try have hrep := RepR.mono hle hrep); (try have hR1 := SchR.mono hR1 hle); (try have hsp := SlV.mono hsp hle); (try have hsg1 := Seg.mono hsg1 hle))) | (refine k_ff rfl rfl ?_))
    obtain ⟨z1, z2, z3, hsg1⟩ := repR_seg hrep1
    have cx_rd := readC_all (u := .slice av1 vs1.length cv1) (vs := vs1) hw 12 (by omega) G k1 x hR1 hk1 (by omega)
    repeat' (first | (refine jR ?_) | (refine k_op rfl ?_; first | (refine jV (g_pickT rfl rfl rfl) ?_) | (refine jV (g_pickF rfl rfl rfl) ?_) | refine jV (g_ldS rfl rfl (by assumption) rfl rfl) ?_ | (refine c_fns rfl rfl rfl cx_rd rfl ?_; rintro _ G hle ⟨q1, r1, ok1, rfl, hyes, hno⟩; (try have hrep := RepR.mono hle hrep); (try have hR1 := SchR.mono hR1 hle); (try have hsp := SlV.mono hsp hle); (try have hsg1 := Seg.mono hsg1 hle))) | refine k_gb rfl rfl (fun _ => ?_) (fun _ => ?_) | (refine k_tt rfl rfl ?_) | refine k_if rfl (fun _ => ?_) (fun _ => ?_))
    ·rename_i hz
     rw [hno (by simpa using hz)]
     refine Nx.base hok hB ?_
     refine jZ (vs := [_, _]) rfl ⟨rfl, rfl, trivial⟩ rfl ⟨rfl, rfl, ?_⟩
     rfl
    ·rename_i hz hr
     obtain ⟨w2, b2, rfl, hf2, hrep2⟩ := hyes (by simpa using hz)
     rw [hf2]
     refine Nx.base hok hB ?_
     refine jZ (vs := [_, _]) rfl ⟨rfl, rfl, trivial⟩ rfl ⟨rfl, rfl, ?_⟩
     cases r1 with
     | nil => exact absurd rfl hr
     | cons c r => rfl
    ·rename_i hz hr
     obtain ⟨w2, b2, rfl, hf2, hrep2⟩ := hyes (by simpa using hz)
     obtain rfl : r1 = [] := by simpa using hr
     rw [hf2]
     dsimp only
     have hoy := rd_of _ _ _ _ hf2
     have hyt := rd_tot _ _ _ _ hf2
     dsimp only at hoy hyt
     have cx_set := c_setS hw q hR1 hsp hqn hq8 hrep hof hki (by omega) hfo hrep2 hoy (by omega)
     have hcg := changeV_ok hw hof hki hqn0 hfo hoy
     have hct := changeV_tot hw (y := w2) hof hki hqn0 hfo
     repeat' (first | (refine jR ?_) | (refine k_op rfl ?_; (refine c_fns rfl rfl rfl cx_set rfl ?_; rintro _ G hle ⟨bz, rfl, hrepz⟩; (try have hrep := RepR.mono hle hrep); (try have hR1 := SchR.mono hR1 hle); (try have hsp := SlV.mono hsp hle); (try have hsg1 := Seg.mono hsg1 hle))) | (refine k_ff rfl rfl ?_))
     have cx_out := c_outS hw hrepz (by omega)
     have cx_bk := c_l4Back (s := (changeV (tys vs1) k u q w2).out) hw hR1 hki
     by_cases hfit : (changeV (tys vs1) k u q w2).out.length ≤ 400 ∧ (changeV (tys vs1) k u q w2).deep ≤ 12
     ·rw [if_pos hfit]
      rw [valOf_in hw hcg hfit.1 hfit.2] at cx_bk
      repeat' (first | (refine jR ?_) | (refine k_op rfl ?_; first | (refine c_rt rfl rfl rfl cx_out rfl ?_) | (refine c_fns rfl rfl rfl cx_bk rfl ?_; rintro _ G hle rfl; (try have hrep := RepR.mono hle hrep); (try have hR1 := SchR.mono hR1 hle); (try have hsp := SlV.mono hsp hle); (try have hsg1 := Seg.mono hsg1 hle))))
      all_goals refine Nx.base hok hB ?_
      all_goals refine jZ (vs := [_, _]) rfl ⟨rfl, rfl, trivial⟩ rfl ⟨rfl, rfl, ?_⟩
      all_goals rfl
     ·rw [if_neg hfit]
      rw [valOf_no_in hw hcg hfit] at cx_bk
      repeat' (first | (refine jR ?_) | (refine k_op rfl ?_; first | (refine c_rt rfl rfl rfl cx_out rfl ?_) | (refine c_fns rfl rfl rfl cx_bk rfl ?_; rintro _ G hle rfl; (try have hrep := RepR.mono hle hrep); (try have hR1 := SchR.mono hR1 hle); (try have hsp := SlV.mono hsp hle); (try have hsg1 := Seg.mono hsg1 hle))))
      all_goals refine Nx.base hok hB ?_
      all_goals refine jZ (vs := [_, _]) rfl ⟨rfl, rfl, trivial⟩ rfl ⟨rfl, rfl, ?_⟩
      all_goals rfl
end Go.E
namespace Go.E
set_option maxRecDepth 20000
set_option maxHeartbeats 2000000
def keyW (w : Nat) (x : List UInt8) (t : Int) (js : List (List UInt8)) : List UInt8 :=
 if w = 110 then [u8 ((numOf x 999999).getD 0 / 65536), u8 ((numOf x 999999).getD 0 / 256), u8 ((numOf x 999999).getD 0)] else if w = 116 then x ++ [0] else if w = 102 then (if x = [121, 101, 115] then [1] else [0]) else if w = 69 then [u8 t]
 else if w = 63 ∧ js = [] then [0] else if w = 85 ∨ w = 61 then u8 t :: js.flatten else if w = 63 then (js.map (1 :: ·)).flatten else (js.map (1 :: ·)).flatten ++ [0]
mutual
def V.key : V → List UInt8
 | .nd w x t ks => keyW w x t (V.keys ks)
def V.keys : List V → List (List UInt8)
 | [] => []
 | v :: r => V.key v :: V.keys r
end
def okV (s k w : List UInt8) : Bool := (givenV s k w).isSome
end Go.E
namespace Go.E
set_option maxRecDepth 20000
set_option maxHeartbeats 2000000
open Go.Proofs
theorem psv_some {s k w p x z : List UInt8} (h : pathSetV s k w p x = some z) : ∃ ts u q k1 v1 y, schemaOf s = some ts ∧ givenV s k w = some u ∧ pathOf p = some q ∧ followV ts k u q = some (k1, v1) ∧ rd ts 12 k1 x = some (y, []) ∧ ((changeV ts k u q y).out.length ≤ 400 ∧ (changeV ts k u q y).deep ≤ 12) ∧ z = (changeV ts k u q y).out := by
 unfold pathSetV at h
 split at h
 ·rename_i ts u q h1 h2 h3
  cases hf : followV ts k u q with
  | none => rw [hf] at h; cases h
  | some y =>
   rw [hf] at h
   obtain ⟨k', v'⟩ := y
   dsimp only at h
   split at h
   ·rename_i y hy
    split at h
    ·rename_i hc
     simp only [Option.some.injEq] at h
     exact ⟨ts, u, q, k', v', y, h1, h2, h3, hf, hy, hc, h.symm⟩
    ·cases h
   ·cases h
 ·cases h
theorem given_in {s k w : List UInt8} {ts : List Ty} {u : V} (h1 : schemaOf s = some ts) (h2 : kindIn ts k = true) (h3 : valOf ts k w = some u) : givenV s k w = some u := by
 unfold givenV
 rw [h1]
 dsimp only
 rw [if_pos h2, h3]
theorem rd_in0 {ts : List Ty} (hw : SchW ts) {k : List UInt8} {v : V} (h : OfK ts k v) (hd : v.deep ≤ 12) : rd ts 12 k v.out = some (v, []) := by
 have := rd_in hw 12 h hd [] dl_nil
 rwa [List.append_nil] at this
theorem psv_ok {s k w p x z : List UInt8} (h : pathSetV s k w p x = some z) : okV s k z = true ∧ z.length ≤ 400 := by
 obtain ⟨ts, u, q, k1, v1, y, h1, h2, h3, h4, h5, h6, rfl⟩ := psv_some h
 obtain ⟨ts', g1, g2, g3, g4, g5⟩ := given_some h2
 obtain rfl : ts = ts' := Option.some.inj (h1.symm.trans g1)
 have hw := schemaOf_w h1
 have ho := valOf_of_k g3
 obtain ⟨b1, b2, b3, b4⟩ := pathOf_text h3
 have hq0 : ∀ n ∈ q, 0 ≤ n := fun n hn => (b3 n hn).1
 have hy := rd_of _ _ _ _ h5
 have hc := changeV_ok hw ho g2 hq0 h4 hy
 exact ⟨by unfold okV; rw [given_in h1 g2 (valOf_in hw hc h6.1 h6.2)]; rfl, h6.1⟩
variable {ts : List Ty}
def deepB (a b : V) : Bool := if a.what = 82 then true else if a.what = 85 then decide (a.tag = b.tag) else if a.what = 91 ∨ a.what = 63 then decide (a.kids.length = b.kids.length ∧ 0 < a.kids.length) else false
def tagsV (v : V) : List Int := if v.what = 82 then v.kids.map V.tag else [v.tag]
def stepsV (a b : V) : List Int := if a.what = 91 ∨ a.what = 63 then (List.range a.kids.length).map fun i : Nat => (i : Int)
 else ((List.range 200).map fun i : Nat => (i : Int) + 1).filter fun n => (tagsV a ++ tagsV b).contains n
def diffV (ts : List Ty) : Nat → List UInt8 → V → V → List Int → List (List Int × V)
 | 0, _, _, _, _ => []
 | n + 1, k, a, b, q => if a.out = b.out then [] else if deepB a b = true then (stepsV a b).flatMap fun i => match stepV ts k a i, stepV ts k b i with
   | some y, some z => diffV ts n y.1 y.2 z.2 (q ++ [i])
   | _, _ => []
  else [(q, b)]
theorem steps_lt (a b : V) : (stepsV a b).Pairwise (· < ·) := by
 unfold stepsV
 split
 ·exact List.pairwise_map.2 (List.pairwise_lt_range.imp fun h => by omega)
 ·exact (List.pairwise_map.2 (List.pairwise_lt_range.imp fun h => by omega)).filter _
variable {ts : List Ty}
theorem srt_ext {t : Ty} : ∀ {fs gs : List (Fld × V)}, fs.Pairwise (fun a b => a.1.tag < b.1.tag) → gs.Pairwise (fun a b => a.1.tag < b.1.tag) → (∀ p, p ∈ fs ↔ p ∈ gs) → fs = gs
 | [], [], _, _, _ => rfl
 | [], q :: gs, _, _, h => absurd ((h q).2 (by simp)) (by simp)
 | p :: fs, [], _, _, h => absurd ((h p).1 (by simp)) (by simp)
 | p :: fs, q :: gs, h1, h2, h => by
  replace h1 := List.pairwise_cons.1 h1
  replace h2 := List.pairwise_cons.1 h2
  have e : p = q := by
   rcases List.mem_cons.1 ((h p).1 (by simp)) with e | hp
   ·exact e
   ·rcases List.mem_cons.1 ((h q).2 (by simp)) with e | hq
    ·exact e.symm
    ·have := h1.1 q hq
     have := h2.1 p hp
     omega
  subst e
  rw [srt_ext (t := t) h1.2 h2.2 fun r => ⟨fun hr => by
   rcases List.mem_cons.1 ((h r).1 (by simp [hr])) with e | h3
   ·subst e; have := h1.1 r hr; omega
   ·exact h3, fun hr => by
   rcases List.mem_cons.1 ((h r).2 (by simp [hr])) with e | h3
   ·subst e; have := h2.1 r hr; omega
   ·exact h3⟩]
theorem rec_mem (hw : SchW ts) {t : Ty} (ht : t ∈ ts) (h69 : t.sort ≠ 69) {fs gs : List (Fld × V)} (f1 : ∀ p ∈ fs, p.1 ∈ t.fields) (f3 : ∀ p ∈ fs, p.2.out ≠ standF ts p.1) (f4 : fs.Pairwise fun a b => a.1.tag < b.1.tag)
  (g1 : ∀ p ∈ gs, p.1 ∈ t.fields) (g2 : ∀ p ∈ gs, OfK ts p.1.kind p.2) (h : ∀ f ∈ t.fields, (toldV f (fs.map fldV)).getD (standV ts f) = (toldV f (gs.map fldV)).getD (standV ts f)) : ∀ p ∈ fs, p ∈ gs := by
 intro p hp
 have hpt := f1 p hp
 have e := h p.1 hpt
 rw [toldV_mem (hw.ty t ht) f1 f4 hp] at e
 cases hg : toldV p.1 (gs.map fldV) with
 | none =>
  rw [hg] at e
  exact absurd (by rw [show p.2 = standV ts p.1 from e]; exact (standV_ok hw ht h69 hpt).2.2) (f3 p hp)
 | some w =>
  rw [hg] at e
  obtain ⟨_, q, hq, q1, q2⟩ := toldV_of (hw.ty t ht) hpt (fun p hp => ⟨g1 p hp, g2 p hp⟩) hg
  obtain rfl : q = p := Prod.ext q1 (q2.trans e.symm)
  exact hq
theorem fld_nn (hw : SchW ts) {t : Ty} (ht : t ∈ ts) {f : Fld} (hf : f ∈ t.fields) : 0 ≤ f.tag := by
 have := ((hw.ty t ht).fld f hf).tag
 omega
theorem step_ext (hw : SchW ts) {k : List UInt8} {u v : V} (hu : OfK ts k u) (hv : OfK ts k v) (hk : kindIn ts k = true) (hd : u.what = 91 ∨ u.what = 63 ∨ u.what = 82 ∨ u.what = 85)
  (h : ∀ m, 0 ≤ m → stepV ts k u m = stepV ts k v m) : u = v := by
 obtain ⟨c, r, rfl⟩ := kind_ne hk
 by_cases hc : c.toNat = 91 ∨ c.toNat = 63
 ·have hs : ∀ m : Nat, (if (m : Int) < (u.kids.length : Nat) then some (r, nth u.kids m) else none) = (if (m : Int) < (v.kids.length : Nat) then some (r, nth v.kids m) else none) := fun m => by
   have := h m (by omega)
   unfold stepV at this
   dsimp only at this
   rw [if_pos hc, if_pos hc] at this
   exact this
  have hl : u.kids.length = v.kids.length := by
   have h1 := hs u.kids.length
   have h2 := hs v.kids.length
   rw [if_neg (by omega)] at h1
   rw [if_neg (by omega : ¬ ((v.kids.length : Nat) : Int) < (v.kids.length : Nat))] at h2
   by_cases h3 : u.kids.length < v.kids.length
   ·rw [if_pos (by omega)] at h1; cases h1
   ·by_cases h4 : v.kids.length < u.kids.length
    ·rw [if_pos (by omega)] at h2; cases h2
    ·omega
  have hks : u.kids = v.kids := by
   refine List.ext_getElem hl fun i hi hj => ?_
   have := hs i
   rw [if_pos (by omega), if_pos (by omega), nth_eq hi, nth_eq hj] at this
   exact (Prod.mk.inj (Option.some.inj this)).2
  rcases ofK_inv_c hu (by omega) with ⟨g1, _⟩ | ⟨g1, _⟩ | ⟨g1, _⟩ | ⟨g1, ks, g2, g3, rfl⟩ | ⟨g1, hu2⟩
  ·omega
  ·omega
  ·omega
  ·rcases ofK_inv_c hv (by omega) with ⟨g4, _⟩ | ⟨g4, _⟩ | ⟨g4, _⟩ | ⟨g4, ks2, g5, g6, rfl⟩ | ⟨g4, _⟩
   ·omega
   ·omega
   ·omega
   ·rw [V.kids, V.kids] at hks; rw [hks]
   ·omega
  ·rcases ofK_inv_c hv (by omega) with ⟨g4, _⟩ | ⟨g4, _⟩ | ⟨g4, _⟩ | ⟨g4, _⟩ | ⟨g4, hv2⟩
   ·omega
   ·omega
   ·omega
   ·omega
   ·rcases hu2 with rfl | ⟨w, _, rfl⟩ <;> rcases hv2 with rfl | ⟨z, _, rfl⟩
    ·rfl
    ·exact absurd (show ([] : List V) = [z] from hks) (by simp)
    ·exact absurd (show [w] = ([] : List V) from hks) (by simp)
    ·rw [show [w] = [z] from hks]
 ·cases hr : refT ts (c :: r) with
  | none =>
   exfalso
   generalize hkk : c :: r = k' at hu hr
   cases hu with
   | num => rw [V.what] at hd; omega
   | txt => rw [V.what] at hd; omega
   | flg => rw [V.what] at hd; omega
   | lst => injection hkk with e1 e2; subst e1; exact hc (by decide)
   | non => injection hkk with e1 e2; subst e1; exact hc (by decide)
   | opt => injection hkk with e1 e2; subst e1; exact hc (by decide)
   | recd _ t' fs g1 => rw [hr] at g1; cases g1
   | enm _ t' d g1 => rw [hr] at g1; cases g1
   | uni _ t' d v g1 => rw [hr] at g1; cases g1
  | some t =>
   have ht := refT_mem hr
   have hs : ∀ f ∈ t.fields, t.sort ≠ 69 → (if t.sort = 82 then some (f.kind, getV ts u f) else if u.tag = f.tag then some (f.kind, nth u.kids 0) else none) = (if t.sort = 82 then some (f.kind, getV ts v f) else if v.tag = f.tag then some (f.kind, nth v.kids 0) else none) := fun f hf h69 => by
    have := h f.tag (fld_nn hw ht hf)
    unfold stepV at this
    dsimp only at this
    rw [if_neg hc, if_neg hc, hr] at this
    dsimp only at this
    rw [fldT_mem (hw.ty t ht) hf] at this
    dsimp only at this
    rw [if_neg h69, if_neg h69] at this
    exact this
   rcases ofK_inv_t hu hr with ⟨a1, fs, rfl, a3, a4, a5, a6⟩ | ⟨a1, d, rfl, _⟩ | ⟨a1, a2, d, w, rfl, a4, a5⟩
   ·rcases ofK_inv_t hv hr with ⟨b1, gs, rfl, b3, b4, b5, b6⟩ | ⟨b1, _⟩ | ⟨b1, _⟩
    ·have e : ∀ f ∈ t.fields, (toldV f (fs.map fldV)).getD (standV ts f) = (toldV f (gs.map fldV)).getD (standV ts f) := fun f hf => by
      have := hs f hf (by omega)
      rw [if_pos a1, if_pos a1] at this
      exact (Prod.mk.inj (Option.some.inj this)).2
     rw [srt_ext (t := t) a6 b6 fun p => ⟨rec_mem hw ht (by omega) a3 a5 a6 b3 b4 e p, rec_mem hw ht (by omega) b3 b5 b6 a3 a4 (fun f hf => (e f hf).symm) p⟩]
    ·omega
    ·omega
   ·rw [V.what] at hd; omega
   ·rcases ofK_inv_t hv hr with ⟨b1, _⟩ | ⟨b1, _⟩ | ⟨b1, b2, d2, w2, rfl, b4, b5⟩
    ·omega
    ·omega
    ·have := hs d a4 a2
     rw [if_neg a1, if_neg a1, V.tag, V.tag, if_pos rfl] at this
     split at this
     ·rename_i e
      have := (Prod.mk.inj (Option.some.inj this)).2
      rw [V.kids, V.kids] at this
      rw [show w = w2 from this, e]
     ·cases this
variable {ts : List Ty}
def chAll (ts : List Ty) (k : List UInt8) : V → List (List Int × V) → V
 | v, [] => v
 | v, d :: r => chAll ts k (changeV ts k v d.1 d.2) r
def okDs (ts : List Ty) (k : List UInt8) : V → List (List Int × V) → Prop
 | _, [] => True
 | v, d :: r => ((∃ k' v', followV ts k v d.1 = some (k', v') ∧ OfK ts k' d.2) ∧ ∀ n ∈ d.1, 0 ≤ n) ∧ okDs ts k (changeV ts k v d.1 d.2) r
theorem chAll_app {k : List UInt8} : ∀ {a b : List (List Int × V)} {v : V}, chAll ts k v (a ++ b) = chAll ts k (chAll ts k v a) b
 | [], _, _ => rfl
 | d :: a, b, v => by rw [List.cons_append, chAll, chAll]; exact chAll_app
theorem okDs_app {k : List UInt8} : ∀ {a b : List (List Int × V)} {v : V}, okDs ts k v a → okDs ts k (chAll ts k v a) b → okDs ts k v (a ++ b)
 | [], _, _, _, h => h
 | d :: a, b, v, h1, h2 => ⟨h1.1, okDs_app h1.2 h2⟩
theorem chAll_ok (hw : SchW ts) {k : List UInt8} (hk : kindIn ts k = true) : ∀ {ds : List (List Int × V)} {v : V}, OfK ts k v → okDs ts k v ds → OfK ts k (chAll ts k v ds)
 | [], v, h, _ => h
 | d :: r, v, h, hd => by
  obtain ⟨⟨⟨k', v', h1, h2⟩, h3⟩, h4⟩ := hd
  rw [chAll]
  exact chAll_ok hw hk (changeV_ok hw h hk h3 h1 h2) h4
theorem fold_step (hw : SchW ts) {k k1 : List UInt8} (hk : kindIn ts k = true) {i : Int} (hi : 0 ≤ i) : ∀ {ds : List (List Int × V)} {v y : V}, OfK ts k v → stepV ts k v i = some (k1, y) → okDs ts k1 y ds →
  okDs ts k v (ds.map fun c => (i :: c.1, c.2)) ∧ chAll ts k v (ds.map fun c => (i :: c.1, c.2)) = setV ts k v i (chAll ts k1 y ds)
 | [], v, y, h, hs, _ => by
  obtain ⟨y1, y2⟩ := stepV_ok hw h hk hi hs
  exact ⟨trivial, ((set_step hw h hk hi hs y1).1.2).symm⟩
 | d :: r, v, y, h, hs, hd => by
  obtain ⟨y1, y2⟩ := stepV_ok hw h hk hi hs
  obtain ⟨⟨⟨k', v', h1, h2⟩, h3⟩, h4⟩ := hd
  have hc := changeV_ok hw y1 y2 h3 h1 h2
  obtain ⟨⟨s1, _⟩, s3, _⟩ := set_step hw h hk hi hs hc
  have hq : ∀ n ∈ i :: d.1, 0 ≤ n := fun n hn => by
   rcases List.mem_cons.1 hn with rfl | hn
   ·exact hi
   ·exact h3 n hn
  have hf : followV ts k v (i :: d.1) = some (k', v') := by rw [followV_cons hs]; exact h1
  have hv2 : OfK ts k (setV ts k v i (changeV ts k1 y d.1 d.2)) := by rw [← changeV_cons hs]; exact changeV_ok hw h hk hq hf h2
  obtain ⟨e1, e2⟩ := fold_step hw hk hi hv2 s1 h4
  rw [List.map_cons]
  refine ⟨⟨⟨⟨k', v', hf, h2⟩, hq⟩, ?_⟩, ?_⟩
  ·dsimp only; rw [changeV_cons hs]; exact e1
  ·rw [chAll, chAll]; dsimp only; rw [changeV_cons hs, e2, s3]
theorem diff_map : ∀ {n : Nat} {k : List UInt8} {a b : V} {q : List Int}, diffV ts n k a b q = (diffV ts n k a b []).map fun c => (q ++ c.1, c.2)
 | 0, _, _, _, _ => rfl
 | n + 1, k, a, b, q => by
  rw [diffV, diffV]
  split
  ·rfl
  ·split
   ·rw [List.map_flatMap]
    congr 1
    funext i
    split
    ·rw [diff_map (q := q ++ [i]), diff_map (q := [] ++ [i]), List.map_map]
     congr 1
     funext c
     simp
    ·rfl
   ·simp
theorem steps_fold (hw : SchW ts) {k : List UInt8} (hk : kindIn ts k = true) (S : Int → Option (List UInt8 × V)) (D : Int → List (List Int × V)) : ∀ {L : List Int} {v : V}, OfK ts k v → (∀ i ∈ L, 0 ≤ i) → L.Pairwise (· < ·) →
  (∀ i ∈ L, ∃ k1 y z, stepV ts k v i = some (k1, y) ∧ S i = some (k1, z) ∧ okDs ts k1 y (D i) ∧ chAll ts k1 y (D i) = z) →
  okDs ts k v (L.flatMap fun i => (D i).map fun c => (i :: c.1, c.2)) ∧ ∀ m, 0 ≤ m → stepV ts k (chAll ts k v (L.flatMap fun i => (D i).map fun c => (i :: c.1, c.2))) m = if m ∈ L then S m else stepV ts k v m
 | [], v, _, _, _, _ => ⟨trivial, fun m _ => by rw [if_neg (by simp)]; rfl⟩
 | i :: L, v, h, h0, hp, hs => by
  replace hp := List.pairwise_cons.1 hp
  obtain ⟨k1, y, z, s1, s2, s3, s4⟩ := hs i (by simp)
  have hi := h0 i (by simp)
  obtain ⟨y1, y2⟩ := stepV_ok hw h hk hi s1
  obtain ⟨e1, e2⟩ := fold_step hw hk hi h s1 s3
  rw [s4] at e2
  have hz : OfK ts k1 z := by rw [← s4]; exact chAll_ok hw y2 y1 s3
  obtain ⟨⟨t1, _⟩, _, t4⟩ := set_step hw h hk hi s1 hz
  have hv2 : OfK ts k (setV ts k v i z) := by rw [← e2]; exact chAll_ok hw hk h e1
  obtain ⟨f1, f2⟩ := steps_fold hw hk S D hv2 (fun j hj => h0 j (by simp [hj])) hp.2 fun j hj => by
   have hne : j ≠ i := by have := hp.1 j hj; omega
   rw [t4 j (h0 j (by simp [hj])) hne]
   exact hs j (by simp [hj])
  rw [List.flatMap_cons]
  refine ⟨okDs_app e1 (by rw [e2]; exact f1), fun m hm => ?_⟩
  rw [chAll_app, e2, f2 m hm]
  by_cases hmi : m = i
  ·subst hmi
   rw [if_neg (fun hin => by have := hp.1 m hin; omega), if_pos (by simp), t1, s2]
  ·by_cases hml : m ∈ L
   ·rw [if_pos hml, if_pos (by simp [hml])]
   ·rw [if_neg hml, if_neg (by simp [hmi, hml]), t4 m hm hmi]
variable {ts : List Ty}
theorem steps_has {a b : V} (h : ¬ (a.what = 91 ∨ a.what = 63)) {n : Int} (h1 : 1 ≤ n ∧ n ≤ 200) (h2 : n ∈ tagsV a ∨ n ∈ tagsV b) : n ∈ stepsV a b := by
 unfold stepsV
 rw [if_neg h]
 refine List.mem_filter.2 ⟨List.mem_map.2 ⟨(n - 1).toNat, List.mem_range.2 (by omega), by omega⟩, ?_⟩
 rw [List.contains_iff_mem]
 exact List.mem_append.2 h2
theorem steps_of {a b : V} (h : ¬ (a.what = 91 ∨ a.what = 63)) {n : Int} (h1 : n ∈ stepsV a b) : n ∈ tagsV a ∨ n ∈ tagsV b := by
 unfold stepsV at h1
 rw [if_neg h] at h1
 have := (List.mem_filter.1 h1).2
 rw [List.contains_iff_mem] at this
 exact List.mem_append.1 this
theorem tags_rec {fs : List (Fld × V)} {n : Int} : n ∈ tagsV (.nd 82 [] 0 (fs.map fldV)) ↔ ∃ p ∈ fs, p.1.tag = n := by
 unfold tagsV
 rw [V.what, if_pos rfl, V.kids, List.map_map]
 constructor
 ·intro h
  obtain ⟨p, hp, e⟩ := List.mem_map.1 h
  exact ⟨p, hp, e⟩
 ·rintro ⟨p, hp, e⟩
  exact List.mem_map.2 ⟨p, hp, e⟩
theorem step_rec {c : UInt8} {r : List UInt8} {t : Ty} {f : Fld} {n : Int} (hc : ¬ (c.toNat = 91 ∨ c.toNat = 63)) (hr : refT ts (c :: r) = some t) (hf : fldT t.fields n = some f) (h82 : t.sort = 82) (v : V) : stepV ts (c :: r) v n = some (f.kind, getV ts v f) := by
 unfold stepV
 dsimp only
 rw [if_neg hc, hr]
 dsimp only
 rw [hf]
 dsimp only
 rw [if_neg (by omega), if_pos h82]
theorem step_none {c : UInt8} {r : List UInt8} {t : Ty} {n : Int} (hc : ¬ (c.toNat = 91 ∨ c.toNat = 63)) (hr : refT ts (c :: r) = some t) (hf : fldT t.fields n = none) (v : V) : stepV ts (c :: r) v n = none := by
 unfold stepV
 dsimp only
 rw [if_neg hc, hr]
 dsimp only
 rw [hf]
theorem told_no {t : Ty} (hw : TyW t) {f : Fld} (hf : f ∈ t.fields) {fs : List (Fld × V)} (h : ∀ p ∈ fs, p.1 ∈ t.fields ∧ OfK ts p.1.kind p.2) (hn : f.tag ∉ tagsV (.nd 82 [] 0 (fs.map fldV))) : toldV f (fs.map fldV) = none := by
 cases e : toldV f (fs.map fldV) with
 | none => rfl
 | some u =>
  obtain ⟨_, p, hp, e1, _⟩ := toldV_of hw hf h e
  exact absurd (tags_rec.2 ⟨p, hp, by rw [e1]⟩) hn
theorem deep_steps (hw : SchW ts) {k : List UInt8} {a b : V} (ha : OfK ts k a) (hb : OfK ts k b) (hk : kindIn ts k = true) (hd : deepB a b = true) :
  (∀ i ∈ stepsV a b, ∃ k1 y z, stepV ts k a i = some (k1, y) ∧ stepV ts k b i = some (k1, z)) ∧ (∀ m, 0 ≤ m → m ∉ stepsV a b → stepV ts k a m = stepV ts k b m) ∧ (b.what = 91 ∨ b.what = 63 ∨ b.what = 82 ∨ b.what = 85) := by
 obtain ⟨c, r, rfl⟩ := kind_ne hk
 by_cases hc : c.toNat = 91 ∨ c.toNat = 63
 ·have hs : ∀ v m, stepV ts (c :: r) v m = if m < (v.kids.length : Nat) then some (r, nth v.kids m.toNat) else none := fun v m => by
   unfold stepV
   dsimp only
   rw [if_pos hc]
  have hw2 : ∀ v, OfK ts (c :: r) v → v.what = 91 ∨ v.what = 63 := fun v hv => by
   rcases ofK_inv_c hv (by omega) with ⟨g1, _⟩ | ⟨g1, _⟩ | ⟨g1, _⟩ | ⟨g1, ks, _, _, rfl⟩ | ⟨g1, rfl | ⟨w, _, rfl⟩⟩
   ·omega
   ·omega
   ·omega
   ·exact Or.inl rfl
   ·exact Or.inr rfl
   ·exact Or.inr rfl
  have wa := hw2 a ha
  have wb := hw2 b hb
  unfold deepB at hd
  rw [if_neg (by omega), if_neg (by omega), if_pos wa] at hd
  have hl := of_decide_eq_true hd
  have hst : ∀ i, i ∈ stepsV a b ↔ 0 ≤ i ∧ i < (a.kids.length : Nat) := fun i => by
   unfold stepsV
   rw [if_pos wa]
   constructor
   ·intro h
    obtain ⟨j, hj, rfl⟩ := List.mem_map.1 h
    have := List.mem_range.1 hj
    omega
   ·intro h
    exact List.mem_map.2 ⟨i.toNat, List.mem_range.2 (by omega), by omega⟩
  refine ⟨fun i hi => ?_, fun m hm hn => ?_, by omega⟩
  ·have := (hst i).1 hi
   exact ⟨r, nth a.kids i.toNat, nth b.kids i.toNat, by rw [hs, if_pos this.2], by rw [hs, if_pos (by omega)]⟩
  ·have : ¬ m < (a.kids.length : Nat) := fun h => hn ((hst m).2 ⟨hm, h⟩)
   rw [hs, hs, if_neg this, if_neg (by omega)]
 ·cases hr : refT ts (c :: r) with
  | none =>
   exfalso
   have : a.what = 110 ∨ a.what = 116 ∨ a.what = 102 := by
    generalize hkk : c :: r = k' at ha hr
    cases ha with
    | num => exact Or.inl rfl
    | txt => exact Or.inr (Or.inl rfl)
    | flg => exact Or.inr (Or.inr rfl)
    | lst => injection hkk with e1 e2; subst e1; exact absurd (by decide) hc
    | non => injection hkk with e1 e2; subst e1; exact absurd (by decide) hc
    | opt => injection hkk with e1 e2; subst e1; exact absurd (by decide) hc
    | recd _ t' fs g1 => rw [hr] at g1; cases g1
    | enm _ t' d g1 => rw [hr] at g1; cases g1
    | uni _ t' d v g1 => rw [hr] at g1; cases g1
   unfold deepB at hd
   rw [if_neg (by omega), if_neg (by omega), if_neg (by omega)] at hd
   cases hd
  | some t =>
   have ht := refT_mem hr
   have htw := hw.ty t ht
   rcases ofK_inv_t ha hr with ⟨a1, fs, rfl, a3, a4, a5, a6⟩ | ⟨a1, d, rfl, _⟩ | ⟨a1, a2, d, w, rfl, a4, a5⟩
   ·rcases ofK_inv_t hb hr with ⟨b1, gs, rfl, b3, b4, b5, b6⟩ | ⟨b1, _⟩ | ⟨b1, _⟩
    ·have hna : ¬ ((V.nd 82 [] 0 (fs.map fldV)).what = 91 ∨ (V.nd 82 [] 0 (fs.map fldV)).what = 63) := by rw [V.what]; omega
     refine ⟨fun i hi => ?_, fun m hm hn => ?_, Or.inr (Or.inr (Or.inl rfl))⟩
     ·have hfi : ∃ f ∈ t.fields, f.tag = i := by
       rcases steps_of hna hi with h | h
       ·obtain ⟨p, hp, e⟩ := tags_rec.1 h; exact ⟨p.1, a3 p hp, e⟩
       ·obtain ⟨p, hp, e⟩ := tags_rec.1 h; exact ⟨p.1, b3 p hp, e⟩
      obtain ⟨f, hf, rfl⟩ := hfi
      have hff := fldT_mem htw hf
      exact ⟨f.kind, _, _, step_rec hc hr hff a1 _, step_rec hc hr hff a1 _⟩
     ·cases hf : fldT t.fields m with
      | none => rw [step_none hc hr hf, step_none hc hr hf]
      | some f =>
       have hfm := List.mem_of_find?_eq_some hf
       have hft : f.tag = m := by have := List.find?_some hf; simpa using this
       have hfr := (htw.fld f hfm).tag
       rw [step_rec hc hr hf a1, step_rec hc hr hf a1]
       unfold getV
       rw [V.kids, V.kids, told_no htw hfm (fun p hp => ⟨a3 p hp, a4 p hp⟩) (fun h => hn (steps_has hna (by omega) (Or.inl (hft ▸ h)))),
        told_no htw hfm (fun p hp => ⟨b3 p hp, b4 p hp⟩) (fun h => hn (steps_has hna (by omega) (Or.inr (hft ▸ h))))]
    ·omega
    ·omega
   ·unfold deepB at hd
    rw [V.what, if_neg (by decide), if_neg (by decide), if_neg (by decide)] at hd
    cases hd
   ·rcases ofK_inv_t hb hr with ⟨b1, _⟩ | ⟨b1, _⟩ | ⟨b1, b2, d2, w2, rfl, b4, b5⟩
    ·omega
    ·omega
    ·have hna : ¬ ((V.nd 85 [] d.tag [w]).what = 91 ∨ (V.nd 85 [] d.tag [w]).what = 63) := by rw [V.what]; omega
     unfold deepB at hd
     rw [V.what, if_neg (by decide), if_pos rfl] at hd
     have htg : d.tag = d2.tag := of_decide_eq_true hd
     have hst : ∀ (x : V) (m : Int) (f : Fld), fldT t.fields m = some f → stepV ts (c :: r) x m = if x.tag = m then some (f.kind, nth x.kids 0) else none := fun x m f hf => by
      unfold stepV
      dsimp only
      rw [if_neg hc, hr]
      dsimp only
      rw [hf]
      dsimp only
      rw [if_neg a2, if_neg a1]
     have htag : ∀ (e : Int) (x : V), tagsV (.nd 85 [] e [x]) = [e] := fun e x => by
      unfold tagsV; rw [V.what, if_neg (by decide)]; rfl
     refine ⟨fun i hi => ?_, fun m hm hn => ?_, Or.inr (Or.inr (Or.inr rfl))⟩
     ·have hi2 : i = d.tag := by
       rcases steps_of hna hi with h | h
       ·rw [htag] at h; exact List.mem_singleton.1 h
       ·rw [htag] at h; rw [htg]; exact List.mem_singleton.1 h
      subst hi2
      have hff := fldT_mem htw a4
      exact ⟨d.kind, w, w2, by rw [hst _ _ _ hff, V.tag, if_pos rfl]; rfl, by rw [hst _ _ _ hff, V.tag, if_pos htg.symm]; rfl⟩
     ·cases hf : fldT t.fields m with
      | none => rw [step_none hc hr hf, step_none hc hr hf]
      | some f =>
       have hfr := (htw.fld d a4).tag
       have hmd : d.tag ≠ m := fun e => hn (e ▸ steps_has hna (by omega) (Or.inl (by rw [htag]; simp)))
       rw [hst _ _ _ hf, hst _ _ _ hf, V.tag, V.tag, if_neg hmd, if_neg (by omega)]
variable {ts : List Ty}
def lastsV (ts : List Ty) : Nat → List UInt8 → V → V → Prop
 | 0, _, _, _ => False
 | n + 1, k, a, b => a.out = b.out ∨ deepB a b = false ∨ ∀ i ∈ stepsV a b, ∀ y z, stepV ts k a i = some y → stepV ts k b i = some z → lastsV ts n y.1 y.2 z.2
def subD (ts : List Ty) (n : Nat) (k : List UInt8) (a b : V) (i : Int) : List (List Int × V) := match stepV ts k a i, stepV ts k b i with
 | some y, some z => diffV ts n y.1 y.2 z.2 []
 | _, _ => []
theorem diff_deep {n : Nat} {k : List UInt8} {a b : V} (h1 : a.out ≠ b.out) (h2 : deepB a b = true) : diffV ts (n + 1) k a b [] = (stepsV a b).flatMap fun i => (subD ts n k a b i).map fun c => (i :: c.1, c.2) := by
 rw [diffV, if_neg h1, if_pos h2]
 congr 1
 funext i
 unfold subD
 cases stepV ts k a i with
 | none => rfl
 | some y => cases stepV ts k b i with
  | none => rfl
  | some z =>
   dsimp only
   rw [diff_map]
   rfl
theorem diff_all (hw : SchW ts) : ∀ {n : Nat} {k : List UInt8} {a b : V}, OfK ts k a → OfK ts k b → kindIn ts k = true → lastsV ts n k a b → okDs ts k a (diffV ts n k a b []) ∧ chAll ts k a (diffV ts n k a b []) = b
 | 0, _, _, _, _, _, _, h => h.elim
 | n + 1, k, a, b, ha, hb, hk, h => by
  by_cases ho : a.out = b.out
  ·rw [diffV, if_pos ho]
   exact ⟨trivial, out_inj hw ha hb ho⟩
  ·by_cases hd : deepB a b = true
   ·obtain ⟨d1, d2, d3⟩ := deep_steps hw ha hb hk hd
    have hl : ∀ i ∈ stepsV a b, ∀ y z, stepV ts k a i = some y → stepV ts k b i = some z → lastsV ts n y.1 y.2 z.2 := by
     rcases h with h | h | h
     ·exact absurd h ho
     ·rw [hd] at h; cases h
     ·exact h
    have h0 : ∀ i ∈ stepsV a b, 0 ≤ i := fun i hi => by
     unfold stepsV at hi
     split at hi
     ·obtain ⟨j, _, rfl⟩ := List.mem_map.1 hi; omega
     ·obtain ⟨j, _, rfl⟩ := List.mem_map.1 (List.mem_filter.1 hi).1; omega
    obtain ⟨f1, f2⟩ := steps_fold hw hk (stepV ts k b) (subD ts n k a b) ha h0 (steps_lt a b) fun i hi => by
     obtain ⟨k1, y, z, s1, s2⟩ := d1 i hi
     obtain ⟨y1, y2⟩ := stepV_ok hw ha hk (h0 i hi) s1
     obtain ⟨z1, _⟩ := stepV_ok hw hb hk (h0 i hi) s2
     have hrec := diff_all hw y1 z1 y2 (hl i hi _ _ s1 s2)
     refine ⟨k1, y, z, s1, s2, ?_⟩
     unfold subD
     rw [s1, s2]
     exact hrec
    rw [diff_deep ho hd]
    refine ⟨f1, (step_ext hw hb (chAll_ok hw hk ha f1) hk d3 fun m hm => ?_).symm⟩
    rw [f2 m hm]
    by_cases hin : m ∈ stepsV a b
    ·rw [if_pos hin]
    ·rw [if_neg hin, d2 m hm hin]
   ·rw [diffV, if_neg ho, if_neg hd]
    exact ⟨⟨⟨⟨k, a, rfl, hb⟩, fun n hn => by cases hn⟩, trivial⟩, rfl⟩
variable {ts : List Ty}
theorem sep61 : ∀ {a b r s : List UInt8}, noB 61 a → noB 61 b → a ++ 61 :: r = b ++ 61 :: s → a = b ∧ r = s
 | [], [], _, _, _, _, h => ⟨rfl, (List.cons.inj h).2⟩
 | [], y :: b, _, _, _, hb, h => absurd (by rw [← (List.cons.inj h).1]; rfl) (hb y (by simp))
 | x :: a, [], _, _, ha, _, h => absurd (by rw [(List.cons.inj h).1]; rfl) (ha x (by simp))
 | x :: a, y :: b, _, _, ha, hb, h => by
  obtain ⟨h1, h2⟩ := List.cons.inj h
  obtain ⟨h3, h4⟩ := sep61 (fun c hc => ha c (by simp [hc])) (fun c hc => hb c (by simp [hc])) h2
  exact ⟨by rw [h1, h3], h4⟩
theorem decI_no61 {n : Int} (h : 0 ≤ n) : noB 61 (decI n) := fun c hc => by
 have h1 := (digF_decI _ (Nat.le_refl _) h).2 c hc
 unfold isDg at h1
 have h2 := of_decide_eq_true h1
 omega
def StK (ts : List Ty) (k : List UInt8) (v : V) : Prop := v.kids = [] ∨ ∃ n, v.out = standN ts n k
theorem stn_uni (hw : SchW ts) {k : List UInt8} {t : Ty} (hr : refT ts k = some t) (h82 : t.sort ≠ 82) (h69 : t.sort ≠ 69) {d : Fld} (hd : d ∈ t.fields) {w : V} {n : Nat} (h : V.out (.nd 85 [] d.tag [w]) = standN ts n k) :
  ∃ m, n = m + 1 ∧ d = t.fields.headD default ∧ w.out = standN ts m (kind0 t) ∧ standN ts n k = 60 :: (decI (tag0 t) ++ 61 :: (standN ts m (kind0 t) ++ [62])) := by
 have ho := out_uni (v := w) (n := d.tag) (r := [])
 rw [List.append_nil] at ho
 rw [ho] at h
 have htw := hw.ty t (refT_mem hr)
 cases n with
 | zero => rw [standN] at h; cases h
 | succ n =>
  cases k with
  | nil => rw [standN] at h; cases h
  | cons c r =>
   rw [standN] at h ⊢
   split at h
   ·exact absurd (List.cons.inj h).1 (by decide)
   ·split at h
    ·exact absurd (List.cons.inj h).1 (by decide)
    ·rename_i h91 h63
     rw [if_neg h91, if_neg h63]
     rw [hr] at h ⊢
     dsimp only at h ⊢
     rw [if_neg h82, if_neg h69] at h ⊢
     have hd0 := head0 htw h82
     have h1 := sep61 (decI_no61 (by have := (htw.fld d hd).tag; omega)) (decI_no61 (by have := (htw.fld _ hd0).tag; unfold tag0; omega)) (List.cons.inj h).2
     have h2 : d.tag = tag0 t := by
      have a1 := numOf_decI (m := d.tag) (top := 999999) (by have := (htw.fld d hd).tag; omega) (by have := (htw.fld d hd).tag; omega) (by decide)
      have a2 := numOf_decI (m := tag0 t) (top := 999999) (by have := (htw.fld _ hd0).tag; unfold tag0; omega) (by have := (htw.fld _ hd0).tag; unfold tag0; omega) (by decide)
      rw [h1.1, a2] at a1
      exact (Option.some.inj a1).symm
     refine ⟨n, rfl, fld_tag htw hd hd0 h2, ?_, rfl⟩
     exact List.append_cancel_right h1.2
theorem out_ne {k : List UInt8} {v : V} (h : OfK ts k v) : v.out ≠ [] := by
 cases h with
 | num k n => rw [V.out]; intro h; have := decI_pos n; rw [show outW 110 (decI n) 0 _ _ = decI n from rfl] at h; rw [h] at this; simp at this
 | txt => rw [V.out]; exact fun h => by cases h
 | flg k x hx => rw [V.out]; rcases hx with rfl | rfl <;> exact fun h => by cases h
 | lst => rw [V.out]; exact fun h => by cases h
 | non => rw [V.out]; exact fun h => by cases h
 | opt => rw [V.out]; exact fun h => by cases h
 | recd => rw [V.out]; exact fun h => by cases h
 | enm => rw [V.out]; exact fun h => by cases h
 | uni => rw [V.out]; exact fun h => by cases h
theorem stn_det (hw : SchW ts) : ∀ (n m : Nat) {k : List UInt8} {a b : V}, OfK ts k a → OfK ts k b → a.out = standN ts n k → b.out = standN ts m k → a.out = b.out
 | 0, _, _, _, _, ha, _, h, _ => absurd h (out_ne ha)
 | _ + 1, 0, _, _, _, _, hb, _, h => absurd h (out_ne hb)
 | n + 1, m + 1, [], a, b, ha, _, h, _ => absurd h (out_ne ha)
 | n + 1, m + 1, c :: r, a, b, ha, hb, h1, h2 => by
  have hu : ∀ t, refT ts (c :: r) = some t → t.sort ≠ 82 → t.sort ≠ 69 → a.out = b.out := fun t hr h82 h69 => by
   rcases ofK_inv_t ha hr with ⟨a1, _⟩ | ⟨a1, _⟩ | ⟨_, _, d, w, rfl, a4, a5⟩
   ·exact absurd a1 h82
   ·exact absurd a1 h69
   ·rcases ofK_inv_t hb hr with ⟨a1, _⟩ | ⟨a1, _⟩ | ⟨_, _, e, x, rfl, b4, b5⟩
    ·exact absurd a1 h82
    ·exact absurd a1 h69
    ·obtain ⟨n1, e1, f1, g1, i1⟩ := stn_uni hw hr h82 h69 a4 h1
     obtain ⟨m1, e2, f2, g2, i2⟩ := stn_uni hw hr h82 h69 b4 h2
     obtain rfl : n = n1 := by omega
     obtain rfl : m = m1 := by omega
     have hk : kind0 t = d.kind := by rw [f1]; rfl
     have hk2 : kind0 t = e.kind := by rw [f2]; rfl
     have ih := stn_det hw n m (k := kind0 t) (by rw [hk]; exact a5) (by rw [hk2]; exact b5) g1 g2
     rw [h1, h2, i1, i2, ← g1, ← g2, ih]
  rw [h1, h2]
  rw [standN, standN]
  by_cases h91 : c.toNat = 91
  ·simp only [if_pos h91]
  by_cases h63 : c.toNat = 63
  ·simp only [if_neg h91, if_pos h63]
  cases hr : refT ts (c :: r) with
  | none => simp only [if_neg h91, if_neg h63]
  | some t =>
   by_cases h82 : t.sort = 82
   ·simp only [if_neg h91, if_neg h63, if_pos h82]
   by_cases h69 : t.sort = 69
   ·simp only [if_neg h91, if_neg h63, if_neg h82, if_pos h69]
   have := hu t hr h82 h69
   rw [h1, h2, standN, standN, hr] at this
   exact this
theorem stand_kids (hw : SchW ts) {k : List UInt8} {v : V} (h : OfK ts k v) (hs : StK ts k v) (h85 : v.what ≠ 85) : v.kids = [] := by
 rcases hs with hs | ⟨n, hs⟩
 ·exact hs
 cases n with
 | zero => exact absurd hs (out_ne h)
 | succ n =>
  cases k with
  | nil => exact absurd hs (out_ne h)
  | cons c r =>
   rw [standN] at hs
   cases hr : refT ts (c :: r) with
   | some t =>
    have hc : c.toNat = 64 := by obtain ⟨r0, e⟩ := refT_64 hr; injection e with e1 e2; rw [e1]; rfl
    rcases ofK_inv_t h hr with ⟨a1, fs, rfl, a3, a4, a5, a6⟩ | ⟨a1, d, rfl, _⟩ | ⟨a1, a2, d, w, rfl, a4, a5⟩
    ·rw [if_neg (by omega), if_neg (by omega), hr] at hs
     dsimp only at hs
     rw [if_pos a1] at hs
     have := out_inj hw h (.recd _ t [] hr a1 (by simp) (by simp) (by simp) (by simp)) (hs.trans (by rw [V.out]; rfl))
     rw [this]; rfl
    ·rfl
    ·exact absurd rfl h85
   | none =>
    generalize hkk : c :: r = k' at h hr
    cases h with
    | num => rfl
    | txt => rfl
    | flg => rfl
    | lst k ks h1 h2 =>
     injection hkk with e1 e2
     subst e1
     rw [if_pos (by decide)] at hs
     have := out_inj hw (OfK.lst k ks h1 h2) (.lst k [] (by simp) (by simp)) (hs.trans (by rw [V.out]; rfl))
     rw [this]; rfl
    | non => rfl
    | opt k u h1 =>
     injection hkk with e1 e2
     subst e1
     rw [if_neg (by decide), if_pos (by decide)] at hs
     have := out_inj hw (OfK.opt k u h1) (.non k) (hs.trans (by rw [V.out]; rfl))
     cases this
    | recd _ t' fs g1 => rw [hr] at g1; cases g1
    | enm _ t' d g1 => rw [hr] at g1; cases g1
    | uni _ t' d v g1 => rw [hr] at g1; cases g1
theorem standV_K (hw : SchW ts) {t : Ty} (ht : t ∈ ts) (hs : t.sort ≠ 69) {d : Fld} (hd : d ∈ t.fields) : StK ts d.kind (standV ts d) := by
 obtain ⟨h1, _, h3⟩ := standV_ok hw ht hs hd
 unfold standF at h3
 by_cases h0 : d.stand = []
 ·rw [if_pos h0] at h3
  exact Or.inr ⟨_, h3⟩
 ·have h2 := (((hw.ty t ht).fld d hd).stand h0).2
  unfold standOk at h2
  have hp : d.kind = [110] ∨ d.kind = [116] ∨ d.kind = [102] := by
   split at h2
   ·rename_i h; exact Or.inl h
   ·split at h2
    ·rename_i h; exact Or.inr (Or.inl h)
    ·split at h2
     ·rename_i h; exact Or.inr (Or.inr h)
     ·cases h2
  left
  generalize standV ts d = v at h1
  rcases hp with e | e | e <;> rw [e] at h1 <;> rcases ofK_inv_c h1 (by decide) with ⟨g1, _, _, _, rfl⟩ | ⟨g1, _, _, rfl⟩ | ⟨g1, _, _, rfl⟩ | ⟨g1, ks, _, _, rfl⟩ | ⟨g1, rfl | ⟨w, _, rfl⟩⟩ <;> first | rfl | exact absurd g1 (by decide)
theorem part_fits (hw : SchW ts) {k : List UInt8} {a b : V} (ha : OfK ts k a) (hb : OfK ts k b) (hk : kindIn ts k = true) (hne : a.out ≠ b.out) (hd : deepB a b = true) {n : Nat} (h1 : a.deep ≤ n ∨ StK ts k a) (h2 : b.deep ≤ n ∨ StK ts k b)
  {i : Int} (hi : i ∈ stepsV a b) {y z : List UInt8 × V} (hy : stepV ts k a i = some y) (hz : stepV ts k b i = some z) : ∃ m, n = m + 1 ∧ (y.2.deep ≤ m ∨ StK ts y.1 y.2) ∧ (z.2.deep ≤ m ∨ StK ts z.1 z.2) := by
 obtain ⟨c, r, rfl⟩ := kind_ne hk
 by_cases hc : c.toNat = 91 ∨ c.toNat = 63
 ·have hs : ∀ v m, stepV ts (c :: r) v m = if m < (v.kids.length : Nat) then some (r, nth v.kids m.toNat) else none := fun v m => by
   unfold stepV
   dsimp only
   rw [if_pos hc]
  have hw2 : ∀ v, OfK ts (c :: r) v → v.what = 91 ∨ v.what = 63 := fun v hv => by
   rcases ofK_inv_c hv (by omega) with ⟨g1, _⟩ | ⟨g1, _⟩ | ⟨g1, _⟩ | ⟨g1, ks, _, _, rfl⟩ | ⟨g1, rfl | ⟨w, _, rfl⟩⟩
   ·omega
   ·omega
   ·omega
   ·exact Or.inl rfl
   ·exact Or.inr rfl
   ·exact Or.inr rfl
  have wa := hw2 a ha
  have wb := hw2 b hb
  have hst := hi
  unfold stepsV at hst
  rw [if_pos wa] at hst
  obtain ⟨j, hj, rfl⟩ := List.mem_map.1 hst
  have hj := List.mem_range.1 hj
  unfold deepB at hd
  rw [if_neg (by omega), if_neg (by omega), if_pos wa] at hd
  have hl := of_decide_eq_true hd
  have key : ∀ v, OfK ts (c :: r) v → (v.what = 91 ∨ v.what = 63) → (v.deep ≤ n ∨ StK ts (c :: r) v) → j < v.kids.length → ∃ m, n = m + 1 ∧ (nth v.kids j).deep ≤ m := fun v hv hwv hfv hjv => by
   rcases hfv with h | h
   ·obtain ⟨w, x, t, ks⟩ := v
    have hw61 : ¬ w = 61 := by rw [V.what] at hwv; omega
    rw [deep_nd hw61] at h
    rw [V.kids] at hjv ⊢
    have := V.deep_mem (nth_mem hjv)
    exact ⟨n - 1, by omega, by omega⟩
   ·have := stand_kids hw hv h (by omega)
    rw [this] at hjv
    cases hjv
  rw [hs, if_pos (by omega)] at hy
  rw [hs, if_pos (by omega)] at hz
  cases hy
  cases hz
  obtain ⟨m, e1, e2⟩ := key a ha wa h1 hj
  obtain ⟨m', e3, e4⟩ := key b hb wb h2 (by omega)
  obtain rfl : m = m' := by omega
  exact ⟨m, e1, Or.inl (by rw [Int.toNat_natCast]; exact e2), Or.inl (by rw [Int.toNat_natCast]; exact e4)⟩
 ·cases hr : refT ts (c :: r) with
  | none =>
   unfold stepV at hy
   dsimp only at hy
   rw [if_neg hc, hr] at hy
   cases hy
  | some t =>
   have ht := refT_mem hr
   have htw := hw.ty t ht
   cases hf : fldT t.fields i with
   | none => rw [step_none hc hr hf] at hy; cases hy
   | some f =>
    have hfm := List.mem_of_find?_eq_some hf
    have hft : f.tag = i := by have := List.find?_some hf; simpa using this
    rcases ofK_inv_t ha hr with ⟨a1, fs, rfl, a3, a4, a5, a6⟩ | ⟨a1, d, rfl, _⟩ | ⟨a1, a2, d, w, rfl, a4, a5⟩
    ·rcases ofK_inv_t hb hr with ⟨b1, gs, rfl, b3, b4, b5, b6⟩ | ⟨b1, _⟩ | ⟨b1, _⟩
     ·have hna : ¬ ((V.nd 82 [] 0 (fs.map fldV)).what = 91 ∨ (V.nd 82 [] 0 (fs.map fldV)).what = 63) := by rw [V.what]; omega
      rw [step_rec hc hr hf a1] at hy hz
      cases hy
      cases hz
      have pos : ∀ hs : List (Fld × V), OfK ts (c :: r) (.nd 82 [] 0 (hs.map fldV)) → ((V.nd 82 [] 0 (hs.map fldV)).deep ≤ n ∨ StK ts (c :: r) (.nd 82 [] 0 (hs.map fldV))) → hs ≠ [] → 1 ≤ n ∧ V.deeps (hs.map fldV) + 1 ≤ n := fun hs ho hh hne => by
       rcases hh with h | h
       ·rw [deep_nd (by decide)] at h
        omega
       ·have := stand_kids hw ho h (by rw [V.what]; decide)
        rw [V.kids] at this
        exact absurd (List.map_eq_nil_iff.1 this) hne
      have hn : 1 ≤ n := by
       rcases steps_of hna hi with h | h
       ·obtain ⟨p, hp, _⟩ := tags_rec.1 h
        exact (pos fs ha h1 (by intro e; rw [e] at hp; cases hp)).1
       ·obtain ⟨p, hp, _⟩ := tags_rec.1 h
        exact (pos gs hb h2 (by intro e; rw [e] at hp; cases hp)).1
      have told : ∀ hs : List (Fld × V), OfK ts (c :: r) (.nd 82 [] 0 (hs.map fldV)) → ((V.nd 82 [] 0 (hs.map fldV)).deep ≤ n ∨ StK ts (c :: r) (.nd 82 [] 0 (hs.map fldV))) → (∀ p ∈ hs, p.1 ∈ t.fields ∧ OfK ts p.1.kind p.2) →
        (getV ts (.nd 82 [] 0 (hs.map fldV)) f).deep ≤ n - 1 ∨ StK ts f.kind (getV ts (.nd 82 [] 0 (hs.map fldV)) f) := fun hs ho hh hp => by
       unfold getV
       rw [V.kids]
       cases e : toldV f (hs.map fldV) with
       | none => exact Or.inr (standV_K hw ht (by omega) hfm)
       | some u =>
        left
        obtain ⟨_, p, hp1, _, hp3⟩ := toldV_of htw hfm hp e
        have h5 := (pos hs ho hh (by intro e; rw [e] at hp1; cases hp1)).2
        have h6 := V.deep_mem (List.mem_map_of_mem (f := fldV) hp1)
        rw [deep_fld, hp3] at h6
        show u.deep ≤ n - 1
        omega
      exact ⟨n - 1, by omega, told fs ha h1 fun p hp => ⟨a3 p hp, a4 p hp⟩, told gs hb h2 fun p hp => ⟨b3 p hp, b4 p hp⟩⟩
     ·omega
     ·omega
    ·unfold deepB at hd
     rw [V.what, if_neg (by decide), if_neg (by decide), if_neg (by decide)] at hd
     cases hd
    ·rcases ofK_inv_t hb hr with ⟨b1, _⟩ | ⟨b1, _⟩ | ⟨b1, b2, e, x, rfl, b4, b5⟩
     ·omega
     ·omega
     ·have hn : ∀ (d : Fld) (w : V), ((V.nd 85 [] d.tag [w]).deep ≤ n) → ∃ m, n = m + 1 ∧ w.deep ≤ m := fun d w h => by
       rw [deep_nd (by decide), V.deeps, V.deeps] at h
       exact ⟨n - 1, by omega, by omega⟩
      have hst : ∀ (d : Fld) (w : V), d ∈ t.fields → StK ts (c :: r) (.nd 85 [] d.tag [w]) → StK ts d.kind w ∧ ∃ j, V.out (.nd 85 [] d.tag [w]) = standN ts j (c :: r) := fun d w hd h => by
       rcases h with h | ⟨j, h⟩
       ·cases h
       ·obtain ⟨m, _, e2, e3, _⟩ := stn_uni hw hr a1 a2 hd h
        exact ⟨Or.inr ⟨m, by rw [e3, e2]; rfl⟩, j, h⟩
      have sel : ∀ (d : Fld) (w : V), d ∈ t.fields → ∀ q, stepV ts (c :: r) (.nd 85 [] d.tag [w]) i = some q → q = (d.kind, w) := fun d w hd q hq => by
       unfold stepV at hq
       dsimp only at hq
       rw [if_neg hc, hr] at hq
       dsimp only at hq
       rw [hf] at hq
       dsimp only at hq
       rw [if_neg a2, if_neg a1] at hq
       split at hq
       ·rename_i htg
        obtain rfl := fld_tag htw hfm hd (by rw [hft]; exact htg.symm)
        cases hq
        rfl
       ·cases hq
      cases sel d w a4 y hy
      cases sel e x b4 z hz
      have hfit : ∀ (d : Fld) (w : V) (m : Nat), n = m + 1 → d ∈ t.fields → ((V.nd 85 [] d.tag [w]).deep ≤ n ∨ StK ts (c :: r) (.nd 85 [] d.tag [w])) → w.deep ≤ m ∨ StK ts d.kind w := fun d w m hm hd h => by
       rcases h with h | h
       ·obtain ⟨m', e1, e2⟩ := hn d w h
        exact Or.inl (by omega)
       ·exact Or.inr (hst d w hd h).1
      have hm : ∃ m, n = m + 1 := by
       rcases h1 with h1 | h1
       ·obtain ⟨m, e1, _⟩ := hn d w h1; exact ⟨m, e1⟩
       ·rcases h2 with h2 | h2
        ·obtain ⟨m, e1, _⟩ := hn e x h2; exact ⟨m, e1⟩
        ·obtain ⟨_, j1, g1⟩ := hst d w a4 h1
         obtain ⟨_, j2, g2⟩ := hst e x b4 h2
         exact absurd (stn_det hw _ _ ha hb g1 g2) hne
      obtain ⟨m, hm⟩ := hm
      exact ⟨m, hm, hfit d w m hm a4 h1, hfit e x m hm b4 h2⟩
theorem lasts (hw : SchW ts) : ∀ (n : Nat) {k : List UInt8} {a b : V}, OfK ts k a → OfK ts k b → kindIn ts k = true → (a.deep ≤ n ∨ StK ts k a) → (b.deep ≤ n ∨ StK ts k b) → lastsV ts (n + 1) k a b := by
 intro n
 induction n with
 | zero =>
  intro k a b ha hb hk h1 h2
  by_cases hne : a.out = b.out
  ·exact Or.inl hne
  cases hd : deepB a b with
  | false => exact Or.inr (Or.inl hd)
  | true =>
   refine Or.inr (Or.inr fun i hi y z hy hz => ?_)
   obtain ⟨m, e, _⟩ := part_fits hw ha hb hk hne hd h1 h2 hi hy hz
   cases e
 | succ n ih =>
  intro k a b ha hb hk h1 h2
  by_cases hne : a.out = b.out
  ·exact Or.inl hne
  cases hd : deepB a b with
  | false => exact Or.inr (Or.inl hd)
  | true =>
   refine Or.inr (Or.inr fun i hi y z hy hz => ?_)
   obtain ⟨m, e, f1, f2⟩ := part_fits hw ha hb hk hne hd h1 h2 hi hy hz
   obtain rfl : n = m := by omega
   have hi0 : 0 ≤ i := by
    unfold stepsV at hi
    split at hi
    ·obtain ⟨j, _, rfl⟩ := List.mem_map.1 hi; omega
    ·obtain ⟨j, _, rfl⟩ := List.mem_map.1 (List.mem_filter.1 hi).1; omega
   obtain ⟨y1, y2⟩ := stepV_ok hw ha hk hi0 (k' := y.1) (v' := y.2) hy
   obtain ⟨z1, z2⟩ := stepV_ok hw hb hk hi0 (k' := z.1) (v' := z.2) hz
   obtain ⟨k1, y', z', e1, e2⟩ := (deep_steps hw ha hb hk hd).1 i hi
   rw [e1] at hy
   rw [e2] at hz
   cases hy
   cases hz
   exact ih y1 z1 y2 f1 f2
end Go.E
namespace Go.E
set_option maxRecDepth 20000
set_option maxHeartbeats 2000000
open Go.Proofs
variable {G : Gh}
abbrev Mt := List UInt8 × List UInt8 × List UInt8
def mtF (m : Mt) : List Value := [S m.1, S m.2.1, S m.2.2]
instance : RowF mtF 3 := ⟨fun _ => rfl⟩
abbrev Ch := List UInt8 × List UInt8
def chF (c : Ch) : List Value := [S c.1, S c.2]
instance : RowF chF 2 := ⟨fun _ => rfl⟩
abbrev ChL (c : Ch) : Prop := c.1.length ≤ 1048576 ∧ c.2.length ≤ 1048576
open Go.ChangeShapes Go.WideShapes Go.ChangeAt Go.RowKit
theorem c_ValueOkS {s k w : List UInt8} (h : s.length ≤ 1048576 ∧ k.length ≤ 1048576 ∧ w.length ≤ 1048576) : PuG Try.prog 43 [S s, S k, S w] G (· = Bo (okV s k w)) := by
 unfold okV
 cases hg : givenV s k w with
 | none =>
  have cx_l40 := c_l4Of0 (G := G) h hg
  refine jB (Post := fun v G' L' => G' = G ∧ L' = [] ∧ _) [(0, _), (1, _), (2, _)] Try.func43 Try.ntmps43 fun B hok hB hW => ?_
  repeat' (first | (refine jR ?_) | (refine k_op rfl ?_; (refine c_fns rfl rfl rfl cx_l40 rfl ?_; rintro _ G hle ⟨uu, q1, rfl⟩; skip)))
  all_goals refine Nx.base hok hB ?_
  all_goals refine jZ (vs := [_]) rfl ⟨rfl, trivial⟩ rfl ⟨rfl, rfl, ?_⟩
  all_goals rfl
 | some u =>
  obtain ⟨ts, hs, hki, hvo, hto, hwf⟩ := given_some hg
  have cx_l4 := c_l4Of1 (G := G) h hs hki hvo
  refine jB (Post := fun v G' L' => G' = G ∧ L' = [] ∧ _) [(0, _), (1, _), (2, _)] Try.func43 Try.ntmps43 fun B hok hB hW => ?_
  repeat' (first | (refine jR ?_) | (refine k_op rfl ?_; (refine c_fns rfl rfl rfl cx_l4 rfl ?_; rintro _ G hle ⟨uu, q1, rfl, hyes⟩; skip)))
  all_goals refine Nx.base hok hB ?_
  all_goals refine jZ (vs := [_]) rfl ⟨rfl, trivial⟩ rfl ⟨rfl, rfl, ?_⟩
  all_goals rfl
def StepPI (ts : List Ty) (o : Option (List UInt8 × V)) (r : Value) (G' : Gh) : Prop := (o = none ∧ r = Tu [Ag [S [], S [], S []], zP, Bo false]) ∨ ∃ k' v' c', o = some (k', v') ∧ r = Tu [Ag (kdF k'), Ag (vcF c'), Bo true] ∧ V.rep G' v' c'
theorem StepPI.yes {f : FuncId} {args : List Value} {ts : List Ty} {o : Option (List UInt8 × V)} {k' : List UInt8} {v' : V} (h : FnS Try.prog f args G (StepPI ts o)) (e : o = some (k', v')) : FnS Try.prog f args G (fun r G' => ∃ c', r = Tu [Ag [S (sg k'), S (bs k'), S (nm k')], Ag (vcF c'), Bo true] ∧ V.rep G' v' c') := by
 refine h.mono ?_
 rintro v G' L' ⟨h1, h2, ⟨h3, _⟩ | ⟨k2, v2, b', h3, h4, h5⟩⟩
 ·rw [e] at h3; cases h3
 ·rw [e] at h3
  simp only [Option.some.injEq, Prod.mk.injEq] at h3
  obtain ⟨rfl, rfl⟩ := h3
  exact ⟨h1, h2, b', h4, h5⟩
def chgV (s k : List UInt8) : List UInt8 → List Ch → Option (List UInt8)
 | w, [] => some w
 | w, c :: r => match pathSetV s k w c.1 c.2 with
  | none => none
  | some t => chgV s k t r
def doV (s k w : List UInt8) (l : List Ch) : Option (List UInt8) := if okV s k w = true then chgV s k w l else none
end Go.E
namespace Go.E
set_option maxRecDepth 20000
set_option maxHeartbeats 2000000
open Go.Proofs
variable {ts : List Ty}
def sumN (g : Int → Nat) : List Int → Nat
 | [] => 0
 | i :: l => g i + sumN g l
theorem sumN_add (g h : Int → Nat) : ∀ l, sumN (fun i => g i + h i) l = sumN g l + sumN h l
 | [] => rfl
 | i :: l => by rw [sumN, sumN, sumN, sumN_add g h l]; omega
theorem sumN_zero {g : Int → Nat} : ∀ {l : List Int}, (∀ i ∈ l, g i = 0) → sumN g l = 0
 | [], _ => rfl
 | i :: l, h => by rw [sumN, h i (by simp), sumN_zero fun j hj => h j (by simp [hj])]
theorem sumN_one {t : Int} {w : Nat} : ∀ {l : List Int}, l.Pairwise (· < ·) → sumN (fun i => if t = i then w else 0) l ≤ w
 | [], _ => Nat.zero_le _
 | i :: l, h => by
  replace h := List.pairwise_cons.1 h
  rw [sumN]
  by_cases e : t = i
  ·rw [if_pos e, sumN_zero fun j hj => if_neg (by have := h.1 j hj; omega)]
   omega
  ·rw [if_neg e]
   have := sumN_one (t := t) (w := w) h.2
   omega
theorem sumN_app (g : Int → Nat) : ∀ a b, sumN g (a ++ b) = sumN g a + sumN g b
 | [], b => by rw [List.nil_append, sumN, Nat.zero_add]
 | i :: a, b => by rw [List.cons_append, sumN, sumN, sumN_app g a b]; omega
theorem flat_le {α : Type} {f : Int → List α} {g : Int → Nat} : ∀ {l : List Int}, (∀ i ∈ l, (f i).length ≤ g i) → (l.flatMap f).length ≤ sumN g l
 | [], _ => Nat.le_refl _
 | i :: l, h => by
  rw [List.flatMap_cons, List.length_append, sumN]
  have := h i (by simp)
  have := flat_le (l := l) fun j hj => h j (List.mem_cons_of_mem _ hj)
  omega
def wtV : List V → Int → Nat
 | [], _ => 0
 | v :: r, i => (if v.tag = i then v.tot else 0) + wtV r i
theorem wtV_sum : ∀ (vs : List V) {l : List Int}, l.Pairwise (· < ·) → sumN (wtV vs) l ≤ V.tots vs
 | [], l, _ => by rw [sumN_zero (g := wtV []) fun i _ => rfl]; exact Nat.zero_le _
 | v :: r, l, h => by
  have e : wtV (v :: r) = fun i => (if v.tag = i then v.tot else 0) + wtV r i := by funext i; rfl
  rw [e, sumN_add, V.tots]
  have := sumN_one (t := v.tag) (w := v.tot) h
  have := wtV_sum r h
  omega
theorem wtV_told {f : Fld} : ∀ {vs : List V} {u : V}, (∀ v ∈ vs, ∃ p : Fld × V, v = fldV p) → toldV f vs = some u → u.tot ≤ wtV vs f.tag
 | [], _, _, h => by cases h
 | v :: r, u, hp, h => by
  rw [toldV] at h
  rw [wtV]
  split at h
  ·rename_i e
   rw [if_pos e]
   obtain ⟨p, rfl⟩ := hp v (by simp)
   obtain rfl : p.2 = u := Option.some.inj h
   rw [nd_tot, V.tots, V.tots]
   omega
  ·have := wtV_told (fun v hv => hp v (by simp [hv])) h
   omega
theorem wtV_has {n : Int} : ∀ {vs : List V}, n ∈ vs.map V.tag → 1 ≤ wtV vs n
 | [], h => by cases h
 | v :: r, h => by
  rw [wtV]
  rcases List.mem_cons.1 h with h | h
  ·rw [if_pos h.symm]; have := tot_pos v; omega
  ·have := wtV_has (n := n) h; omega
theorem sum_range (ks : List V) : ∀ n, n ≤ ks.length → sumN (fun i => (nth ks i.toNat).tot) ((List.range n).map fun i : Nat => (i : Int)) = V.tots (ks.take n)
 | 0, _ => rfl
 | n + 1, h => by
  rw [List.range_succ, List.map_append, sumN_app, sum_range ks n (by omega), take_nth (by omega), tots_app]
  simp only [List.map_cons, List.map_nil, sumN, V.tots, Int.toNat_natCast]
theorem steps_200 {k : List UInt8} {a b : V} (ha : OfK ts k a) {i : Int} (h : i ∈ stepsV a b) : 0 ≤ i ∧ i ≤ 200 := by
 have hk : (a.what = 91 ∨ a.what = 63) → a.kids.length ≤ 20 := fun hwh => by
  cases ha with
  | num => rw [V.what] at hwh; omega
  | txt => rw [V.what] at hwh; omega
  | flg => rw [V.what] at hwh; omega
  | lst k ks h1 h2 => exact h1
  | non => exact Nat.zero_le _
  | opt => exact (by decide : (1 : Nat) ≤ 20)
  | recd => rw [V.what] at hwh; omega
  | enm => rw [V.what] at hwh; omega
  | uni => rw [V.what] at hwh; omega
 unfold stepsV at h
 split at h
 ·rename_i hwh
  obtain ⟨j, hj, rfl⟩ := List.mem_map.1 h
  have := List.mem_range.1 hj
  have := hk hwh
  omega
 ·obtain ⟨j, hj, rfl⟩ := List.mem_map.1 (List.mem_filter.1 h).1
  have := List.mem_range.1 hj
  omega
theorem diff_len (hw : SchW ts) : ∀ {n : Nat} {k : List UInt8} {a b : V} {q : List Int} {wa wb : Nat}, OfK ts k a → OfK ts k b → kindIn ts k = true → (a.tot ≤ wa ∨ StK ts k a) → (b.tot ≤ wb ∨ StK ts k b) → 1 ≤ wa + wb → (diffV ts n k a b q).length ≤ wa + wb
 | 0, _, _, _, _, _, _, _, _, _, _, _, _ => Nat.zero_le _
 | n + 1, k, a, b, q, wa, wb, ha, hb, hk, h1, h2, h3 => by
  rw [diffV]
  split
  ·exact Nat.zero_le _
  rename_i hne
  split
  case isFalse => exact h3
  rename_i hd
  obtain ⟨d1, _, _⟩ := deep_steps hw ha hb hk hd
  have go : ∀ (ga gb : Int → Nat), (∀ i ∈ stepsV a b, ∀ k1 y z, stepV ts k a i = some (k1, y) → stepV ts k b i = some (k1, z) → (y.tot ≤ ga i ∨ StK ts k1 y) ∧ (z.tot ≤ gb i ∨ StK ts k1 z) ∧ 1 ≤ ga i + gb i) → sumN ga (stepsV a b) ≤ wa → sumN gb (stepsV a b) ≤ wb →
    ((stepsV a b).flatMap fun i => match stepV ts k a i, stepV ts k b i with
     | some y, some z => diffV ts n y.1 y.2 z.2 (q ++ [i])
     | _, _ => []).length ≤ wa + wb := fun ga gb hg s1 s2 => by
   have := flat_le (l := stepsV a b) (g := fun i => ga i + gb i) (f := fun i => match stepV ts k a i, stepV ts k b i with
     | some y, some z => diffV ts n y.1 y.2 z.2 (q ++ [i])
     | _, _ => []) fun i hi => by
    obtain ⟨k1, y, z, e1, e2⟩ := d1 i hi
    have hi0 := (steps_200 ha hi).1
    obtain ⟨y1, y2⟩ := stepV_ok hw ha hk hi0 e1
    obtain ⟨z1, _⟩ := stepV_ok hw hb hk hi0 e2
    obtain ⟨g1, g2, g3⟩ := hg i hi k1 y z e1 e2
    rw [e1, e2]
    exact diff_len hw y1 z1 y2 g1 g2 g3
   rw [sumN_add] at this
   omega
  obtain ⟨c, r, rfl⟩ := kind_ne hk
  by_cases hc : c.toNat = 91 ∨ c.toNat = 63
  ·have hs : ∀ v m, stepV ts (c :: r) v m = if m < (v.kids.length : Nat) then some (r, nth v.kids m.toNat) else none := fun v m => by
    unfold stepV
    dsimp only
    rw [if_pos hc]
   have hw2 : ∀ v, OfK ts (c :: r) v → v.what = 91 ∨ v.what = 63 := fun v hv => by
    rcases ofK_inv_c hv (by omega) with ⟨g1, _⟩ | ⟨g1, _⟩ | ⟨g1, _⟩ | ⟨g1, ks, _, _, rfl⟩ | ⟨g1, rfl | ⟨w, _, rfl⟩⟩
    ·omega
    ·omega
    ·omega
    ·exact Or.inl rfl
    ·exact Or.inr rfl
    ·exact Or.inr rfl
   have wa2 := hw2 a ha
   have wb2 := hw2 b hb
   have hd2 := hd
   unfold deepB at hd2
   rw [if_neg (by omega), if_neg (by omega), if_pos wa2] at hd2
   have hl := of_decide_eq_true hd2
   have big : ∀ (v : V) (w : Nat), OfK ts (c :: r) v → (v.what = 91 ∨ v.what = 63) → 0 < v.kids.length → (v.tot ≤ w ∨ StK ts (c :: r) v) → V.tots v.kids ≤ w := fun v w hv hwv hk hh => by
    rcases hh with h | h
    ·obtain ⟨w1, x, t, ks⟩ := v
     rw [nd_tot] at h
     rw [V.kids]
     omega
    ·rw [stand_kids hw hv h (by omega)] at hk
     cases hk
   have e : stepsV a b = (List.range a.kids.length).map fun i : Nat => (i : Int) := by unfold stepsV; rw [if_pos wa2]
   refine go (fun i => (nth a.kids i.toNat).tot) (fun i => (nth b.kids i.toNat).tot) (fun i hi k1 y z e1 e2 => ?_) ?_ ?_
   ·rw [hs] at e1 e2
    split at e1
    ·split at e2
     ·cases e1
      cases e2
      have := tot_pos (nth a.kids i.toNat)
      exact ⟨Or.inl (Nat.le_refl _), Or.inl (Nat.le_refl _), by omega⟩
     ·cases e2
    ·cases e1
   ·rw [e, sum_range a.kids _ (Nat.le_refl _), List.take_length]
    exact big a wa ha wa2 hl.2 h1
   ·rw [e, sum_range b.kids _ (by omega), hl.1, List.take_length]
    exact big b wb hb wb2 (by omega) h2
  ·cases hr : refT ts (c :: r) with
   | none =>
    refine go (fun _ => 0) (fun _ => 0) (fun i hi k1 y z e1 e2 => ?_) ?_ ?_
    ·unfold stepV at e1
     dsimp only at e1
     rw [if_neg hc, hr] at e1
     cases e1
    ·rw [sumN_zero fun _ _ => rfl]; exact Nat.zero_le _
    ·rw [sumN_zero fun _ _ => rfl]; exact Nat.zero_le _
   | some t =>
    have ht := refT_mem hr
    have htw := hw.ty t ht
    rcases ofK_inv_t ha hr with ⟨a1, fs, rfl, a3, a4, a5, a6⟩ | ⟨a1, d, rfl, _⟩ | ⟨a1, a2, d, w, rfl, a4, a5⟩
    ·rcases ofK_inv_t hb hr with ⟨b1, gs, rfl, b3, b4, b5, b6⟩ | ⟨b1, _⟩ | ⟨b1, _⟩
     ·have hna : ¬ ((V.nd 82 [] 0 (fs.map fldV)).what = 91 ∨ (V.nd 82 [] 0 (fs.map fldV)).what = 63) := by rw [V.what]; omega
      have big : ∀ (hs : List (Fld × V)) (w : Nat), OfK ts (c :: r) (.nd 82 [] 0 (hs.map fldV)) → ((V.nd 82 [] 0 (hs.map fldV)).tot ≤ w ∨ StK ts (c :: r) (.nd 82 [] 0 (hs.map fldV))) → V.tots (hs.map fldV) ≤ w := fun hs w ho hh => by
       rcases hh with h | h
       ·rw [nd_tot] at h; omega
       ·have := stand_kids hw ho h (by rw [V.what]; decide)
        rw [V.kids] at this
        rw [this]
        exact Nat.zero_le _
      have told : ∀ (hs : List (Fld × V)) (f : Fld), f ∈ t.fields → (getV ts (.nd 82 [] 0 (hs.map fldV)) f).tot ≤ wtV (hs.map fldV) f.tag ∨ StK ts f.kind (getV ts (.nd 82 [] 0 (hs.map fldV)) f) := fun hs f hf => by
       unfold getV
       rw [V.kids]
       cases e : toldV f (hs.map fldV) with
       | none => exact Or.inr (standV_K hw ht (by omega) hf)
       | some u =>
        exact Or.inl (wtV_told (fun v hv => by obtain ⟨p, _, e⟩ := List.mem_map.1 hv; exact ⟨p, e.symm⟩) e)
      refine go (wtV (fs.map fldV)) (wtV (gs.map fldV)) (fun i hi k1 y z e1 e2 => ?_) (Nat.le_trans (wtV_sum _ (steps_lt _ _)) (big fs wa ha h1)) (Nat.le_trans (wtV_sum _ (steps_lt _ _)) (big gs wb hb h2))
      cases hf : fldT t.fields i with
      | none => rw [step_none hc hr hf] at e1; cases e1
      | some f =>
       have hfm := List.mem_of_find?_eq_some hf
       have hft : f.tag = i := by have := List.find?_some hf; simpa using this
       rw [step_rec hc hr hf a1] at e1 e2
       cases e1
       cases e2
       have t1 := told fs f hfm
       have t2 := told gs f hfm
       rw [hft] at t1 t2
       refine ⟨t1, t2, ?_⟩
       rcases steps_of hna hi with h | h
       ·have h : i ∈ (fs.map fldV).map V.tag := by
         unfold tagsV at h
         rw [V.what, if_pos rfl, V.kids] at h
         exact h
        have := wtV_has h
        omega
       ·have h : i ∈ (gs.map fldV).map V.tag := by
         unfold tagsV at h
         rw [V.what, if_pos rfl, V.kids] at h
         exact h
        have := wtV_has h
        omega
     ·omega
     ·omega
    ·unfold deepB at hd
     rw [V.what, if_neg (by decide), if_neg (by decide), if_neg (by decide)] at hd
     cases hd
    ·rcases ofK_inv_t hb hr with ⟨b1, _⟩ | ⟨b1, _⟩ | ⟨b1, b2, e, x, rfl, b4, b5⟩
     ·omega
     ·omega
     ·have hde : d.tag = e.tag := by
       unfold deepB at hd
       rw [V.what, if_neg (by decide), if_pos rfl] at hd
       exact of_decide_eq_true hd
      have hkid : ∀ (d : Fld) (w : V) (m : Nat), d ∈ t.fields → ((V.nd 85 [] d.tag [w]).tot ≤ m ∨ StK ts (c :: r) (.nd 85 [] d.tag [w])) → w.tot ≤ m ∨ StK ts d.kind w := fun d w m hd h => by
       rcases h with h | h | ⟨j, h⟩
       ·rw [nd_tot, V.tots, V.tots] at h; exact Or.inl (by omega)
       ·cases h
       ·obtain ⟨m, _, e2, e3, _⟩ := stn_uni hw hr a1 a2 hd h
        exact Or.inr (Or.inr ⟨m, by rw [e3, e2]; rfl⟩)
      refine go (fun i => if d.tag = i then wa else 0) (fun i => if e.tag = i then wb else 0) (fun i hi k1 y z e1 e2 => ?_) (sumN_one (steps_lt _ _)) (sumN_one (steps_lt _ _))
      have sel : ∀ (d : Fld) (w : V), d ∈ t.fields → ∀ q, stepV ts (c :: r) (.nd 85 [] d.tag [w]) i = some q → q = (d.kind, w) ∧ d.tag = i := fun d w hd q hq => by
       cases hf : fldT t.fields i with
       | none => rw [step_none hc hr hf] at hq; cases hq
       | some f =>
        have hfm := List.mem_of_find?_eq_some hf
        have hft : f.tag = i := by have := List.find?_some hf; simpa using this
        unfold stepV at hq
        dsimp only at hq
        rw [if_neg hc, hr] at hq
        dsimp only at hq
        rw [hf] at hq
        dsimp only at hq
        rw [if_neg a2, if_neg a1] at hq
        split at hq
        ·rename_i htg
         obtain rfl := fld_tag htw hfm hd (by rw [hft]; exact htg.symm)
         cases hq
         exact ⟨rfl, htg⟩
        ·cases hq
      obtain ⟨q1, q2⟩ := sel d w a4 _ e1
      obtain ⟨q3, q4⟩ := sel e x b4 _ e2
      cases q1
      injection q3 with q3 q5
      subst q5
      rw [if_pos q2, if_pos q4]
      refine ⟨hkid d w wa a4 h1, ?_, h3⟩
      rw [q3]
      exact hkid e z wb b4 h2
theorem diff_in (hw : SchW ts) : ∀ {n : Nat} {k : List UInt8} {a b : V} {q : List Int}, OfK ts k a → OfK ts k b → kindIn ts k = true → (a.deep ≤ 12 ∧ a.out.length ≤ 400) → (b.deep ≤ 12 ∧ b.out.length ≤ 400) → (∀ m ∈ q, 0 ≤ m ∧ m ≤ 999999) →
  ∀ c ∈ diffV ts n k a b q, (∀ m ∈ c.1, 0 ≤ m ∧ m ≤ 999999) ∧ c.1.length ≤ q.length + n ∧ c.2.out.length ≤ 400
 | 0, _, _, _, _, _, _, _, _, _, _, c, h => by cases h
 | n + 1, k, a, b, q, ha, hb, hk, fa, fb, hq, c, h => by
  rw [diffV] at h
  split at h
  ·cases h
  ·split at h
   ·rename_i hd
    obtain ⟨i, hi, hc⟩ := List.mem_flatMap.1 h
    obtain ⟨k1, y, z, e1, e2⟩ := (deep_steps hw ha hb hk hd).1 i hi
    have hi0 := steps_200 ha hi
    obtain ⟨y1, y2⟩ := stepV_ok hw ha hk hi0.1 e1
    obtain ⟨z1, _⟩ := stepV_ok hw hb hk hi0.1 e2
    have fy := stepV_fits hw ha hk hi0.1 e1 fa.1 fa.2
    have fz := stepV_fits hw hb hk hi0.1 e2 fb.1 fb.2
    rw [e1, e2] at hc
    have hm : ∀ m ∈ q ++ [i], 0 ≤ m ∧ m ≤ 999999 := fun m hm => by
     rcases List.mem_append.1 hm with hm | hm
     ·exact hq m hm
     ·rw [List.mem_singleton.1 hm]; omega
    obtain ⟨r1, r2, r3⟩ := diff_in hw y1 z1 y2 fy fz hm c hc
    refine ⟨r1, ?_, r3⟩
    rw [List.length_append, List.length_singleton] at r2
    omega
   ·rw [List.mem_singleton.1 h]
    exact ⟨hq, Nat.le_add_right _ _, fb.2⟩
def txtD (c : List Int × V) : Ch := (pathText c.1, c.2.out)
theorem given_is (hw : SchW ts) {s k : List UInt8} {v u : V} (h1 : schemaOf s = some ts) (hv : OfK ts k v) (h : givenV s k v.out = some u) : u = v := by
 obtain ⟨ts', g1, g2, g3, g4, g5⟩ := given_some h
 obtain rfl : ts = ts' := Option.some.inj (h1.symm.trans g1)
 exact out_inj hw (valOf_of_k g3) hv (valOf_out g3).1
theorem chg_done (hw : SchW ts) {s k : List UInt8} (h1 : schemaOf s = some ts) (hk : kindIn ts k = true) : ∀ {ds : List (List Int × V)} {v : V} {z : List UInt8}, OfK ts k v → okDs ts k v ds → (∀ d ∈ ds, ∀ m ∈ d.1, 0 ≤ m ∧ m ≤ 999999) → chgV s k v.out (ds.map txtD) = some z →
  z = (chAll ts k v ds).out ∧ ∀ d ∈ ds, d.1.length ≤ 8
 | [], v, z, _, _, _, e => by
  rw [List.map_nil, chgV] at e
  exact ⟨(Option.some.inj e).symm, fun d hd => by cases hd⟩
 | d :: r, v, z, hv, hd, hm, e => by
  rw [List.map_cons, chgV] at e
  cases hp : pathSetV s k v.out (txtD d).1 (txtD d).2 with
  | none => rw [hp] at e; cases e
  | some t =>
   rw [hp] at e
   dsimp only at e
   obtain ⟨ts', u, q, k1, v1, y, g1, g2, g3, g4, g5, g6, rfl⟩ := psv_some hp
   obtain rfl : ts = ts' := Option.some.inj (h1.symm.trans g1)
   obtain rfl := given_is hw h1 hv g2
   have hpo := pathOf_in (hm d (by simp))
   have g3' : pathOf (pathText d.1) = some q := g3
   rw [hpo] at g3'
   split at g3'
   ·rename_i h8
    obtain rfl : d.1 = q := Option.some.inj g3'
    obtain ⟨⟨⟨k', v', f1, f2⟩, f3⟩, f4⟩ := hd
    rw [g4] at f1
    cases f1
    have hy := rd_of _ _ _ _ g5
    have hyx := rd_out _ _ _ _ g5
    dsimp only at hy hyx
    rw [List.append_nil] at hyx
    obtain rfl := out_inj hw f2 hy hyx
    have := chg_done hw h1 hk (changeV_ok hw hv hk f3 g4 f2) f4 (fun x hx => hm x (by simp [hx])) e
    refine ⟨this.1, fun x hx => ?_⟩
    rcases List.mem_cons.1 hx with rfl | hx
    ·exact h8
    ·exact this.2 x hx
   ·cases g3'
def chgsV (ts : List Ty) (k : List UInt8) (a b : V) : List Ch := (diffV ts 13 k a b []).map txtD
def changesV (s k w t : List UInt8) : Option (List Ch) := match schemaOf s, givenV s k w, givenV s k t with
 | some ts, some a, some b => if (chgsV ts k a b).length ≤ 30 ∧ (doV s k w (chgsV ts k a b)).isSome = true then some (chgsV ts k a b) else none
 | _, _, _ => none
theorem chgs_done {s k w t : List UInt8} {a b : V} (h1 : schemaOf s = some ts) (ha : givenV s k w = some a) (hb : givenV s k t = some b) {z : List UInt8} (h : doV s k w (chgsV ts k a b) = some z) : z = t ∧ ∀ d ∈ diffV ts 13 k a b [], d.1.length ≤ 8 := by
 obtain ⟨ts', g1, g2, g3, g4, g5⟩ := given_some ha
 obtain rfl : ts = ts' := Option.some.inj (h1.symm.trans g1)
 obtain ⟨ts', i1, i2, i3, i4, i5⟩ := given_some hb
 obtain rfl : ts = ts' := Option.some.inj (h1.symm.trans i1)
 have hw := schemaOf_w h1
 have oa := valOf_of_k g3
 have ob := valOf_of_k i3
 obtain ⟨a1, a2, a3⟩ := valOf_out g3
 obtain ⟨b1, b2, b3⟩ := valOf_out i3
 have hl := lasts hw 12 oa ob g2 (Or.inl a3) (Or.inl b3)
 obtain ⟨e1, e2⟩ := diff_all hw oa ob g2 hl
 unfold doV at h
 split at h
 ·rw [← a1] at h
  have hin := diff_in (n := 13) (q := []) hw oa ob g2 ⟨a3, by rw [a1]; exact a2⟩ ⟨b3, by rw [b1]; exact b2⟩ (fun m hm => by cases hm)
  have := chg_done hw h1 g2 oa e1 (fun d hd => (hin d hd).1) h
  rw [e2, b1] at this
  exact this
 ·cases h
end Go.E
namespace Go.E
set_option maxRecDepth 20000
set_option maxHeartbeats 2000000
theorem path_one {n : Int} : pathText [n] = decI n := rfl
theorem path_snoc {q : List Int} {n : Int} (h : q ≠ []) : pathText q ++ [47] ++ decI n = pathText (q ++ [n]) := by
 rw [pathText_app h (by simp), path_one]; simp
theorem path_nil {q : List Int} : pathText q = [] ↔ q = [] := ⟨fun h => by
 cases q with
 | nil => rfl
 | cons n q => exact absurd h (pathText_ne (by simp)), fun h => by rw [h]; rfl⟩
theorem pathText_len : ∀ {q : List Int}, (∀ n ∈ q, 0 ≤ n ∧ n ≤ 999999) → (pathText q).length ≤ 7 * q.length
 | [], _ => by simp [pathText, joinB]
 | [n], h => by
  have := decI_6 (h n (by simp)).2
  rw [path_one]; simp only [List.length_cons, List.length_nil]; omega
 | n :: m :: q, h => by
  have h1 := decI_6 (h n (by simp)).2
  have h2 := pathText_len (q := m :: q) fun x hx => h x (by simp [List.mem_cons] at hx ⊢; exact .inr hx)
  rw [pathText_cons (by simp)]
  simp only [List.length_append, List.length_cons] at h2 ⊢
  omega
theorem snoc_in {q : List Int} {s : Int} (hq : ∀ n ∈ q, 0 ≤ n ∧ n ≤ 999999) (h : 0 ≤ s ∧ s ≤ 999999) : ∀ n ∈ q ++ [s], 0 ≤ n ∧ n ≤ 999999 := fun n hn => by
 rcases List.mem_append.1 hn with hn | hn
 ·exact hq n hn
 ·simp only [List.mem_singleton] at hn; subst hn; exact h
end Go.E
namespace Go.E
set_option maxRecDepth 20000
set_option maxHeartbeats 2000000
open Go.Proofs
section
variable {P : Program} {n : Nat} {D : List Deferred} {E : Env} {B : Base} {G : Gh} {L : List Own} {K : Act → World → Prop} {Q : Exit → Act → World → Prop} {ty : TypeId} {pos : String} {aft : Array Edge}
theorem c_accm {fo : Operand} {l : List Operand} {tys : Array TypeId} {d : Nat} {g : Option (Nat × Bool)} {f : FuncId} {fi ca az vs : List Value} {xs : List Value} {el : TypeId} {u : Value} {sz m : Nat} {R : List Own} {Post : Value → Gh → List Own → Prop}
  [ha2 : AccI L u el sz m xs R] (hf : ev E fo = some (.func (.func f) fi.toArray ca.toArray)) (ha : evs E l = some az) (hv : fi ++ az ++ ca = vs) (hc : FnM P f vs G [.acc u el sz m xs] Post) (hlt : Nat.blt d n = true)
  (k : ∀ v G' L', Gh.le G G' → Post v G' L' → Nx n D ((d, v) :: E) B G' (L' ++ R) K) : Nx n D E B G L (ow P ⟨some d, .call ⟨.value fo, l.toArray, tys⟩, ty, pos, aft, g⟩ Q K) :=
 c_call (Lp := [.acc u el sz m xs]) hf ha hv hc ha2.del.perm hlt fun v G' L' h => k v G' L' h.1 h.2
end
variable {G : Gh}
def tgsR (v : V) : List Int := if v.what = 82 then v.kids.map V.tag else if v.what = 85 ∨ v.what = 69 then [v.tag] else []
theorem repR_gen {ts : List Ty} {v : V} {k : List UInt8} {b : Nat} (h : RepR G ts v k b) : ∃ tx a1 c1 a2 c2, Seg G b 0 [S k, S tx, .slice a1 (tgsR v).length c1, .slice a2 v.kids.length c2] ∧ SlV G (.slice a1 (tgsR v).length c1) 1 (tgsR v).length (rows inR (tgsR v)) ∧
  (((∃ r, k = 64 :: r) ∧ ((v.what = 82 ∧ tx = [82]) ∨ (v.what = 85 ∧ tx = [85]) ∨ (v.what = 69 ∧ tx = [69]))) ∨ ((∃ r, k = 91 :: r) ∧ v.what = 91) ∨ ((∃ r, k = 63 :: r) ∧ v.what = 63) ∨ ((k = [110] ∨ k = [116] ∨ k = [102]) ∧ (v.what = 110 ∨ v.what = 116 ∨ v.what = 102))) := by
 have h0 : ∀ G, SlV G nilS 1 0 (rows inR []) := fun G => ⟨rfl, .inl ⟨rfl, rfl⟩⟩
 cases h with
 | leaf w x k tx b h1 h2 =>
  rcases h2 with ⟨rfl, rfl, _⟩ | ⟨rfl, rfl, _⟩ | ⟨rfl, rfl, _⟩
  ·exact ⟨tx, none, 0, none, 0, h1, h0 G, .inr (.inr (.inr ⟨.inl rfl, .inl rfl⟩))⟩
  ·exact ⟨tx, none, 0, none, 0, h1, h0 G, .inr (.inr (.inr ⟨.inr (.inl rfl), .inr (.inl rfl)⟩))⟩
  ·exact ⟨tx, none, 0, none, 0, h1, h0 G, .inr (.inr (.inr ⟨.inr (.inr rfl), .inr (.inr rfl)⟩))⟩
 | lst k b ks bs a c h1 h2 h3 hk => exact ⟨_, none, 0, a, c, h1, h0 G, .inr (.inl ⟨⟨_, rfl⟩, rfl⟩)⟩
 | non k b h1 => exact ⟨_, none, 0, none, 0, h1, h0 G, .inr (.inr (.inl ⟨⟨_, rfl⟩, rfl⟩))⟩
 | opt k b kb b' cc w h0' h1 h2 h3 => exact ⟨_, none, 0, _, _, h1, h0 G, .inr (.inr (.inl ⟨⟨_, rfl⟩, rfl⟩))⟩
 | recd k b t fs bs a a2 c c2 h0 h1 h2 h3 h4 h5 hk =>
  have e : tgsR (.nd 82 [] 0 (fs.map fun p => .nd 61 [] p.1.tag [p.2])) = fs.map fun p => p.1.tag := by
   unfold tgsR
   rw [V.what, if_pos rfl, V.kids, List.map_map]
   rfl
  rw [e, V.kids]
  refine ⟨[82], a, c, a2, c2, by rw [List.length_map, List.length_map]; exact h1, by rw [List.length_map]; exact h2, .inl ⟨refT_64 h0.1, .inl ⟨rfl, rfl⟩⟩⟩
 | enm k b tgb t d h0 h1 h2 h3 => exact ⟨[69], _, _, none, 0, h2, ⟨rfl, .inr ⟨tgb, 0, _, rfl, Nat.le_add_left _ _, h3⟩⟩, .inl ⟨refT_64 h0.1, .inr (.inr ⟨rfl, rfl⟩)⟩⟩
 | uni k b tgb kb b' cc t d w hcc h0 h1 h2 h3 h4 hk => exact ⟨[85], _, _, _, _, h2, ⟨rfl, .inr ⟨tgb, 0, _, rfl, Nat.le_add_left _ _, h3⟩⟩, .inl ⟨refT_64 h0.1, .inr (.inl ⟨rfl, rfl⟩)⟩⟩
theorem what_k {ts : List Ty} {k : List UInt8} {a b : V} (ha : OfK ts k a) (hb : OfK ts k b) : a.what = b.what := by
 cases hr : refT ts k with
 | some t =>
  rcases ofK_inv_t ha hr with ⟨a1, fs, rfl, _⟩ | ⟨a1, d, rfl, _⟩ | ⟨a1, a2, d, w, rfl, _⟩ <;> rcases ofK_inv_t hb hr with ⟨b1, gs, rfl, _⟩ | ⟨b1, e, rfl, _⟩ | ⟨b1, b2, e, x, rfl, _⟩ <;> (first | rfl | omega)
 | none =>
  cases ha with
  | recd _ t' fs g1 => rw [hr] at g1; cases g1
  | enm _ t' d g1 => rw [hr] at g1; cases g1
  | uni _ t' d v g1 => rw [hr] at g1; cases g1
  | num =>
   cases hb with
   | num => rfl
   | recd _ t' fs g1 => rw [hr] at g1; cases g1
   | enm _ t' d g1 => rw [hr] at g1; cases g1
   | uni _ t' d v g1 => rw [hr] at g1; cases g1
  | txt =>
   cases hb with
   | txt => rfl
   | recd _ t' fs g1 => rw [hr] at g1; cases g1
   | enm _ t' d g1 => rw [hr] at g1; cases g1
   | uni _ t' d v g1 => rw [hr] at g1; cases g1
  | flg =>
   cases hb with
   | flg => rfl
   | recd _ t' fs g1 => rw [hr] at g1; cases g1
   | enm _ t' d g1 => rw [hr] at g1; cases g1
   | uni _ t' d v g1 => rw [hr] at g1; cases g1
  | lst =>
   cases hb with
   | lst => rfl
   | recd _ t' fs g1 => rw [hr] at g1; cases g1
   | enm _ t' d g1 => rw [hr] at g1; cases g1
   | uni _ t' d v g1 => rw [hr] at g1; cases g1
  | non =>
   cases hb with
   | non => rfl
   | opt => rfl
   | recd _ t' fs g1 => rw [hr] at g1; cases g1
   | enm _ t' d g1 => rw [hr] at g1; cases g1
   | uni _ t' d v g1 => rw [hr] at g1; cases g1
  | opt =>
   cases hb with
   | non => rfl
   | opt => rfl
   | recd _ t' fs g1 => rw [hr] at g1; cases g1
   | enm _ t' d g1 => rw [hr] at g1; cases g1
   | uni _ t' d v g1 => rw [hr] at g1; cases g1
theorem c_l14Join {q : List Int} {n : Int} (hn : 0 ≤ n ∧ n ≤ 999999) (hl : (pathText q).length ≤ 100000) : PuG Try.prog 40 [S (pathText q), I n] G (· = S (pathText (q ++ [n]))) := by
 have hdl := decI_6 hn.2
 by_cases hq : q = []
 ·subst hq
  have hp : pathText [] = [] := rfl
  refine jE [(0, _), (1, _)] Try.func40 Try.ntmps40 fun B hB => ?_
  repeat' (first | (refine jR ?_) | (refine k_op rfl ?_; (refine c_rt rfl rfl rfl (c_l6Dec (by omega)) rfl ?_)) | (refine k_tt rfl rfl ?_))
  all_goals refine jZ (vs := [_]) rfl ⟨rfl, trivial⟩ rfl ⟨rfl, rfl, ?_⟩
  all_goals (rw [oneOf_one]; rfl)
 ·have hp : pathText q ≠ [] := fun h => hq (path_nil.1 h)
  refine jE [(0, _), (1, _)] Try.func40 Try.ntmps40 fun B hB => ?_
  repeat' (first | (refine run (t := tb) 400 rfl ?_ ?_; (focus (repeat' (first | exact trivial | apply And.intro | (simp only [List.length_append, List.length_cons, List.length_nil, Int.toNat_natCast]; omega))))) | (refine k_op rfl ?_; (refine c_rt rfl rfl rfl (c_l6Dec (by omega)) rfl ?_)) | (refine k_ff rfl (dFf ‹_›) ?_))
  all_goals refine jZ (vs := [_]) rfl ⟨rfl, trivial⟩ rfl ⟨rfl, rfl, ?_⟩
  all_goals (rw [oneOf_one, ← path_snoc hq])
theorem c_l14Deep {ts : List Ty} {k : List UInt8} {a b : V} {ba bb : Nat} (ha : RepR G ts a k ba) (hb : RepR G ts b k bb) (oa : OfK ts k a) (ob : OfK ts k b) : PuG Try.prog 37 [Pt ba 0, Pt bb 0] G (· = Bo (deepB a b)) := by
 have hwh := what_k oa ob
 obtain ⟨tx, a1, c1, a2, c2, hsa, hta, hca⟩ := repR_gen ha
 obtain ⟨ty, b1, d1, b2, d2, hsb, htb, hcb⟩ := repR_gen hb
 rcases hca with ⟨⟨r, rfl⟩, h⟩ | ⟨⟨r, rfl⟩, h⟩ | ⟨⟨r, rfl⟩, h⟩ | ⟨hk, h⟩
 ·have hk0 : bt (64 :: r) (Int.toNat 0) = 64 := bt_zero 64 r
  have hkl : (64 :: r).length = r.length + 1 := rfl
  rcases h with ⟨h, rfl⟩ | ⟨h, rfl⟩ | ⟨h, rfl⟩
  ·have e : deepB a b = true := by unfold deepB; rw [if_pos h]
   rw [e]
   refine jE [(0, _), (1, _)] Try.func37 Try.ntmps37 fun B hB => ?_
   repeat' (first | refine jM ?_ | (refine k_op rfl ?_; first | refine jV (g_ldS rfl rfl (by assumption) rfl rfl) ?_ | (refine jV (g_pickT rfl rfl rfl) ?_)) | (refine k_gt rfl rfl rfl ?_) | (refine k_tt rfl rfl ?_))
   all_goals refine jZ (vs := [_]) rfl ⟨rfl, trivial⟩ rfl ⟨rfl, rfl, ?_⟩
   all_goals rfl
  ·have e : deepB a b = decide (a.tag = b.tag) := by unfold deepB; rw [if_neg (by omega), if_pos h]
   have ea : tgsR a = [a.tag] := by unfold tgsR; rw [if_neg (by omega), if_pos (by omega)]
   have eb : tgsR b = [b.tag] := by unfold tgsR; rw [if_neg (by omega), if_pos (by omega)]
   rw [ea] at hta hsa
   rw [eb] at htb hsb
   obtain ⟨xb, xo, xc, e1, hxa⟩ := hta.expl (by simp)
   simp only [Value.slice.injEq] at e1
   obtain ⟨rfl, -, rfl⟩ := e1
   obtain ⟨yb, yo, yc, e1, hxb⟩ := htb.expl (by simp)
   simp only [Value.slice.injEq] at e1
   obtain ⟨rfl, -, rfl⟩ := e1
   have hla : ([a.tag]).length = 1 := rfl
   have hlb : ([b.tag]).length = 1 := rfl
   rw [hla] at hsa
   rw [hlb] at hsb
   have hxa : Seg G xb xo [I a.tag] := hxa
   have hxb : Seg G yb yo [I b.tag] := hxb
   rw [e]
   refine jE [(0, _), (1, _)] Try.func37 Try.ntmps37 fun B hB => ?_
   repeat' (first | refine jM ?_ | (refine k_op rfl ?_; first | refine jV (g_ldS rfl rfl (by assumption) rfl rfl) ?_ | (refine jV (g_pickT rfl rfl rfl) ?_)) | (refine k_gt rfl rfl rfl ?_) | (refine k_tt rfl rfl ?_) | (refine k_ff rfl rfl ?_) | (refine k_any (s_any (id := 4) _ (fun _ h => h) mixed ?_); refine jT 8 [0, 1, 2, 6, 7, 8] (bts 14 455) ?_; (refine jG (bts 14 463) 3 rfl (g_ldS rfl rfl (by assumption) rfl rfl) ?_); (refine jG (bts 14 479) 4 rfl (g_iaddr rfl rfl (by omega)) ?_); (refine jG (bts 14 511) 5 rfl (g_ldS rfl rfl (by assumption) rfl rfl) ?_); (refine jG (bts 14 1023) 9 rfl (g_ldS rfl rfl (by assumption) rfl rfl) ?_); (refine jG (bts 14 2047) 10 rfl (g_iaddr rfl rfl (by omega)) ?_); (refine jG (bts 14 4095) 11 rfl (g_ldS rfl rfl (by assumption) rfl rfl) ?_); refine jT 0 [12, 13] (bts 14 16383) ?_; refine x_done (by kernel_rfl) (k_bk ?_)))
   all_goals refine jZ (vs := [_]) rfl ⟨rfl, trivial⟩ rfl ⟨rfl, rfl, ?_⟩
   all_goals rfl
  ·have e : deepB a b = false := by unfold deepB; rw [if_neg (by omega), if_neg (by omega), if_neg (by omega)]
   rw [e]
   refine jE [(0, _), (1, _)] Try.func37 Try.ntmps37 fun B hB => ?_
   repeat' (first | refine jM ?_ | (refine k_op rfl ?_; first | refine jV (g_ldS rfl rfl (by assumption) rfl rfl) ?_ | (refine jV (g_pickT rfl rfl rfl) ?_) | (refine jV (g_pickF rfl rfl rfl) ?_)) | (refine k_gt rfl rfl rfl ?_) | (refine k_gf rfl rfl rfl ?_) | (refine k_ff rfl rfl ?_))
   all_goals refine jZ (vs := [_]) rfl ⟨rfl, trivial⟩ rfl ⟨rfl, rfl, ?_⟩
   all_goals rfl
 ·have hk0 : bt (91 :: r) (Int.toNat 0) = 91 := bt_zero 91 r
  have hkl : (91 :: r).length = r.length + 1 := rfl
  have e : deepB a b = decide (a.kids.length = b.kids.length ∧ 0 < a.kids.length) := by unfold deepB; rw [if_neg (by omega), if_neg (by omega), if_pos (by omega)]
  rw [e]
  clear e
  by_cases hl : a.kids.length = b.kids.length
  ·by_cases h0 : 0 < a.kids.length
   ·rw [decide_eq_true ⟨hl, h0⟩]
    refine jE [(0, _), (1, _)] Try.func37 Try.ntmps37 fun B hB => ?_
    repeat' (first | refine jM ?_ | (refine k_op rfl ?_; first | refine jV (g_ldS rfl rfl (by assumption) rfl rfl) ?_ | (refine jV (g_pickT rfl rfl rfl) ?_) | (refine jV (g_pickF rfl rfl rfl) ?_)) | (refine k_gt rfl rfl rfl ?_) | (refine k_gf rfl rfl rfl ?_) | (refine k_tt rfl rfl ?_) | (refine k_ff rfl rfl ?_) | (refine k_any (s_any (id := 6) _ (fun _ h => h) mixed ?_); refine jT 14 [0, 1, 2, 5, 6, 7] (bts 20 231) ?_; (refine jG (bts 20 239) 3 rfl (g_ldS rfl rfl (by assumption) rfl rfl) ?_); (refine jG (bts 20 255) 4 rfl (g_lenL rfl) ?_); (refine jG (bts 20 511) 8 rfl (g_ldS rfl rfl (by assumption) rfl rfl) ?_); (refine jG (bts 20 1023) 9 rfl (g_lenL rfl) ?_); refine jT 8 [10, 11] (bts 20 4095) ?_; (try ((refine Nx.re (d := 72) (v' := Bo true) rfl (congrArg Value.bool (dTt (by omega))) ?_))); refine jT 5 [12, 13, 14] (bts 20 32767) ?_; (refine jG (bts 20 65535) 15 rfl (g_ldS rfl rfl (by assumption) rfl rfl) ?_); (refine jG (bts 20 131071) 16 rfl (g_lenL rfl) ?_); refine jT 2 [17] (bts 20 262143) ?_; (refine jG (bts 20 524287) 18 rfl (g_pickT rfl rfl rfl) ?_); refine jT 0 [19] (bts 20 1048575) ?_; refine x_done (by kernel_rfl) (k_bk ?_)))
    all_goals refine jZ (vs := [_]) rfl ⟨rfl, trivial⟩ rfl ⟨rfl, rfl, ?_⟩
    all_goals (rw [oneOf_one]; simp_all; done)
   ·rw [decide_eq_false (fun h => h0 h.2)]
    refine jE [(0, _), (1, _)] Try.func37 Try.ntmps37 fun B hB => ?_
    repeat' (first | refine jM ?_ | (refine k_op rfl ?_; first | refine jV (g_ldS rfl rfl (by assumption) rfl rfl) ?_ | (refine jV (g_pickT rfl rfl rfl) ?_) | (refine jV (g_pickF rfl rfl rfl) ?_)) | (refine k_gt rfl rfl rfl ?_) | (refine k_gf rfl rfl rfl ?_) | (refine k_tt rfl rfl ?_) | (refine k_ff rfl rfl ?_) | (refine k_any (s_any (id := 6) _ (fun _ h => h) mixed ?_); refine jT 14 [0, 1, 2, 5, 6, 7] (bts 20 231) ?_; (refine jG (bts 20 239) 3 rfl (g_ldS rfl rfl (by assumption) rfl rfl) ?_); (refine jG (bts 20 255) 4 rfl (g_lenL rfl) ?_); (refine jG (bts 20 511) 8 rfl (g_ldS rfl rfl (by assumption) rfl rfl) ?_); (refine jG (bts 20 1023) 9 rfl (g_lenL rfl) ?_); refine jT 8 [10, 11] (bts 20 4095) ?_; (try ((refine Nx.re (d := 72) (v' := Bo true) rfl (congrArg Value.bool (dTt (by omega))) ?_))); refine jT 5 [12, 13, 14] (bts 20 32767) ?_; (refine jG (bts 20 65535) 15 rfl (g_ldS rfl rfl (by assumption) rfl rfl) ?_); (refine jG (bts 20 131071) 16 rfl (g_lenL rfl) ?_); refine jT 2 [17] (bts 20 262143) ?_; (refine jG (bts 20 524287) 18 rfl (g_pickT rfl rfl rfl) ?_); refine jT 0 [19] (bts 20 1048575) ?_; refine x_done (by kernel_rfl) (k_bk ?_)))
    all_goals refine jZ (vs := [_]) rfl ⟨rfl, trivial⟩ rfl ⟨rfl, rfl, ?_⟩
    all_goals (rw [oneOf_one]; simp_all; done)
  ·rw [decide_eq_false (fun h => hl h.1)]
   refine jE [(0, _), (1, _)] Try.func37 Try.ntmps37 fun B hB => ?_
   repeat' (first | refine jM ?_ | (refine k_op rfl ?_; first | refine jV (g_ldS rfl rfl (by assumption) rfl rfl) ?_ | (refine jV (g_pickT rfl rfl rfl) ?_) | (refine jV (g_pickF rfl rfl rfl) ?_)) | (refine k_gt rfl rfl rfl ?_) | (refine k_gf rfl rfl rfl ?_) | (refine k_tt rfl rfl ?_) | (refine k_ff rfl rfl ?_) | (refine k_any (s_any (id := 6) _ (fun _ h => h) mixed ?_); refine jT 14 [0, 1, 2, 5, 6, 7] (bts 20 231) ?_; (refine jG (bts 20 239) 3 rfl (g_ldS rfl rfl (by assumption) rfl rfl) ?_); (refine jG (bts 20 255) 4 rfl (g_lenL rfl) ?_); (refine jG (bts 20 511) 8 rfl (g_ldS rfl rfl (by assumption) rfl rfl) ?_); (refine jG (bts 20 1023) 9 rfl (g_lenL rfl) ?_); refine jT 8 [10, 11] (bts 20 4095) ?_; (try ((refine Nx.re (d := 72) (v' := Bo false) rfl (congrArg Value.bool (dFf (by omega))) ?_))); refine jT 5 [12, 13, 14] (bts 20 32767) ?_; (refine jN (bts 20 65535) 15 rfl ?_); (refine jN (bts 20 131071) 16 rfl ?_); refine jT 2 [17] (bts 20 262143) ?_; (refine jG (bts 20 524287) 18 rfl (g_pickF rfl rfl rfl) ?_); refine jT 0 [19] (bts 20 1048575) ?_; refine x_done (by kernel_rfl) (k_bk ?_)))
   all_goals refine jZ (vs := [_]) rfl ⟨rfl, trivial⟩ rfl ⟨rfl, rfl, ?_⟩
   all_goals (rfl)
 ·have hk0 : bt (63 :: r) (Int.toNat 0) = 63 := bt_zero 63 r
  have hkl : (63 :: r).length = r.length + 1 := rfl
  have e : deepB a b = decide (a.kids.length = b.kids.length ∧ 0 < a.kids.length) := by unfold deepB; rw [if_neg (by omega), if_neg (by omega), if_pos (by omega)]
  rw [e]
  clear e
  by_cases hl : a.kids.length = b.kids.length
  ·by_cases h0 : 0 < a.kids.length
   ·rw [decide_eq_true ⟨hl, h0⟩]
    refine jE [(0, _), (1, _)] Try.func37 Try.ntmps37 fun B hB => ?_
    repeat' (first | refine jM ?_ | (refine k_op rfl ?_; first | refine jV (g_ldS rfl rfl (by assumption) rfl rfl) ?_ | (refine jV (g_pickF rfl rfl rfl) ?_)) | (refine k_gf rfl rfl rfl ?_) | (refine k_tt rfl rfl ?_) | (refine k_ff rfl rfl ?_) | (refine k_any (s_any (id := 6) _ (fun _ h => h) mixed ?_); refine jT 14 [0, 1, 2, 5, 6, 7] (bts 20 231) ?_; (refine jG (bts 20 239) 3 rfl (g_ldS rfl rfl (by assumption) rfl rfl) ?_); (refine jG (bts 20 255) 4 rfl (g_lenL rfl) ?_); (refine jG (bts 20 511) 8 rfl (g_ldS rfl rfl (by assumption) rfl rfl) ?_); (refine jG (bts 20 1023) 9 rfl (g_lenL rfl) ?_); refine jT 8 [10, 11] (bts 20 4095) ?_; (try ((refine Nx.re (d := 72) (v' := Bo true) rfl (congrArg Value.bool (dTt (by omega))) ?_))); refine jT 5 [12, 13, 14] (bts 20 32767) ?_; (refine jG (bts 20 65535) 15 rfl (g_ldS rfl rfl (by assumption) rfl rfl) ?_); (refine jG (bts 20 131071) 16 rfl (g_lenL rfl) ?_); refine jT 2 [17] (bts 20 262143) ?_; (refine jG (bts 20 524287) 18 rfl (g_pickT rfl rfl rfl) ?_); refine jT 0 [19] (bts 20 1048575) ?_; refine x_done (by kernel_rfl) (k_bk ?_)))
    all_goals refine jZ (vs := [_]) rfl ⟨rfl, trivial⟩ rfl ⟨rfl, rfl, ?_⟩
    all_goals (rw [oneOf_one]; simp_all; done)
   ·rw [decide_eq_false (fun h => h0 h.2)]
    refine jE [(0, _), (1, _)] Try.func37 Try.ntmps37 fun B hB => ?_
    repeat' (first | refine jM ?_ | (refine k_op rfl ?_; first | refine jV (g_ldS rfl rfl (by assumption) rfl rfl) ?_ | (refine jV (g_pickF rfl rfl rfl) ?_)) | (refine k_gf rfl rfl rfl ?_) | (refine k_tt rfl rfl ?_) | (refine k_ff rfl rfl ?_) | (refine k_any (s_any (id := 6) _ (fun _ h => h) mixed ?_); refine jT 14 [0, 1, 2, 5, 6, 7] (bts 20 231) ?_; (refine jG (bts 20 239) 3 rfl (g_ldS rfl rfl (by assumption) rfl rfl) ?_); (refine jG (bts 20 255) 4 rfl (g_lenL rfl) ?_); (refine jG (bts 20 511) 8 rfl (g_ldS rfl rfl (by assumption) rfl rfl) ?_); (refine jG (bts 20 1023) 9 rfl (g_lenL rfl) ?_); refine jT 8 [10, 11] (bts 20 4095) ?_; (try ((refine Nx.re (d := 72) (v' := Bo true) rfl (congrArg Value.bool (dTt (by omega))) ?_))); refine jT 5 [12, 13, 14] (bts 20 32767) ?_; (refine jG (bts 20 65535) 15 rfl (g_ldS rfl rfl (by assumption) rfl rfl) ?_); (refine jG (bts 20 131071) 16 rfl (g_lenL rfl) ?_); refine jT 2 [17] (bts 20 262143) ?_; (refine jG (bts 20 524287) 18 rfl (g_pickT rfl rfl rfl) ?_); refine jT 0 [19] (bts 20 1048575) ?_; refine x_done (by kernel_rfl) (k_bk ?_)))
    all_goals refine jZ (vs := [_]) rfl ⟨rfl, trivial⟩ rfl ⟨rfl, rfl, ?_⟩
    all_goals (rw [oneOf_one]; simp_all; done)
  ·rw [decide_eq_false (fun h => hl h.1)]
   refine jE [(0, _), (1, _)] Try.func37 Try.ntmps37 fun B hB => ?_
   repeat' (first | refine jM ?_ | (refine k_op rfl ?_; first | refine jV (g_ldS rfl rfl (by assumption) rfl rfl) ?_ | (refine jV (g_pickF rfl rfl rfl) ?_)) | (refine k_gf rfl rfl rfl ?_) | (refine k_tt rfl rfl ?_) | (refine k_ff rfl rfl ?_) | (refine k_any (s_any (id := 6) _ (fun _ h => h) mixed ?_); refine jT 14 [0, 1, 2, 5, 6, 7] (bts 20 231) ?_; (refine jG (bts 20 239) 3 rfl (g_ldS rfl rfl (by assumption) rfl rfl) ?_); (refine jG (bts 20 255) 4 rfl (g_lenL rfl) ?_); (refine jG (bts 20 511) 8 rfl (g_ldS rfl rfl (by assumption) rfl rfl) ?_); (refine jG (bts 20 1023) 9 rfl (g_lenL rfl) ?_); refine jT 8 [10, 11] (bts 20 4095) ?_; (try ((refine Nx.re (d := 72) (v' := Bo false) rfl (congrArg Value.bool (dFf (by omega))) ?_))); refine jT 5 [12, 13, 14] (bts 20 32767) ?_; (refine jN (bts 20 65535) 15 rfl ?_); (refine jN (bts 20 131071) 16 rfl ?_); refine jT 2 [17] (bts 20 262143) ?_; (refine jG (bts 20 524287) 18 rfl (g_pickF rfl rfl rfl) ?_); refine jT 0 [19] (bts 20 1048575) ?_; refine x_done (by kernel_rfl) (k_bk ?_)))
   all_goals refine jZ (vs := [_]) rfl ⟨rfl, trivial⟩ rfl ⟨rfl, rfl, ?_⟩
   all_goals (rfl)
 ·have e : deepB a b = false := by unfold deepB; rw [if_neg (by omega), if_neg (by omega), if_neg (by omega)]
  rw [e]
  rcases hk with rfl | rfl | rfl
  all_goals
   refine jE [(0, _), (1, _)] Try.func37 Try.ntmps37 fun B hB => ?_
   repeat' (first | (refine run (t := tb) 400 rfl ?_ ?_; (focus (repeat' (first | exact trivial | apply And.intro | omega | (simp only [List.length_append, List.length_cons, List.length_nil, Int.toNat_natCast]; omega))))) | (refine k_op rfl ?_; first | refine jV (g_ldS rfl rfl (by assumption) rfl rfl) ?_ | (refine jV (g_pickF rfl rfl rfl) ?_)) | (refine k_gf rfl rfl rfl ?_) | (refine k_ff rfl rfl ?_))
   all_goals refine jZ (vs := [_]) rfl ⟨rfl, trivial⟩ rfl ⟨rfl, rfl, ?_⟩
   all_goals rfl
end Go.E
