/- Contracts and plain laws that the statement rests on, part 8. Conditions: as each says. -/
import Derived.Test.YtladnpnemcdngaaGreatDoorZ7
set_option linter.unusedVariables false
set_option linter.unusedSimpArgs false
/-! Xg -/
namespace Go.E
set_option maxRecDepth 20000
set_option maxHeartbeats 2000000
open Go.Proofs
variable {G : Gh}
theorem rd_nil {ts : List Ty} {n : Nat} {k : List UInt8} : rd ts n k [] = none := by
  cases h : rd ts n k [] with
  | none => rfl
  | some x => have := rd_short h; simp at this
theorem c_read0 {n : Nat} {u : Value} {vs : List TyX} {k s : List UInt8} (hc : s = [] ∨ n = 0) (hn : n ≤ 1000) : FnS Tryz.prog 11 [Ag [u], S s, S k, I (n : Nat)] G (ReadP (tys vs) (rd (tys vs) n k s) k) := by
  have hno : rd (tys vs) n k s = none := by
    rcases hc with rfl | rfl
    · exact rd_nil
    · rfl
  by_cases hs : s = []
  · refine b_enter [(0, _), (1, _), (2, _), (3, _)] Tryz.func11 (by kernel_rfl) Tryz.ntmps11 rfl rfl (by repeat (first | exact trivial | refine ⟨rfl, ?_⟩)) fun B hok hB hW => ?_
    repeat' (first | (refine run (t := tb) 400 rfl ?_ ?_; (focus (repeat' ((exact trivial))))) | (refine k_op rfl ?_; first | refine c_bx rfl rfl rfl fun _ => ?_ | (refine v_op (g_pickT rfl rfl ?_) rfl rfl ?_; (focus (((rfl)); done)))) | (refine k_gt rfl rfl ?_ ?_; (focus (((refine decide_eq_true ?_; (assumption))); done))) | (refine k_tt rfl ?_ ?_; (focus (((rfl)); done))))
    refine k_rr (vs := [_, _, _]) rfl ⟨rfl, rfl, rfl, trivial⟩ rfl (List.nil_sublist _) ⟨Gh.le.refl _, rfl, ?_⟩
    rw [oneOf_three]
    exact ⟨_, _, _, rfl, fun h => (by cases h), fun _ => hno⟩
  · have hn0 : n = 0 := by
      rcases hc with h | h
      · exact absurd h hs
      · exact h
    refine b_enter [(0, _), (1, _), (2, _), (3, _)] Tryz.func11 (by kernel_rfl) Tryz.ntmps11 rfl rfl (by repeat (first | exact trivial | refine ⟨rfl, ?_⟩)) fun B hok hB hW => ?_
    repeat' (first | (refine run (t := tb) 400 rfl ?_ ?_; (focus (repeat' ((exact trivial))))) | (refine k_op rfl ?_; first | refine c_bx rfl rfl rfl fun _ => ?_ | (refine v_op (g_pickF rfl rfl ?_) rfl rfl ?_; (focus (((rfl)); done)))) | (refine k_gf rfl rfl ?_ ?_; (focus (((refine decide_eq_false ?_; (assumption))); done))) | (refine k_tt rfl ?_ ?_; (focus (((refine decide_eq_true ?_; (omega))); done))))
    refine k_rr (vs := [_, _, _]) rfl ⟨rfl, rfl, rfl, trivial⟩ rfl (List.nil_sublist _) ⟨Gh.le.refl _, rfl, ?_⟩
    rw [oneOf_three]
    exact ⟨_, _, _, rfl, fun h => (by cases h), fun _ => hno⟩
theorem c_readL {n : Nat} {u : Value} {vs : List TyX} {k s : List UInt8} {e : UInt8} (hR : ReadC n u vs) (h : SchR G u vs) (hk : kindIn (tys vs) (91 :: k) = true) (hs : s.length ≤ 999) (hn : n ≤ 999) :
    FnS Tryz.prog 11 [Ag [u], S (e :: s), S (91 :: k), I (n + 1 : Nat)] G (ReadP (tys vs) (rd (tys vs) (n + 1) (91 :: k) (e :: s)) (91 :: k)) := by
  have hrd : rd (tys vs) (n + 1) (91 :: k) (e :: s) = rdList (rd (tys vs) n k) (e :: s) := by rw [rd]; exact rdK_list rfl
  have he0 : bt (e :: s) (Int.toNat 0) = e.toNat := bt_zero e s
  have hel : (e :: s).length = s.length + 1 := rfl
  have hk0 : bt (91 :: k) (Int.toNat 0) = 91 := bt_zero 91 k
  have hkl2 : (91 :: k).length = k.length + 1 := rfl
  by_cases h91 : e.toNat = 91
  · obtain rfl := u8_eq h91 (by decide)
    have cx_ls := c_listS (s := s) hR h (kindIn_tail (.inl rfl) hk) (by omega) (by omega)
    refine b_enter [(0, _), (1, _), (2, _), (3, _)] Tryz.func11 (by kernel_rfl) Tryz.ntmps11 rfl rfl (by repeat (first | exact trivial | refine ⟨rfl, ?_⟩)) fun B hok hB hW => ?_
    repeat' (first | (refine run (t := tb) 400 rfl ?_ ?_; (focus (repeat' (first | exact trivial | apply And.intro | omega)))) | (refine k_op rfl ?_; first | refine c_bx rfl rfl rfl fun _ => ?_ | (refine v_op (g_pickF rfl rfl ?_) rfl rfl ?_; (focus (((rfl)); done)))) | (refine k_gf rfl rfl ?_ ?_; (focus (((rfl)); done))) | (refine k_tt rfl ?_ ?_; (focus (((rfl)); done))) | (refine k_ff rfl ?_ ?_; (focus (((rfl)); done))) | (refine k_any (s_any (id := 7) _ (fun _ h => h) mixed ?_); refine x_tks (t := tb) (fuel := 8) [1, 2, 3, 4] (bts 12 30) (by kernel_rfl) (by kernel_rfl) rfl rfl (by (exact Gh.le.refl _)) (by repeat ((exact List.Sublist.refl _))) ?_ ?_; (focus (repeat' (first | exact trivial | apply And.intro | omega))); ((refine (x_tkg (bts 12 31) 0 rfl (by kernel_rfl) rfl (by (exact Gh.le.refl _)) (by repeat ((exact List.Sublist.refl _)))) (g_ldA rfl rfl rfl rfl) rfl rfl ?_)); refine x_all [5] (by kernel_rfl) (by decide) ⟨?_, trivial⟩; refine x_opg rfl rfl ?_; ((refine c_fns rfl rfl rfl cx_ls rfl ?_; rintro _ G hle ⟨q1, r1, ok1, rfl, hyes, hno⟩; skip)); refine x_ks (by (assumption)) (by repeat ((exact List.Sublist.refl _))) (listed' := (bts 12 63)) (by kernel_rfl) ?_; refine x_tks (t := tb) (fuel := 0) [6, 7, 8, 9, 10, 11] (bts 12 4095) (by kernel_rfl) (by kernel_rfl) rfl rfl (by (exact Gh.le.refl _)) (by repeat ((exact List.Sublist.refl _))) ?_ ?_; (focus (repeat' ((exact trivial)))); refine x_done (by kernel_rfl) (k_bk ?_)))
    refine k_rr (vs := [_, _, _]) rfl ⟨rfl, rfl, rfl, trivial⟩ rfl (List.nil_sublist _) ⟨hle, rfl, ?_⟩
    rw [oneOf_three, hrd]
    exact ⟨_, _, _, rfl, hyes, hno⟩
  · have hno : rdList (rd (tys vs) n k) (e :: s) = none := by unfold rdList; dsimp only; rw [if_neg h91]
    refine b_enter [(0, _), (1, _), (2, _), (3, _)] Tryz.func11 (by kernel_rfl) Tryz.ntmps11 rfl rfl (by repeat (first | exact trivial | refine ⟨rfl, ?_⟩)) fun B hok hB hW => ?_
    repeat' (first | (refine run (t := tb) 400 rfl ?_ ?_; (focus (repeat' (first | exact trivial | apply And.intro | omega)))) | (refine k_op rfl ?_; first | refine c_bx rfl rfl rfl fun _ => ?_ | (refine v_op (g_pickF rfl rfl ?_) rfl rfl ?_; (focus (((rfl)); done)))) | (refine k_gf rfl rfl ?_ ?_; (focus (((rfl)); done))) | (refine k_tt rfl ?_ ?_; (focus ((first | rfl | (refine decide_eq_true ?_; (omega))); done))) | (refine k_ff rfl ?_ ?_; (focus (((rfl)); done))))
    refine k_rr (vs := [_, _, _]) rfl ⟨rfl, rfl, rfl, trivial⟩ rfl (List.nil_sublist _) ⟨Gh.le.refl _, rfl, ?_⟩
    rw [oneOf_three, hrd]
    exact ⟨_, _, _, rfl, fun h => (by cases h), fun _ => hno⟩
theorem c_readO {n : Nat} {u : Value} {vs : List TyX} {k s : List UInt8} {e : UInt8} (hR : ReadC n u vs) (h : SchR G u vs) (hk : kindIn (tys vs) (63 :: k) = true) (hs : s.length ≤ 999) (hn : n ≤ 999) :
    FnS Tryz.prog 11 [Ag [u], S (e :: s), S (63 :: k), I (n + 1 : Nat)] G (ReadP (tys vs) (rd (tys vs) (n + 1) (63 :: k) (e :: s)) (63 :: k)) := by
  have edn : ((n + 1 : Nat) : Int) - 1 = (n : Nat) := by omega
  have hrd : rd (tys vs) (n + 1) (63 :: k) (e :: s) = if e.toNat = 45 then some (.nd 63 [] 0 [], s) else if e.toNat = 43 then (rd (tys vs) n k s).map fun x => (.nd 63 [] 0 [x.1], x.2) else none := by
    rw [rd]; unfold rdK
    dsimp only
    rw [if_neg (show ¬ (63 : UInt8).toNat = 91 by decide), if_pos (show (63 : UInt8).toNat = 63 from rfl)]
  have he0 : bt (e :: s) (Int.toNat 0) = e.toNat := bt_zero e s
  have hel : (e :: s).length = s.length + 1 := rfl
  have hk0 : bt (63 :: k) (Int.toNat 0) = 63 := bt_zero 63 k
  have hkl2 : (63 :: k).length = k.length + 1 := rfl
  rw [hrd]
  by_cases h45 : e.toNat = 45
  · rw [if_pos h45]
    refine b_enter [(0, _), (1, _), (2, _), (3, _)] Tryz.func11 (by kernel_rfl) Tryz.ntmps11 rfl rfl (by repeat (first | exact trivial | refine ⟨rfl, ?_⟩)) fun B hok hB hW => ?_
    repeat' (first | (refine run (t := tb) 400 rfl ?_ ?_; (focus (repeat' (first | exact trivial | apply And.intro | omega)))) | (refine k_op rfl ?_; first | refine c_bx rfl rfl rfl fun _ => ?_ | (refine v_op (g_pickF rfl rfl ?_) rfl rfl ?_; (focus (((rfl)); done)))) | (refine k_gf rfl rfl ?_ ?_; (focus (((rfl)); done))) | (refine k_tt rfl ?_ ?_; (focus ((first | rfl | (refine decide_eq_true ?_; (omega))); done))) | (refine k_ff rfl ?_ ?_; (focus (((rfl)); done))) | (refine k_any (s_any (id := 10) _ (fun _ h => h) mixed ?_); refine x_tks (t := tb) (fuel := 5) [0, 3, 4] (bts 8 25) (by kernel_rfl) (by kernel_rfl) rfl rfl (by (exact Gh.le.refl _)) (by repeat ((exact List.Sublist.refl _))) ?_ ?_; (focus (repeat' (first | exact trivial | apply And.intro | omega))); ((refine (x_tkg (bts 8 27) 1 rfl (by kernel_rfl) rfl (by (exact Gh.le.refl _)) (by repeat ((exact List.Sublist.refl _)))) (g_bld rfl rfl) rfl rfl ?_)); refine x_all [2] (by kernel_rfl) (by decide) ⟨?_, trivial⟩; refine x_opg rfl rfl ?_; ((refine c_bx rfl rfl rfl fun _ => ?_)); refine x_ks (by (exact Gh.le.refl _)) (by repeat (first | exact List.Sublist.refl _ | apply List.Sublist.cons)) (listed' := (bts 8 31)) (by kernel_rfl) ?_; refine x_tks (t := tb) (fuel := 0) [5, 6, 7] (bts 8 255) (by kernel_rfl) (by kernel_rfl) rfl rfl (by (exact Gh.le.refl _)) (by repeat ((exact List.Sublist.refl _))) ?_ ?_; (focus (repeat' ((exact trivial)))); refine x_done (by kernel_rfl) (k_bk ?_)))
    rename_i y
    refine Nx.sealC (b := y) fun G2 hG2 hsy => ?_
    refine k_rr (vs := [_, _, _]) rfl ⟨rfl, rfl, rfl, trivial⟩ rfl (List.nil_sublist _) ⟨hG2, rfl, ?_⟩
    rw [oneOf_three]
    exact ⟨_, _, _, rfl, fun _ => ⟨_, y, rfl, rfl, .non k y hsy⟩, fun h => (by cases h)⟩
  rw [if_neg h45]
  by_cases h43 : e.toNat = 43
  · rw [if_pos h43]
    have cx_rd := hR G k s h (kindIn_tail (.inr rfl) hk) (by omega)
    rw [← edn] at cx_rd
    refine b_enter [(0, _), (1, _), (2, _), (3, _)] Tryz.func11 (by kernel_rfl) Tryz.ntmps11 rfl rfl (by repeat (first | exact trivial | refine ⟨rfl, ?_⟩)) fun B hok hB hW => ?_
    repeat' (first | (refine run (t := tb) 400 rfl ?_ ?_; (focus (repeat' (first | exact trivial | apply And.intro | omega)))) | (refine k_op rfl ?_; first | refine c_bx rfl rfl rfl fun _ => ?_ | (refine v_op (g_pickF rfl rfl ?_) rfl rfl ?_; (focus (((rfl)); done))) | refine v_op (g_bld rfl rfl) rfl rfl ?_ | refine c_bsl rfl rfl rfl rfl rfl rfl fun _ => ?_) | (refine k_gf rfl rfl ?_ ?_; (focus (((rfl)); done))) | (refine k_tt rfl ?_ ?_; (focus (((rfl)); done))) | (refine k_ff rfl ?_ ?_; (focus ((first | rfl | (refine decide_eq_false ?_; (omega))); done))) | (refine k_any (s_any (id := 13) _ (fun _ h => h) mixed ?_); refine x_tks (t := tb) (fuel := 9) [1, 2, 3, 4, 5, 6] (bts 15 126) (by kernel_rfl) (by kernel_rfl) rfl rfl (by (exact Gh.le.refl _)) (by repeat ((exact List.Sublist.refl _))) ?_ ?_; (focus (repeat' (first | exact trivial | apply And.intro | omega))); ((refine (x_tkg (bts 15 127) 0 rfl (by kernel_rfl) rfl (by (exact Gh.le.refl _)) (by repeat ((exact List.Sublist.refl _)))) (g_ldA rfl rfl rfl rfl) rfl rfl ?_)); refine x_all [7] (by kernel_rfl) (by decide) ⟨?_, trivial⟩; refine x_opg rfl rfl ?_; ((refine c_fns rfl rfl rfl cx_rd rfl ?_; rintro _ G hle ⟨q1, r1, ok1, rfl, hyes, hno⟩; skip)); refine x_ks (by (assumption)) (by repeat ((exact List.Sublist.refl _))) (listed' := (bts 15 255)) (by kernel_rfl) ?_; refine x_tks (t := tb) (fuel := 0) [8, 9, 10, 11, 12, 13, 14] (bts 15 32767) (by kernel_rfl) (by kernel_rfl) rfl rfl (by (exact Gh.le.refl _)) (by repeat ((exact List.Sublist.refl _))) ?_ ?_; (focus (repeat' ((exact trivial)))); refine x_done (by kernel_rfl) (k_bk ?_)))
    rename_i y1 y8
    refine Nx.sealC (b := y1) fun G2 hG2 hs1 => ?_
    refine Nx.sealC (b := y8) fun G3 hG3 hsg => ?_
    refine k_rr (vs := [_, _, _]) rfl ⟨rfl, rfl, rfl, trivial⟩ rfl (List.nil_sublist _) ⟨((hle.trans hG2).trans hG3), rfl, ?_⟩
    rw [oneOf_three]
    refine ⟨_, _, _, rfl, fun hb => ?_, fun hb => by rw [hno hb]; rfl⟩
    obtain ⟨w, wb, rfl, hf, hrep⟩ := hyes hb
    exact ⟨.nd 63 [] 0 [w], y8, rfl, by rw [hf]; rfl, .opt k y8 y1 wb w hsg (hs1.mono hG3) (hrep.mono (hG2.trans hG3))⟩
  · rw [if_neg h43]
    refine b_enter [(0, _), (1, _), (2, _), (3, _)] Tryz.func11 (by kernel_rfl) Tryz.ntmps11 rfl rfl (by repeat (first | exact trivial | refine ⟨rfl, ?_⟩)) fun B hok hB hW => ?_
    repeat' (first | (refine run (t := tb) 400 rfl ?_ ?_; (focus (repeat' (first | exact trivial | apply And.intro | omega)))) | (refine k_op rfl ?_; first | refine c_bx rfl rfl rfl fun _ => ?_ | (refine v_op (g_pickF rfl rfl ?_) rfl rfl ?_; (focus (((rfl)); done)))) | (refine k_gf rfl rfl ?_ ?_; (focus (((rfl)); done))) | (refine k_tt rfl ?_ ?_; (focus ((first | rfl | (refine decide_eq_true ?_; (omega))); done))) | (refine k_ff rfl ?_ ?_; (focus ((first | rfl | (refine decide_eq_false ?_; (omega))); done))))
    refine k_rr (vs := [_, _, _]) rfl ⟨rfl, rfl, rfl, trivial⟩ rfl (List.nil_sublist _) ⟨Gh.le.refl _, rfl, ?_⟩
    rw [oneOf_three]
    exact ⟨_, _, _, rfl, fun h => (by cases h), fun _ => rfl⟩
theorem c_readA {n : Nat} {u : Value} {vs : List TyX} {k s : List UInt8} {e : UInt8} {t : Ty} (hR : ReadC n u vs) (h : SchR G u vs) (hw : SchW (tys vs)) (hk : kindIn (tys vs) k = true) (hrf : refT (tys vs) k = some t) (hs : s.length ≤ 999) (hn : n ≤ 999) :
    FnS Tryz.prog 11 [Ag [u], S (e :: s), S k, I (n + 1 : Nat)] G (ReadP (tys vs) (rd (tys vs) (n + 1) k (e :: s)) k) := by
  obtain ⟨r, rfl⟩ := refT_64 hrf
  have hkk := kindOk_kOk (kindIn_ok hk)
  have hrd : rd (tys vs) (n + 1) (64 :: r) (e :: s) = rdTyped (tys vs) (rd (tys vs) n) t (e :: s) := by
    rw [rd]; unfold rdK
    dsimp only
    rw [if_neg (show ¬ (64 : UInt8).toNat = 91 by decide), if_neg (show ¬ (64 : UInt8).toNat = 63 by decide), hrf]
  have hvl : vs.length ≤ 8 := by have := hw.len; unfold tys at this; simpa using this
  have href := refV_ty vs (64 :: r)
  have cx_rf := c_ref (k := 64 :: r) h (by omega) hkk.1 (by omega)
  rcases hr : refV vs (64 :: r) with _ | x
  · rw [hr, hrf] at href; cases href
  rw [hr] at href cx_rf
  have htx : x.2 = t := by rw [hrf] at href; exact Option.some.inj href
  subst htx
  have hx := refV_mem hr
  have cx_na : FnS Tryz.prog 20 [Ag [u], S (e :: s), S (64 :: r), I (n + 1 : Nat)] G (ReadP (tys vs) (rdTyped (tys vs) (rd (tys vs) n) x.2 (e :: s)) (64 :: r)) := by
    have hso := (hw.ty _ (List.mem_map_of_mem hx)).sort
    by_cases h1 : x.2.sort = 82 ∧ e.toNat = 123
    · obtain rfl := u8_eq h1.2 (by decide)
      exact c_namR hR h hw hx hrf cx_rf h1.1 hs (by omega) (by omega)
    by_cases h2 : x.2.sort = 69 ∧ e.toNat = 35
    · obtain rfl := u8_eq h2.2 (by decide)
      exact c_namE h hw hx hrf cx_rf h2.1 hs (by omega)
    by_cases h3 : x.2.sort = 85 ∧ e.toNat = 60
    · obtain rfl := u8_eq h3.2 (by decide)
      exact c_namU hR h hw hx hrf cx_rf h3.1 hs (by omega)
    refine c_namX h.sl.one cx_rf ?_ (by omega) (by omega)
    rcases hso with h4 | h4 | h4 <;> omega
  have hel : (e :: s).length = s.length + 1 := rfl
  have hk0 : bt (64 :: r) (Int.toNat 0) = 64 := bt_zero 64 r
  have hkl2 : (64 :: r).length = r.length + 1 := rfl
  refine b_enter [(0, _), (1, _), (2, _), (3, _)] Tryz.func11 (by kernel_rfl) Tryz.ntmps11 rfl rfl (by repeat (first | exact trivial | refine ⟨rfl, ?_⟩)) fun B hok hB hW => ?_
  repeat' (first | (refine run (t := tb) 400 rfl ?_ ?_; (focus (repeat' (first | exact trivial | apply And.intro | omega)))) | (refine k_op rfl ?_; first | refine c_bx rfl rfl rfl fun _ => ?_ | (refine v_op (g_pickF rfl rfl ?_) rfl rfl ?_; (focus (((rfl)); done))) | refine v_op (g_ldA rfl rfl rfl rfl) rfl rfl ?_ | (refine c_fns rfl rfl rfl cx_na rfl ?_; rintro _ G hle ⟨q1, r1, ok1, rfl, hyes, hno⟩; skip)) | (refine k_gf rfl rfl ?_ ?_; (focus (((rfl)); done))) | (refine k_tt rfl ?_ ?_; (focus (((rfl)); done))) | (refine k_ff rfl ?_ ?_; (focus (((rfl)); done))))
  refine k_rr (vs := [_, _, _]) rfl ⟨rfl, rfl, rfl, trivial⟩ rfl (List.nil_sublist _) ⟨hle, rfl, ?_⟩
  rw [oneOf_three, hrd]
  exact ⟨_, _, _, rfl, hyes, hno⟩
theorem c_readP {n : Nat} {u : Value} {vs : List TyX} {s : List UInt8} {c e : UInt8} (hu : u.oneCell' = true) (hc : c = 110 ∨ c = 116 ∨ c = 102) (hr : refT (tys vs) [c] = none) (hs : s.length ≤ 999) (hn : n ≤ 999) :
    FnS Tryz.prog 11 [Ag [u], S (e :: s), S [c], I (n + 1 : Nat)] G (ReadP (tys vs) (rd (tys vs) (n + 1) [c] (e :: s)) [c]) := by
  have hrd := rd_plain (ts := tys vs) (n := n) (s := e :: s) hc hr
  have hel : (e :: s).length = s.length + 1 := rfl
  have cx_pl : FnS Tryz.prog 21 [Ag [u], S (e :: s), S [c]] G (ReadP (tys vs) (rd (tys vs) (n + 1) [c] (e :: s)) [c]) := by
    rw [hrd]
    rcases hc with rfl | rfl | rfl
    · rw [if_pos rfl]; exact c_plainN hu (by omega)
    · rw [if_neg (by decide), if_pos rfl]; exact c_plainT hu (by omega) (by simp)
    · rw [if_neg (by decide), if_neg (by decide)]; exact c_plainF hu (by omega)
  clear hrd
  rcases hc with rfl | rfl | rfl
  all_goals
    refine b_enter [(0, _), (1, _), (2, _), (3, _)] Tryz.func11 (by kernel_rfl) Tryz.ntmps11 rfl rfl (by repeat (first | exact trivial | refine ⟨rfl, ?_⟩)) fun B hok hB hW => ?_
    repeat' (first | (refine run (t := tb) 400 rfl ?_ ?_; (focus (repeat' (first | exact trivial | apply And.intro | omega | (simp only [List.length_append, List.length_cons, List.length_nil, Int.toNat_natCast]; omega))))) | (refine k_op rfl ?_; first | refine c_bx rfl rfl rfl fun _ => ?_ | (refine v_op (g_pickF rfl rfl ?_) rfl rfl ?_; (focus (((rfl)); done))) | refine v_op (g_ldA rfl rfl rfl rfl) rfl rfl ?_ | (refine c_fns rfl rfl rfl cx_pl rfl ?_; rintro _ G hle ⟨q1, r1, ok1, rfl, hyes, hno⟩; skip)) | (refine k_gf rfl rfl ?_ ?_; (focus (((rfl)); done))) | (refine k_ff rfl ?_ ?_; (focus (((rfl)); done))))
    refine k_rr (vs := [_, _, _]) rfl ⟨rfl, rfl, rfl, trivial⟩ rfl (List.nil_sublist _) ⟨hle, rfl, ?_⟩
    rw [oneOf_three]
    exact ⟨_, _, _, rfl, hyes, hno⟩
/-- The reference reads values. -/
theorem readC_all {u : Value} {vs : List TyX} (hw : SchW (tys vs)) : ∀ n, n ≤ 1000 → ReadC n u vs
  | 0, _ => fun G k s _ _ _ => c_read0 (.inr rfl) (by omega)
  | n + 1, hn => fun G k s h hk hs => by
    have hR := readC_all (u := u) (vs := vs) hw n (by omega)
    match s, hs with
    | [], _ => exact c_read0 (.inl rfl) hn
    | e :: s, hs =>
      simp only [List.length_cons] at hs
      match k, hk with
      | [], hk => cases hk
      | c :: k, hk =>
        by_cases h1 : c.toNat = 91
        · obtain rfl := u8_eq h1 (by decide)
          exact c_readL hR h hk (by omega) (by omega)
        by_cases h2 : c.toNat = 63
        · obtain rfl := u8_eq h2 (by decide)
          exact c_readO hR h hk (by omega) (by omega)
        have h91 : ¬ (c.toNat = 91 ∨ c.toNat = 63) := fun h => by rcases h with h | h <;> omega
        cases hr : refT (tys vs) (c :: k) with
        | some t => exact c_readA hR h hw hk hr (by omega) (by omega)
        | none =>
          rcases plain_kinds hk h91 hr with e1 | e1 | e1
          all_goals
            simp only [List.cons.injEq] at e1
            obtain ⟨rfl, rfl⟩ := e1
            exact c_readP h.sl.one (by simp) hr (by omega) (by omega)
end Go.E
/-! Xh -/
namespace Go.E
set_option maxRecDepth 20000
set_option maxHeartbeats 2000000
open Go.Proofs
variable {G : Gh}
theorem c_sizeS {ts : List Ty} {v : V} {k : List UInt8} {b : Nat} (h : RepR G ts v k b) : v.tot ≤ 100000 → PuG Tryz.prog 7 [Pt b 0] G (· = I (v.size : Nat)) := by
  induction h with
  | leaf w x k tx b h1 h2 =>
    intro _
    have hn82 : ¬ tx = [82] := by
      rcases h2 with ⟨_, _, rfl, h⟩ | ⟨_, _, rfl⟩ | ⟨_, _, rfl, h⟩
      · rintro rfl; exact absurd (h 82 (by simp)) (by decide)
      · simp
      · rcases h with rfl | rfl <;> decide
    have hn85 : ¬ tx = [85] := by
      rcases h2 with ⟨_, _, rfl, h⟩ | ⟨_, _, rfl⟩ | ⟨_, _, rfl, h⟩
      · rintro rfl; exact absurd (h 85 (by simp)) (by decide)
      · simp
      · rcases h with rfl | rfl <;> decide
    rcases h2 with ⟨rfl, rfl, _⟩ | ⟨rfl, rfl, _⟩ | ⟨rfl, rfl, _⟩
    all_goals
      refine p_enter [(0, _)] Tryz.func7 (by kernel_rfl) Tryz.ntmps7 rfl rfl (by repeat (first | exact trivial | refine ⟨rfl, ?_⟩)) fun B hB => ?_
      repeat' ((refine run (t := tb) 400 rfl ?_ ?_; (focus (repeat' ((exact trivial))))))
      refine k_loop (ι := Unit) (fun i => True) (fun i => [(0, Pt b 0), (3, I 0), (4, I 0)]) (fun _ => G) (fun i => []) (fun i => 0) () ?_ (by repeat (first | exact trivial | refine ⟨rfl, ?_⟩)) rfl (by repeat ((exact List.Sublist.refl _))) (fun i Hi => ?_)
      · trivial
      repeat' (first | (refine run (t := tb) 400 rfl ?_ ?_; (focus (repeat' (first | exact trivial | apply And.intro | omega | (simp only [List.length_append, List.length_cons, List.length_nil, Int.toNat_natCast]; omega))))) | (refine k_op rfl ?_; first | refine v_op (g_ldS rfl rfl (by assumption) rfl rfl) rfl rfl ?_ | refine v_op (g_lenL rfl) rfl rfl ?_ | (refine v_op (g_pickF rfl rfl ?_) rfl rfl ?_; (focus (((rfl)); done)))) | (refine k_gf rfl rfl ?_ ?_; (focus ((first | rfl | (refine decide_eq_false ?_; (assumption))); done))) | (refine k_ff rfl ?_ ?_; (focus (((rfl)); done))))
      refine k_rr (vs := [_]) rfl ⟨rfl, trivial⟩ rfl (List.nil_sublist _) ⟨rfl, rfl, ?_⟩
      rfl
  | lst k b ks bs a c h1 h2 h3 hk ih =>
    intro ht
    rw [nd_tot] at ht
    have hsz : V.size (.nd 91 [] 0 ks) = V.sizes ks := by rw [V.size, if_neg (by unfold leafW; simp)]
    rw [hsz]
    have hk0 : bt (91 :: k) (Int.toNat 0) = 91 := bt_zero 91 k
    have hkl2 : (91 :: k).length = k.length + 1 := rfl
    have hst := sizes_tot ks
    have hkl := tots_len ks
    refine p_enter [(0, _)] Tryz.func7 (by kernel_rfl) Tryz.ntmps7 rfl rfl (by repeat (first | exact trivial | refine ⟨rfl, ?_⟩)) fun B hB => ?_
    repeat' ((refine run (t := tb) 400 rfl ?_ ?_; (focus (repeat' ((exact trivial))))))
    refine Nx.re (d := 3) (v' := I (V.sizes (ks.take 0) : Nat)) rfl rfl ?_
    refine k_loop (ι := Nat) (fun i => i ≤ ks.length) (fun i => [(0, Pt b 0), (3, I (V.sizes (ks.take i) : Nat)), (4, I i)]) (fun _ => G) (fun i => []) (fun i => ks.length - i) 0 ?_ (by repeat (first | exact trivial | refine ⟨rfl, ?_⟩)) rfl (by repeat ((exact List.Sublist.refl _))) (fun i Hi => ?_)
    · exact Nat.zero_le _
    by_cases hi : i < ks.length
    · have hti := tot_nth hi
      have cx_siz := ih i hi (by omega)
      have hxi : nth bs i = nth bs i := rfl
      have hsi := size_tot (nth ks i)
      have hsn : V.sizes (ks.take (i + 1)) = V.sizes (ks.take i) + (nth ks i).size := by rw [take_nth hi, sizes_snoc]
      have hs1 := sizes_tot (ks.take i)
      have htk := tots_take ks i
      obtain ⟨kb, ko, kc, e, hs⟩ := h2.expl (by omega)
      simp only [Value.slice.injEq] at e
      obtain ⟨rfl, -, rfl⟩ := e
      repeat' (first | (refine run (t := tb) 400 rfl ?_ ?_; (focus (repeat' (first | exact trivial | apply And.intro | omega)))) | (refine k_op rfl ?_; first | refine v_op (g_ldS rfl rfl (by assumption) rfl rfl) rfl rfl ?_ | (refine v_op (g_ldR1x rfl rfl (by assumption) ?_ (by assumption) rfl) rfl rfl ?_; (focus (((omega)); done))) | refine v_op (g_lenL rfl) rfl rfl ?_ | (refine v_op (g_iaddrN rfl rfl ?_) rfl rfl ?_; (focus ((omega); done))) | (refine c_rt rfl rfl rfl cx_siz rfl ?_)) | (refine k_tt rfl ?_ ?_; (focus (((refine decide_eq_true ?_; (omega))); done))))
      refine Nx.re (d := 3) (v' := I (V.sizes (ks.take (i + 1)) : Nat)) rfl (congrArg (Value.int .i64) (by omega)) ?_
      exact k_rd (i + 1) (by omega) (by omega) (by repeat (first | exact trivial | refine ⟨rfl, ?_⟩)) rfl (by repeat ((exact List.Sublist.refl _)))
    · have hin : i = ks.length := by omega
      subst hin
      rw [List.take_length]
      repeat' (first | (refine run (t := tb) 400 rfl ?_ ?_; (focus (repeat' (first | exact trivial | apply And.intro | omega)))) | (refine k_op rfl ?_; first | refine v_op (g_ldS rfl rfl (by assumption) rfl rfl) rfl rfl ?_ | refine v_op (g_lenL rfl) rfl rfl ?_ | (refine v_op (g_pickT rfl rfl ?_) rfl rfl ?_; (focus (((rfl)); done)))) | (refine k_gt rfl rfl ?_ ?_; (focus (((rfl)); done))) | (refine k_tt rfl ?_ ?_; (focus (((rfl)); done))) | (refine k_ff rfl ?_ ?_; (focus (((refine decide_eq_false ?_; (omega))); done))))
      refine k_rr (vs := [_]) rfl ⟨rfl, trivial⟩ rfl (List.nil_sublist _) ⟨rfl, rfl, ?_⟩
      rw [oneOf_one]
  | non k b h1 =>
    intro _
    have hk0 : bt (63 :: k) (Int.toNat 0) = 63 := bt_zero 63 k
    have hkl2 : (63 :: k).length = k.length + 1 := rfl
    refine p_enter [(0, _)] Tryz.func7 (by kernel_rfl) Tryz.ntmps7 rfl rfl (by repeat (first | exact trivial | refine ⟨rfl, ?_⟩)) fun B hB => ?_
    repeat' ((refine run (t := tb) 400 rfl ?_ ?_; (focus (repeat' ((exact trivial))))))
    refine k_loop (ι := Unit) (fun i => True) (fun i => [(0, Pt b 0), (3, I 0), (4, I 0)]) (fun _ => G) (fun i => []) (fun i => 0) () ?_ (by repeat (first | exact trivial | refine ⟨rfl, ?_⟩)) rfl (by repeat ((exact List.Sublist.refl _))) (fun i Hi => ?_)
    · trivial
    repeat' (first | (refine run (t := tb) 400 rfl ?_ ?_; (focus (repeat' (first | exact trivial | apply And.intro | omega)))) | (refine k_op rfl ?_; first | refine v_op (g_ldS rfl rfl (by assumption) rfl rfl) rfl rfl ?_ | refine v_op (g_lenL rfl) rfl rfl ?_ | (refine v_op (g_pickF rfl rfl ?_) rfl rfl ?_; (focus (((rfl)); done)))) | (refine k_gf rfl rfl ?_ ?_; (focus (((rfl)); done))) | (refine k_ff rfl ?_ ?_; (focus (((rfl)); done))))
    refine k_rr (vs := [_]) rfl ⟨rfl, trivial⟩ rfl (List.nil_sublist _) ⟨rfl, rfl, ?_⟩
    rfl
  | opt k b kb b' v h1 h2 h3 ih =>
    intro ht
    simp only [nd_tot, V.tots] at ht
    have cx_siz := ih (by omega)
    have hsi := size_tot v
    have hk0 : bt (63 :: k) (Int.toNat 0) = 63 := bt_zero 63 k
    have hkl2 : (63 :: k).length = k.length + 1 := rfl
    have hsz : V.size (.nd 63 [] 0 [v]) = v.size := by rw [V.size, if_neg (by unfold leafW; simp), V.sizes, V.sizes]; rfl
    rw [hsz]
    refine p_enter [(0, _)] Tryz.func7 (by kernel_rfl) Tryz.ntmps7 rfl rfl (by repeat (first | exact trivial | refine ⟨rfl, ?_⟩)) fun B hB => ?_
    repeat' ((refine run (t := tb) 400 rfl ?_ ?_; (focus (repeat' ((exact trivial))))))
    refine Nx.re (d := 3) (v' := I (0 * v.size : Nat)) rfl (congrArg (Value.int .i64) (by simp)) ?_
    refine k_loop (ι := Nat) (fun i => i ≤ 1) (fun i => [(0, Pt b 0), (3, I (i * v.size : Nat)), (4, I i)]) (fun _ => G) (fun i => []) (fun i => 1 - i) 0 ?_ (by repeat (first | exact trivial | refine ⟨rfl, ?_⟩)) rfl (by repeat ((exact List.Sublist.refl _))) (fun i Hi => ?_)
    · exact Nat.zero_le _
    have hi2 : i = 0 ∨ i = 1 := by omega
    rcases hi2 with rfl | rfl
    · rw [Nat.zero_mul]
      repeat' (first | (refine run (t := tb) 400 rfl ?_ ?_; (focus (repeat' (first | exact trivial | apply And.intro | omega)))) | (refine k_op rfl ?_; first | refine v_op (g_ldS rfl rfl (by assumption) rfl rfl) rfl rfl ?_ | refine v_op (g_lenL rfl) rfl rfl ?_ | (refine v_op (g_iaddrN rfl rfl ?_) rfl rfl ?_; (focus ((omega); done))) | (refine c_rt rfl rfl rfl cx_siz rfl ?_)) | (refine k_tt rfl ?_ ?_; (focus (((rfl)); done))))
      refine Nx.re (d := 3) (v' := I (1 * v.size : Nat)) rfl (congrArg (Value.int .i64) (by omega)) ?_
      exact k_rd 1 (by omega) (by omega) (by repeat (first | exact trivial | refine ⟨rfl, ?_⟩)) rfl (by repeat ((exact List.Sublist.refl _)))
    · rw [Nat.one_mul]
      repeat' (first | (refine run (t := tb) 400 rfl ?_ ?_; (focus (repeat' (first | exact trivial | apply And.intro | omega)))) | (refine k_op rfl ?_; first | refine v_op (g_ldS rfl rfl (by assumption) rfl rfl) rfl rfl ?_ | refine v_op (g_lenL rfl) rfl rfl ?_ | (refine v_op (g_pickF rfl rfl ?_) rfl rfl ?_; (focus (((rfl)); done)))) | (refine k_gf rfl rfl ?_ ?_; (focus (((rfl)); done))) | (refine k_tt rfl ?_ ?_; (focus (((rfl)); done))) | (refine k_ff rfl ?_ ?_; (focus (((rfl)); done))))
      refine k_rr (vs := [_]) rfl ⟨rfl, trivial⟩ rfl (List.nil_sublist _) ⟨rfl, rfl, ?_⟩
      rw [oneOf_one]
  | recd k b t fs bs a a2 c c2 h0 h1 h2 h3 h4 h5 hk ih =>
    intro ht
    obtain ⟨r, rfl⟩ := refT_64 h0
    rw [nd_tot] at ht
    have hml : (fs.map (fun p : Fld × V => V.nd 61 [] p.1.tag [p.2])).length = fs.length := by simp
    have hnt : ∀ i, i < fs.length → nth (fs.map (fun p : Fld × V => V.nd 61 [] p.1.tag [p.2])) i = V.nd 61 [] (nth fs i).1.tag [(nth fs i).2] := fun i hi => by rw [nth_eq (by simpa using hi), nth_eq hi]; simp
    generalize hKS : fs.map (fun p : Fld × V => V.nd 61 [] p.1.tag [p.2]) = KS at *
    have hsz : V.size (.nd 82 [] 0 KS) = V.sizes KS := by rw [V.size, if_neg (by unfold leafW; simp)]
    rw [hsz]
    have hk0 : bt (64 :: r) (Int.toNat 0) = 64 := bt_zero 64 r
    have hkl2 : (64 :: r).length = r.length + 1 := rfl
    have hst := sizes_tot KS
    have hkl := tots_len KS
    refine p_enter [(0, _)] Tryz.func7 (by kernel_rfl) Tryz.ntmps7 rfl rfl (by repeat (first | exact trivial | refine ⟨rfl, ?_⟩)) fun B hB => ?_
    repeat' ((refine run (t := tb) 400 rfl ?_ ?_; (focus (repeat' ((exact trivial))))))
    refine Nx.re (d := 3) (v' := I (V.sizes (KS.take 0) : Nat)) rfl rfl ?_
    refine k_loop (ι := Nat) (fun i => i ≤ fs.length) (fun i => [(0, Pt b 0), (3, I (V.sizes (KS.take i) : Nat)), (4, I i)]) (fun _ => G) (fun i => []) (fun i => fs.length - i) 0 ?_ (by repeat (first | exact trivial | refine ⟨rfl, ?_⟩)) rfl (by repeat ((exact List.Sublist.refl _))) (fun i Hi => ?_)
    · exact Nat.zero_le _
    by_cases hi : i < fs.length
    · have hti := tot_nth (ks := KS) (i := i) (by omega)
      have hsn : V.sizes (KS.take (i + 1)) = V.sizes (KS.take i) + (nth fs i).2.size := by
        rw [take_nth (by omega), sizes_snoc, hnt i hi, V.size, if_neg (by unfold leafW; simp), V.sizes, V.sizes]; rfl
      rw [hnt i hi] at hti
      simp only [nd_tot, V.tots] at hti
      have cx_siz := ih i hi (by omega)
      have hxi : nth bs i = nth bs i := rfl
      have hsi := size_tot (nth fs i).2
      have hs1 := sizes_tot (KS.take i)
      have htk := tots_take KS i
      obtain ⟨kb, ko, kc, e, hs⟩ := h3.expl (by omega)
      simp only [Value.slice.injEq] at e
      obtain ⟨rfl, -, rfl⟩ := e
      repeat' (first | (refine run (t := tb) 400 rfl ?_ ?_; (focus (repeat' (first | exact trivial | apply And.intro | omega)))) | (refine k_op rfl ?_; first | refine v_op (g_ldS rfl rfl (by assumption) rfl rfl) rfl rfl ?_ | (refine v_op (g_ldR1x rfl rfl (by assumption) ?_ (by assumption) rfl) rfl rfl ?_; (focus (((omega)); done))) | refine v_op (g_lenL rfl) rfl rfl ?_ | (refine v_op (g_iaddrN rfl rfl ?_) rfl rfl ?_; (focus ((omega); done))) | (refine c_rt rfl rfl rfl cx_siz rfl ?_)) | (refine k_tt rfl ?_ ?_; (focus (((refine decide_eq_true ?_; (omega))); done))))
      refine Nx.re (d := 3) (v' := I (V.sizes (KS.take (i + 1)) : Nat)) rfl (congrArg (Value.int .i64) (by omega)) ?_
      exact k_rd (i + 1) (by omega) (by omega) (by repeat (first | exact trivial | refine ⟨rfl, ?_⟩)) rfl (by repeat ((exact List.Sublist.refl _)))
    · have hin : i = fs.length := by omega
      have e1 : KS.take i = KS := List.take_of_length_le (by omega)
      rw [e1]
      repeat' (first | (refine run (t := tb) 400 rfl ?_ ?_; (focus (repeat' (first | exact trivial | apply And.intro | omega)))) | (refine k_op rfl ?_; first | refine v_op (g_ldS rfl rfl (by assumption) rfl rfl) rfl rfl ?_ | refine v_op (g_lenL rfl) rfl rfl ?_ | (refine v_op (g_pickT rfl rfl ?_) rfl rfl ?_; (focus (((rfl)); done))) | (refine v_op (g_pickF rfl rfl ?_) rfl rfl ?_; (focus (((rfl)); done)))) | (refine k_gt rfl rfl ?_ ?_; (focus (((rfl)); done))) | (refine k_gf rfl rfl ?_ ?_; (focus (((rfl)); done))) | (refine k_tt rfl ?_ ?_; (focus (((rfl)); done))) | (refine k_ff rfl ?_ ?_; (focus (((refine decide_eq_false ?_; (omega))); done))))
      refine k_rr (vs := [_]) rfl ⟨rfl, trivial⟩ rfl (List.nil_sublist _) ⟨rfl, rfl, ?_⟩
      rw [oneOf_one]
  | enm k b tgb t d h0 h1 h2 h3 =>
    intro _
    obtain ⟨r, rfl⟩ := refT_64 h0
    have hk0 : bt (64 :: r) (Int.toNat 0) = 64 := bt_zero 64 r
    have hkl2 : (64 :: r).length = r.length + 1 := rfl
    refine p_enter [(0, _)] Tryz.func7 (by kernel_rfl) Tryz.ntmps7 rfl rfl (by repeat (first | exact trivial | refine ⟨rfl, ?_⟩)) fun B hB => ?_
    repeat' ((refine run (t := tb) 400 rfl ?_ ?_; (focus (repeat' ((exact trivial))))))
    refine k_loop (ι := Unit) (fun i => True) (fun i => [(0, Pt b 0), (3, I 0), (4, I 0)]) (fun _ => G) (fun i => []) (fun i => 0) () ?_ (by repeat (first | exact trivial | refine ⟨rfl, ?_⟩)) rfl (by repeat ((exact List.Sublist.refl _))) (fun i Hi => ?_)
    · trivial
    repeat' (first | (refine run (t := tb) 400 rfl ?_ ?_; (focus (repeat' (first | exact trivial | apply And.intro | omega)))) | (refine k_op rfl ?_; first | refine v_op (g_ldS rfl rfl (by assumption) rfl rfl) rfl rfl ?_ | refine v_op (g_lenL rfl) rfl rfl ?_ | (refine v_op (g_pickF rfl rfl ?_) rfl rfl ?_; (focus (((rfl)); done)))) | (refine k_gf rfl rfl ?_ ?_; (focus (((rfl)); done))) | (refine k_ff rfl ?_ ?_; (focus (((rfl)); done))))
    refine k_rr (vs := [_]) rfl ⟨rfl, trivial⟩ rfl (List.nil_sublist _) ⟨rfl, rfl, ?_⟩
    rfl
  | uni k b tgb kb b' t d v h0 h1 h2 h3 h4 hk ih =>
    intro ht
    obtain ⟨r, rfl⟩ := refT_64 h0
    simp only [nd_tot, V.tots] at ht
    have cx_siz := ih (by omega)
    have hsi := size_tot v
    have hk0 : bt (64 :: r) (Int.toNat 0) = 64 := bt_zero 64 r
    have hkl2 : (64 :: r).length = r.length + 1 := rfl
    have hsz : V.size (.nd 85 [] d.tag [v]) = v.size := by rw [V.size, if_neg (by unfold leafW; simp), V.sizes, V.sizes]; rfl
    rw [hsz]
    refine p_enter [(0, _)] Tryz.func7 (by kernel_rfl) Tryz.ntmps7 rfl rfl (by repeat (first | exact trivial | refine ⟨rfl, ?_⟩)) fun B hB => ?_
    repeat' ((refine run (t := tb) 400 rfl ?_ ?_; (focus (repeat' ((exact trivial))))))
    refine Nx.re (d := 3) (v' := I (0 * v.size : Nat)) rfl (congrArg (Value.int .i64) (by simp)) ?_
    refine k_loop (ι := Nat) (fun i => i ≤ 1) (fun i => [(0, Pt b 0), (3, I (i * v.size : Nat)), (4, I i)]) (fun _ => G) (fun i => []) (fun i => 1 - i) 0 ?_ (by repeat (first | exact trivial | refine ⟨rfl, ?_⟩)) rfl (by repeat ((exact List.Sublist.refl _))) (fun i Hi => ?_)
    · exact Nat.zero_le _
    have hi2 : i = 0 ∨ i = 1 := by omega
    rcases hi2 with rfl | rfl
    · rw [Nat.zero_mul]
      repeat' (first | (refine run (t := tb) 400 rfl ?_ ?_; (focus (repeat' (first | exact trivial | apply And.intro | omega)))) | (refine k_op rfl ?_; first | refine v_op (g_ldS rfl rfl (by assumption) rfl rfl) rfl rfl ?_ | refine v_op (g_lenL rfl) rfl rfl ?_ | (refine v_op (g_iaddrN rfl rfl ?_) rfl rfl ?_; (focus ((omega); done))) | (refine c_rt rfl rfl rfl cx_siz rfl ?_)) | (refine k_tt rfl ?_ ?_; (focus (((rfl)); done))))
      refine Nx.re (d := 3) (v' := I (1 * v.size : Nat)) rfl (congrArg (Value.int .i64) (by omega)) ?_
      exact k_rd 1 (by omega) (by omega) (by repeat (first | exact trivial | refine ⟨rfl, ?_⟩)) rfl (by repeat ((exact List.Sublist.refl _)))
    · rw [Nat.one_mul]
      repeat' (first | (refine run (t := tb) 400 rfl ?_ ?_; (focus (repeat' (first | exact trivial | apply And.intro | omega)))) | (refine k_op rfl ?_; first | refine v_op (g_ldS rfl rfl (by assumption) rfl rfl) rfl rfl ?_ | refine v_op (g_lenL rfl) rfl rfl ?_ | (refine v_op (g_pickT rfl rfl ?_) rfl rfl ?_; (focus (((rfl)); done))) | (refine v_op (g_pickF rfl rfl ?_) rfl rfl ?_; (focus (((rfl)); done)))) | (refine k_gt rfl rfl ?_ ?_; (focus (((rfl)); done))) | (refine k_gf rfl rfl ?_ ?_; (focus (((rfl)); done))) | (refine k_tt rfl ?_ ?_; (focus (((rfl)); done))) | (refine k_ff rfl ?_ ?_; (focus (((rfl)); done))))
      refine k_rr (vs := [_]) rfl ⟨rfl, trivial⟩ rfl (List.nil_sublist _) ⟨rfl, rfl, ?_⟩
      rw [oneOf_one]
theorem c_l4Of0 {s k w : List UInt8} (h : s.length ≤ 1048576 ∧ k.length ≤ 1048576 ∧ w.length ≤ 1048576) (hno : givenV s k w = none) : FnS Tryz.prog 6 [S s, S k, S w] G (fun v _ => ∃ u q, v = Tu [u, .pointer q, Bo false]) := by
  by_cases hk : kindS s k = true
  case neg =>
    have hk2 : kindS s k = false := by simpa using hk
    have cx_lk1 : ∀ G, FnS Tryz.prog 10 [S s, S k] G (fun v _ => ∃ u, v = Tu [u, Bo false]) := fun G => by
      refine (c_l3Kind (G := G) (s := s) (k := k) (by omega) (by omega)).mono ?_
      rintro v G' L' ⟨h1, h2, u, vs, rfl, _⟩
      exact ⟨h1, h2, u, by rw [hk2]⟩
    refine b_enter [(0, _), (1, _), (2, _)] Tryz.func6 (by kernel_rfl) Tryz.ntmps6 rfl rfl (by repeat (first | exact trivial | refine ⟨rfl, ?_⟩)) fun B hok hB hW => ?_
    repeat' (first | (refine run (t := tb) 400 rfl ?_ ?_; (focus (repeat' ((exact trivial))))) | (refine k_op rfl ?_; first | (refine v_op (g_pickT rfl rfl ?_) rfl rfl ?_; (focus (((rfl)); done))) | (refine c_fns rfl rfl rfl (cx_lk1 _) rfl ?_; rintro _ G hle ⟨u1, rfl⟩; skip)) | (refine k_gt rfl rfl ?_ ?_; (focus (((rfl)); done))) | (refine k_tt rfl ?_ ?_; (focus (((rfl)); done))))
    all_goals refine k_rr (vs := [_, _, _]) rfl ⟨rfl, rfl, rfl, trivial⟩ rfl (List.nil_sublist _) ⟨hle, rfl, ?_⟩
    all_goals exact ⟨_, _, rfl⟩
  obtain ⟨ts, hs, hki, hw⟩ := kindS_some2 hk
  have hvo : valOf ts k w = none := by unfold givenV at hno; rw [hs] at hno; dsimp only at hno; rwa [if_pos hki] at hno
  have cx_lka : ∀ G, FnS Tryz.prog 10 [S s, S k] G (fun v G' => ∃ a c vs, v = Tu [.slice a vs.length c, Bo true] ∧ SchR G' (.slice a vs.length c) vs ∧ tys vs = ts) := fun G => by
    refine (c_l3Kind (G := G) (s := s) (k := k) (by omega) (by omega)).mono ?_
    rintro v G' L' ⟨h1, h2, u, vs, rfl, h4, _, h6⟩
    obtain ⟨_, ⟨rfl, h0⟩ | ⟨b, o, cap, rfl, _, _⟩⟩ := h4.sl
    · exact ⟨h1, h2, none, 0, vs, by rw [hk, h0], by rw [h0]; exact h4, h6 ts hs hki⟩
    · exact ⟨h1, h2, _, cap, vs, by rw [hk], h4, h6 ts hs hki⟩
  by_cases hl : w.length ≤ 400
  case neg =>
    refine b_enter [(0, _), (1, _), (2, _)] Tryz.func6 (by kernel_rfl) Tryz.ntmps6 rfl rfl (by repeat (first | exact trivial | refine ⟨rfl, ?_⟩)) fun B hok hB hW => ?_
    repeat' (first | (refine run (t := tb) 400 rfl ?_ ?_; (focus (repeat' ((exact trivial))))) | (refine k_op rfl ?_; first | (refine v_op (g_pickF rfl rfl ?_) rfl rfl ?_; (focus (((rfl)); done))) | (refine c_fns rfl rfl rfl (cx_lka _) rfl ?_; rintro _ G hle ⟨av1, cv1, vs1, rfl, hR1, hT1⟩; skip)) | (refine k_gf rfl rfl ?_ ?_; (focus (((rfl)); done))) | (refine k_tt rfl ?_ ?_; (focus (((refine decide_eq_true ?_; (omega))); done))))
    all_goals refine k_rr (vs := [_, _, _]) rfl ⟨rfl, rfl, rfl, trivial⟩ rfl (List.nil_sublist _) ⟨hle, rfl, ?_⟩
    all_goals exact ⟨_, _, rfl⟩
  refine b_enter [(0, _), (1, _), (2, _)] Tryz.func6 (by kernel_rfl) Tryz.ntmps6 rfl rfl (by repeat (first | exact trivial | refine ⟨rfl, ?_⟩)) fun B hok hB hW => ?_
  repeat' (first | (refine run (t := tb) 400 rfl ?_ ?_; (focus (repeat' ((exact trivial))))) | (refine k_op rfl ?_; first | (refine v_op (g_pickF rfl rfl ?_) rfl rfl ?_; (focus (((rfl)); done))) | refine v_op (g_bld rfl rfl) rfl rfl ?_ | (refine c_fns rfl rfl rfl (cx_lka _) rfl ?_; rintro _ G hle ⟨av1, cv1, vs1, rfl, hR1, hT1⟩; skip)) | (refine k_gf rfl rfl ?_ ?_; (focus (((rfl)); done))) | (refine k_ff rfl ?_ ?_; (focus (((refine decide_eq_false ?_; (omega))); done))))
  have hR := readC_all (u := .slice av1 vs1.length cv1) (vs := vs1) (by rw [hT1]; exact hw) 12 (by omega) G k w hR1 (by rw [hT1]; exact hki) (by omega)
  obtain ⟨f, hf⟩ : ∃ f, f = rd (tys vs1) 12 k w := ⟨_, rfl⟩
  rw [← hf] at hR
  have cx_rd := hR
  clear hR
  repeat' (first | (refine run (t := tb) 400 rfl ?_ ?_; (focus (repeat' ((exact trivial))))) | (refine k_op rfl ?_; first | (refine v_op (g_pickT rfl rfl ?_) rfl rfl ?_; (focus (((rfl)); done))) | (refine v_op (g_pickF rfl rfl ?_) rfl rfl ?_; (focus (((rfl)); done))) | (refine c_fns rfl rfl rfl cx_rd rfl ?_; rintro _ G hle ⟨q1, r1, ok1, rfl, hyes, hno⟩; skip)) | refine k_gb rfl rfl (fun _ => ?_) (fun _ => ?_))
  all_goals rename_i hok
  · have hr : decide (r1 = []) = false := decide_eq_false fun h => by
      obtain ⟨v, b, _, h2, _⟩ := hyes hok
      unfold valOf at hvo
      rw [if_pos hl, ← hT1, ← hf, h2, h] at hvo
      cases hvo
    refine k_rr (vs := [_, _, _]) rfl ⟨rfl, rfl, rfl, trivial⟩ rfl (List.nil_sublist _) ⟨(Gh.le.trans (by assumption) hle), rfl, ?_⟩
    exact ⟨_, _, by rw [hr]; rfl⟩
  · refine k_rr (vs := [_, _, _]) rfl ⟨rfl, rfl, rfl, trivial⟩ rfl (List.nil_sublist _) ⟨(Gh.le.trans (by assumption) hle), rfl, ?_⟩
    exact ⟨_, _, rfl⟩
theorem c_l4Of1 {s k w : List UInt8} {v : V} {ts : List Ty} (h : s.length ≤ 1048576 ∧ k.length ≤ 1048576 ∧ w.length ≤ 1048576) (hs : schemaOf s = some ts) (hki : kindIn ts k = true) (hvo : valOf ts k w = some v) :
    FnS Tryz.prog 6 [S s, S k, S w] G (fun r G' => ∃ u b, r = Tu [u, Pt b 0, Bo true] ∧ RepR G' ts v k b) := by
  have hw := schemaOf_w hs
  have hk : kindS s k = true := by unfold kindS; rw [hs]; exact hki
  have hl : w.length ≤ 400 := by
    by_cases hl : w.length ≤ 400
    · exact hl
    · unfold valOf at hvo; rw [if_neg hl] at hvo; cases hvo
  have h12 : rd ts 12 k w = some (v, []) := by
    unfold valOf at hvo
    rw [if_pos hl] at hvo
    split at hvo
    · rename_i v' hv; rw [hv]; exact congrArg (fun x => some (x, [])) (Option.some.inj hvo)
    · cases hvo
  have cx_lka : ∀ G, FnS Tryz.prog 10 [S s, S k] G (fun v G' => ∃ a c vs, v = Tu [.slice a vs.length c, Bo true] ∧ SchR G' (.slice a vs.length c) vs ∧ tys vs = ts) := fun G => by
    refine (c_l3Kind (G := G) (s := s) (k := k) (by omega) (by omega)).mono ?_
    rintro v G' L' ⟨h1, h2, u, vs, rfl, h4, _, h6⟩
    obtain ⟨_, ⟨rfl, h0⟩ | ⟨b, o, cap, rfl, _, _⟩⟩ := h4.sl
    · exact ⟨h1, h2, none, 0, vs, by rw [hk, h0], by rw [h0]; exact h4, h6 ts hs hki⟩
    · exact ⟨h1, h2, _, cap, vs, by rw [hk], h4, h6 ts hs hki⟩
  refine b_enter [(0, _), (1, _), (2, _)] Tryz.func6 (by kernel_rfl) Tryz.ntmps6 rfl rfl (by repeat (first | exact trivial | refine ⟨rfl, ?_⟩)) fun B hok hB hW => ?_
  repeat' (first | (refine run (t := tb) 400 rfl ?_ ?_; (focus (repeat' ((exact trivial))))) | (refine k_op rfl ?_; first | (refine v_op (g_pickF rfl rfl ?_) rfl rfl ?_; (focus (((rfl)); done))) | refine v_op (g_bld rfl rfl) rfl rfl ?_ | (refine c_fns rfl rfl rfl (cx_lka _) rfl ?_; rintro _ G hle ⟨av1, cv1, vs1, rfl, hR1, hT1⟩; skip)) | (refine k_gf rfl rfl ?_ ?_; (focus (((rfl)); done))) | (refine k_ff rfl ?_ ?_; (focus (((refine decide_eq_false ?_; (omega))); done))))
  subst hT1
  have cx_rd : FnS Tryz.prog 11 [Ag [.slice av1 vs1.length cv1], S w, S k, I (12 : Nat)] G (fun r G' => ∃ b, r = Tu [Pt b 0, S [], Bo true] ∧ RepR G' (tys vs1) v k b) := by
    refine (readC_all (u := .slice av1 vs1.length cv1) (vs := vs1) hw 12 (by omega) G k w hR1 hki (by omega)).mono ?_
    rintro r G' L' ⟨h1, h2, q, rest, ok, rfl, h3, h4⟩
    cases ok with
    | false => rw [h12] at h4; cases h4 rfl
    | true =>
      obtain ⟨v', b, rfl, h5, h6⟩ := h3 rfl
      rw [h12] at h5
      simp only [Option.some.injEq, Prod.mk.injEq] at h5
      obtain ⟨rfl, rfl⟩ := h5
      exact ⟨h1, h2, b, rfl, h6⟩
  refine k_op rfl ?_
  refine c_fns rfl rfl rfl cx_rd rfl ?_
  rintro _ G2 hle2 ⟨b, rfl, hrep⟩
  repeat' (first | (refine run (t := tb) 400 rfl ?_ ?_; (focus (repeat' ((exact trivial))))) | (refine k_op rfl ?_; (refine v_op (g_pickT rfl rfl ?_) rfl rfl ?_; (focus (((rfl)); done)))) | (refine k_gt rfl rfl ?_ ?_; (focus (((rfl)); done))))
  refine k_rr (vs := [_, _, _]) rfl ⟨rfl, rfl, rfl, trivial⟩ rfl (List.nil_sublist _) ⟨(Gh.le.trans hle hle2), rfl, ?_⟩
  exact ⟨_, b, rfl, hrep⟩
theorem c_ValueSizeS {s k w : List UInt8} (h : s.length ≤ 1048576 ∧ k.length ≤ 1048576 ∧ w.length ≤ 1048576) : PuG Tryz.prog 4 [S s, S k, S w] G (· = I (sizeV s k w)) := by
  unfold sizeV
  cases hg : givenV s k w with
  | none =>
    have cx_l40 := c_l4Of0 (G := G) h hg
    refine b_enter (Post := fun v G' L' => G' = G ∧ L' = [] ∧ _) [(0, _), (1, _), (2, _)] Tryz.func4 (by kernel_rfl) Tryz.ntmps4 rfl rfl (by repeat (first | exact trivial | refine ⟨rfl, ?_⟩)) fun B hok hB hW => ?_
    repeat' (first | (refine run (t := tb) 400 rfl ?_ ?_; (focus (repeat' ((exact trivial))))) | (refine k_op rfl ?_; (refine c_fns rfl rfl rfl cx_l40 rfl ?_; rintro _ G hle ⟨uu, q1, rfl⟩; skip)) | (refine k_tt rfl ?_ ?_; (focus (((rfl)); done))))
    all_goals refine Nx.base hok hB ?_
    all_goals refine k_rr (vs := [_]) rfl ⟨rfl, trivial⟩ rfl (List.nil_sublist _) ⟨rfl, rfl, ?_⟩
    all_goals rfl
  | some u =>
    obtain ⟨ts, hs, hki, hvo⟩ : ∃ ts, schemaOf s = some ts ∧ kindIn ts k = true ∧ valOf ts k w = some u := by
      unfold givenV at hg
      cases hs : schemaOf s with
      | none => rw [hs] at hg; cases hg
      | some ts =>
        rw [hs] at hg
        dsimp only at hg
        by_cases hk : kindIn ts k = true
        · rw [if_pos hk] at hg; exact ⟨ts, rfl, hk, hg⟩
        · rw [if_neg hk] at hg; cases hg
    have hto : u.tot ≤ 100000 := by
      unfold valOf at hvo
      split at hvo
      · split at hvo
        · rename_i v hv
          obtain rfl := Option.some.inj hvo
          have := rd_tot _ _ _ _ hv
          dsimp only at this; omega
        · cases hvo
      · cases hvo
    have cx_l4 := c_l4Of1 (G := G) h hs hki hvo
    refine b_enter (Post := fun v G' L' => G' = G ∧ L' = [] ∧ _) [(0, _), (1, _), (2, _)] Tryz.func4 (by kernel_rfl) Tryz.ntmps4 rfl rfl (by repeat (first | exact trivial | refine ⟨rfl, ?_⟩)) fun B hok hB hW => ?_
    repeat' (first | (refine run (t := tb) 400 rfl ?_ ?_; (focus (repeat' ((exact trivial))))) | (refine k_op rfl ?_; (refine c_fns rfl rfl rfl cx_l4 rfl ?_; rintro _ G hle ⟨uu, q1, rfl, hyes⟩; skip)) | (refine k_ff rfl ?_ ?_; (focus (((rfl)); done))))
    have cx_siz := c_sizeS hyes hto
    repeat' (first | (refine run (t := tb) 400 rfl ?_ ?_; (focus (repeat' ((exact trivial))))) | (refine k_op rfl ?_; (refine c_rt rfl rfl rfl cx_siz rfl ?_)))
    refine Nx.base hok hB ?_
    refine k_rr (vs := [_]) rfl ⟨rfl, trivial⟩ rfl (List.nil_sublist _) ⟨rfl, rfl, ?_⟩
    rfl
theorem c_FnExactValueSize {s k w : List UInt8} (h : s.length ≤ 9223372036854775807 ∧ k.length ≤ 9223372036854775807 ∧ w.length ≤ 9223372036854775807) : PuG Tryz.prog 3 [S s, S k, S w] G (· = Bo true) := by
  by_cases h1 : s.length ≤ 1048576 ∧ k.length ≤ 1048576 ∧ w.length ≤ 1048576
  · have cx_vs1 := c_ValueSizeS (G := G) h1
    have cx_vs2 := c_ValueSizeI (G := G) h1
    refine p_enter [(0, _), (1, _), (2, _)] Tryz.func3 (by kernel_rfl) Tryz.ntmps3 rfl rfl (by repeat (first | exact trivial | refine ⟨rfl, ?_⟩)) fun B hB => ?_
    repeat' (first | (refine run (t := tb) 400 rfl ?_ ?_; (focus (repeat' ((exact trivial))))) | (refine k_op rfl ?_; first | (refine c_rt rfl rfl rfl cx_vs1 rfl ?_) | (refine c_rt rfl rfl rfl cx_vs2 rfl ?_)) | (refine k_ff rfl ?_ ?_; (focus (((refine decide_eq_false ?_; (omega))); done))))
    refine k_rr (vs := [_]) rfl ⟨rfl, trivial⟩ rfl (List.nil_sublist _) ⟨rfl, rfl, ?_⟩
    rfl
  · by_cases ha : s.length ≤ 1048576
    case neg =>
      refine p_enter [(0, _), (1, _), (2, _)] Tryz.func3 (by kernel_rfl) Tryz.ntmps3 rfl rfl (by repeat (first | exact trivial | refine ⟨rfl, ?_⟩)) fun B hB => ?_
      repeat' (first | (refine run (t := tb) 400 rfl ?_ ?_; (focus (repeat' ((exact trivial))))) | (refine k_tt rfl ?_ ?_; (focus (((refine decide_eq_true ?_; (omega))); done))))
      refine k_rr (vs := [_]) rfl ⟨rfl, trivial⟩ rfl (List.nil_sublist _) ⟨rfl, rfl, ?_⟩
      rfl
    by_cases hb : k.length ≤ 1048576
    case neg =>
      refine p_enter [(0, _), (1, _), (2, _)] Tryz.func3 (by kernel_rfl) Tryz.ntmps3 rfl rfl (by repeat (first | exact trivial | refine ⟨rfl, ?_⟩)) fun B hB => ?_
      repeat' (first | (refine run (t := tb) 400 rfl ?_ ?_; (focus (repeat' ((exact trivial))))) | (refine k_tt rfl ?_ ?_; (focus (((refine decide_eq_true ?_; (omega))); done))) | (refine k_ff rfl ?_ ?_; (focus (((refine decide_eq_false ?_; (omega))); done))))
      refine k_rr (vs := [_]) rfl ⟨rfl, trivial⟩ rfl (List.nil_sublist _) ⟨rfl, rfl, ?_⟩
      rfl
    have hc : ¬ w.length ≤ 1048576 := fun hc => h1 ⟨ha, hb, hc⟩
    refine p_enter [(0, _), (1, _), (2, _)] Tryz.func3 (by kernel_rfl) Tryz.ntmps3 rfl rfl (by repeat (first | exact trivial | refine ⟨rfl, ?_⟩)) fun B hB => ?_
    repeat' (first | (refine run (t := tb) 400 rfl ?_ ?_; (focus (repeat' ((exact trivial))))) | (refine k_tt rfl ?_ ?_; (focus (((refine decide_eq_true ?_; (omega))); done))) | (refine k_ff rfl ?_ ?_; (focus (((refine decide_eq_false ?_; (omega))); done))))
    refine k_rr (vs := [_]) rfl ⟨rfl, trivial⟩ rfl (List.nil_sublist _) ⟨rfl, rfl, ?_⟩
    rfl
end Go.E
