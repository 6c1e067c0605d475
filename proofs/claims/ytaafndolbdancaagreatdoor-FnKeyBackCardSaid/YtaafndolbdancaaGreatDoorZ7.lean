/- Contracts and plain laws that the statement rests on, part 7. Conditions: as each says. -/
import Derived.Test.YtaafndolbdancaaGreatDoorZ6
set_option linter.unusedVariables false
set_option linter.unusedSimpArgs false
namespace Go.E
set_option maxRecDepth 20000
set_option maxHeartbeats 2000000
open Go.Proofs
variable {G : Gh}
theorem c_openE {n : Nat} {u : Value} {vs : List TyX} {a : Option Addr} {ca : Nat} {nm : List UInt8} {fs : List Fld} {k s : List UInt8} (hR : OpnC n u vs) (h : SchR G u vs) (hw : SchW (tys vs)) (hr : refV vs (64 :: k) = some ((a, ca), ⟨69, nm, fs⟩)) (hk : kOk (64 :: k) = true) (hkl : k.length ≤ 999) (hs : s.length ≤ 1000) (hn : n ≤ 999) :
  FnS Tryz.prog 49 [Ag [u], S s, S (64 :: k), I (n + 1 : Nat)] G (ReadP (tys vs) (rk false (tys vs) (n + 1) (64 :: k) s) (64 :: k)) := by
 have edn : ((n + 1 : Nat) : Int) - 1 = (n : Nat) := oM
 have hk0 : bt (64 :: k) (Int.toNat 0) = 64 := bt_zero 64 k
 have hkl2 : (64 :: k).length = k.length + 1 := rfl
 have hvl : vs.length ≤ 8 := by have := hw.len; unfold tys at this; simpa using this
 have href := refV_ty vs (64 :: k)
 rw [hr] at href
 have cx_rf := c_ref (G := G) (k := 64 :: k) h oM hk oM
 rw [hr] at cx_rf
 have cx_rf : PuG Tryz.prog 88 [u, S (64 :: k)] G (· = Tu [Ag [U8 (69 : Nat), S nm, .slice a fs.length ca], Bo true]) := cx_rf
 have hxm := refV_mem hr
 have hxt : (⟨69, nm, fs⟩ : Ty) ∈ tys vs := List.mem_map_of_mem hxm
 have hTW := hw.ty _ hxt
 have hfl := hTW.len
 dsimp only at hfl
 rw [rk_typed href.symm]
 cases s with
 | nil =>
  have hno : rkTyped false (tys vs) (rk false (tys vs) n) ⟨69, nm, fs⟩ [] = none := by unfold rkTyped; rw [if_neg (by simp)]
  rw [hno]
  refine jB [(0, _), (1, _), (2, _), (3, _)] Tryz.func49 Tryz.ntmps49 fun B hok hB hW => ?_
  repeat' (first | refine jM ?_ | (refine jo ?_; first | refine jO fun _ => ?_ | refine jAl rfl ?_ | refine jL fun _ => ?_ | refine jD rfl rfl rfl ?_ | refine jC rfl rfl rfl ?_ | refine jV (g_bld rfl rfl) ?_ | refine jF fun _ => ?_ | refine jV (g_bsB rfl rfl (by (repeat (first | exact BL.nil | apply BL.lit rfl)); done)) ?_ | (refine c_rt rfl rfl rfl cx_rf rfl ?_)) | (refine k_tt rfl rfl ?_))
  rename_i xr xt y xb
  refine k_loop (ι := Unit) (fun i => True) (fun i => [(1, S []), (2, S (64 :: k)), (3, I (n + 1 : Nat)), (4, Pt xr 0), (11, Pt xt 0), (13, Pt y 0)]) (fun _ => G) (fun i => [.blk y (.cells (List.toArray [S (64 :: k), S [69], nilS, nilS]) tLv (0, 0))]) (fun i => 0) () ?_ tU rfl sB (fun i Hi => ?_)
  ·trivial
  repeat' (first | (refine jR ?_) | (refine k_ff rfl rfl ?_))
  all_goals refine jZ (vs := [_, _, _]) rfl ⟨rfl, rfl, rfl, trivial⟩ rfl ⟨Gh.le.refl _, rfl, ?_⟩
  all_goals (rw [oneOf_three]; exact ⟨_, _, _, rfl, fun h => (by cases h), fun _ => rfl⟩)
 | cons b r =>
  have hb0 : bt (b :: r) (Int.toNat 0) = b.toNat := bt_zero b r
  have hbl0 : (b :: r).length = r.length + 1 := rfl
  have cx_f0 := c_fieldS (G := G) (x := ((a, ca), ⟨69, nm, fs⟩)) (tag := (b.toNat : Int)) (h.fl _ hxm) (by dsimp only; omega)
  cases hd : fldT fs (b.toNat : Int) with
  | none =>
   rw [hd] at cx_f0
   have cx_fld : PuG Tryz.prog 89 [Ag [U8 (69 : Nat), S nm, .slice a fs.length ca], I ((bt (b :: r) (Int.toNat 0) : Nat) : Int)] G (· = Tu [Ag [I 0, S [], S [], S []], Bo false]) := by rw [hb0]; exact cx_f0
   have hno : rkTyped false (tys vs) (rk false (tys vs) n) ⟨69, nm, fs⟩ (b :: r) = none := by unfold rkTyped; rw [if_neg (by simp)]; dsimp only; rw [hd]
   rw [hno]
   refine jB [(0, _), (1, _), (2, _), (3, _)] Tryz.func49 Tryz.ntmps49 fun B hok hB hW => ?_
   repeat' (first | refine jM ?_ | (refine jo ?_; first | refine jO fun _ => ?_ | refine jAl rfl ?_ | refine jL fun _ => ?_ | refine jD rfl rfl rfl ?_ | refine jC rfl rfl rfl ?_ | refine jV (g_bld rfl rfl) ?_ | refine jF fun _ => ?_ | refine jV (g_bsB rfl rfl (by (repeat (first | exact BL.nil | apply BL.lit rfl)); done)) ?_ | (refine c_rt rfl rfl rfl cx_rf rfl ?_)) | (refine k_tt rfl rfl ?_))
   rename_i xr xt y xb
   refine k_loop (ι := Unit) (fun i => True) (fun i => [(1, S (b :: r)), (2, S (64 :: k)), (3, I (n + 1 : Nat)), (4, Pt xr 0), (11, Pt xt 0), (13, Pt y 0)]) (fun _ => G) (fun i => [.blk y (.cells (List.toArray [S (64 :: k), S [69], nilS, nilS]) tLv (0, 0)), .blk xt (.cells (List.toArray [U8 (69 : Nat), S nm, .slice a fs.length ca]) tTyOA (0, 0))]) (fun i => 0) () ?_ tU rfl sB (fun i Hi => ?_)
   ·trivial
   repeat' (first | refine jM ?_ | (refine jo ?_; first | refine jAl rfl ?_ | (refine jAf rfl ?_)) | (refine k_gf rfl rfl rfl ?_) | (refine k_tt rfl rfl ?_) | (refine k_ff rfl rfl ?_))
   (refine k_any (s_any (id := 14) [.blk xt (.cells (List.toArray [U8 (69 : Nat), S nm, .slice a fs.length ca]) tTyOA (0, 0))] (by intro y hy; simp only [List.mem_cons, List.not_mem_nil, or_false] at hy ⊢; simp [hy]) mixed ?_); refine jW 8 [1, 2, 3] (bts 11 14) ?_; (refine jG (bts 11 15) 0 rfl (g_ldA rfl rfl rfl rfl) ?_); refine x_all [4, 8] kR dC ⟨?_, ?_, trivial⟩; (focus (refine x_opg rfl rfl ?_; (refine c_rt rfl rfl rfl cx_fld rfl ?_); refine jK (bts 11 31) ?_; refine jW 3 [5, 6, 7] (bts 11 255) ?_; refine jA 8 rfl ?_; (refine jL fun _ => ?_); refine jK (bts 11 511) ?_; refine jA 9 rfl ?_; (refine jC rfl rfl rfl ?_); refine jK (bts 11 1023) ?_; refine jW 0 [10] (bts 11 2047) ?_; refine jQ ?_)); rotate_left 1; (focus (refine x_opg rfl rfl ?_; (refine jL fun _ => ?_); refine jK (bts 11 271) ?_; refine jA 4 rfl ?_; (refine c_rt rfl rfl rfl cx_fld rfl ?_); refine jK (bts 11 287) ?_; refine jW 2 [5, 6, 7] (bts 11 511) ?_; refine jA 9 rfl ?_; (refine jC rfl rfl rfl ?_); refine jK (bts 11 1023) ?_; refine jW 0 [10] (bts 11 2047) ?_; refine jQ ?_)); rotate_left 1)
   all_goals repeat' (first | (refine jR ?_) | (refine k_tt rfl rfl ?_))
   all_goals refine jZ (vs := [_, _, _]) rfl ⟨rfl, rfl, rfl, trivial⟩ rfl ⟨Gh.le.refl _, rfl, ?_⟩
   all_goals (rw [oneOf_three]; exact ⟨_, _, _, rfl, fun h => (by cases h), fun _ => rfl⟩)
  | some d =>
   rw [hd] at cx_f0
   have cx_fld : PuG Tryz.prog 89 [Ag [U8 (69 : Nat), S nm, .slice a fs.length ca], I ((bt (b :: r) (Int.toNat 0) : Nat) : Int)] G (· = Tu [Ag [I d.tag, S d.name, S d.kind, S d.stand], Bo true]) := by rw [hb0]; exact cx_f0
   have hdm : d ∈ fs := List.mem_of_find?_eq_some hd
   have hrk : rkTyped false (tys vs) (rk false (tys vs) n) ⟨69, nm, fs⟩ (b :: r) = some (.nd 69 [] d.tag [], r) := by unfold rkTyped; rw [if_neg (by simp)]; dsimp only; rw [hd]; dsimp only; rw [if_pos rfl]
   rw [hrk]
   refine jB [(0, _), (1, _), (2, _), (3, _)] Tryz.func49 Tryz.ntmps49 fun B hok hB hW => ?_
   repeat' (first | refine jM ?_ | (refine jo ?_; first | refine jO fun _ => ?_ | refine jAl rfl ?_ | refine jL fun _ => ?_ | refine jD rfl rfl rfl ?_ | refine jC rfl rfl rfl ?_ | refine jV (g_bld rfl rfl) ?_ | refine jF fun _ => ?_ | refine jV (g_bsB rfl rfl (by (repeat (first | exact BL.nil | apply BL.lit rfl)); done)) ?_ | (refine c_rt rfl rfl rfl cx_rf rfl ?_)) | (refine k_tt rfl rfl ?_))
   rename_i xr xt y xb
   refine Nx.addNil tIntOA 1 ?_
   refine k_loop (ι := Unit) (fun i => True) (fun i => [(1, S (b :: r)), (2, S (64 :: k)), (3, I (n + 1 : Nat)), (4, Pt xr 0), (11, Pt xt 0), (13, Pt y 0)]) (fun _ => G) (fun i => [.acc (.slice none 0 0) tIntOA 1 0 [], .blk y (.cells (List.toArray [S (64 :: k), S [69], .slice none 0 0, nilS]) tLv (0, 0)), .blk xt (.cells (List.toArray [U8 (69 : Nat), S nm, .slice a fs.length ca]) tTyOA (0, 0))]) (fun i => 0) () ?_ tU rfl sB (fun i Hi => ?_)
   ·trivial
   repeat' (first | refine jM ?_ | (refine jo ?_; first | refine jAl rfl ?_ | (refine jAf rfl ?_)) | (refine k_gf rfl rfl rfl ?_) | (refine k_tt rfl rfl ?_) | (refine k_ff rfl rfl ?_))
   (refine k_any (s_any (id := 14) [.blk xt (.cells (List.toArray [U8 (69 : Nat), S nm, .slice a fs.length ca]) tTyOA (0, 0))] (by intro y hy; simp only [List.mem_cons, List.not_mem_nil, or_false] at hy ⊢; simp [hy]) mixed ?_); refine jW 8 [1, 2, 3] (bts 11 14) ?_; (refine jG (bts 11 15) 0 rfl (g_ldA rfl rfl rfl rfl) ?_); refine x_all [4, 8] kR dC ⟨?_, ?_, trivial⟩; (focus (refine x_opg rfl rfl ?_; (refine c_rt rfl rfl rfl cx_fld rfl ?_); refine jK (bts 11 31) ?_; refine jW 3 [5, 6, 7] (bts 11 255) ?_; refine jA 8 rfl ?_; (refine jL fun _ => ?_); refine jK (bts 11 511) ?_; refine jA 9 rfl ?_; (refine jC rfl rfl rfl ?_); refine jK (bts 11 1023) ?_; refine jW 0 [10] (bts 11 2047) ?_; refine jQ ?_)); rotate_left 1; (focus (refine x_opg rfl rfl ?_; (refine jL fun _ => ?_); refine jK (bts 11 271) ?_; refine jA 4 rfl ?_; (refine c_rt rfl rfl rfl cx_fld rfl ?_); refine jK (bts 11 287) ?_; refine jW 2 [5, 6, 7] (bts 11 511) ?_; refine jA 9 rfl ?_; (refine jC rfl rfl rfl ?_); refine jK (bts 11 1023) ?_; refine jW 0 [10] (bts 11 2047) ?_; refine jQ ?_)); rotate_left 1)
   all_goals repeat' (first | (refine jR ?_) | (refine k_ff rfl rfl ?_))
   all_goals
    rename_i x15
    (refine k_any (s_any (id := 17) [.blk x15 (.cells (List.toArray [I d.tag, S d.name, S d.kind, S d.stand]) tFdOA (0, 0))] (by intro y hy; simp only [List.mem_cons, List.not_mem_nil, or_false] at hy ⊢; simp [hy]) mixed ?_); refine jW 7 [0, 1, 2, 3, 5] (bts 12 47) ?_; (refine jG (bts 12 111) 6 rfl (g_ld rfl rfl rfl) ?_); refine x_all [4, 7] kR dC ⟨?_, ?_, trivial⟩; (focus (refine x_opg rfl rfl ?_; (refine jAl rfl ?_); refine jK (bts 12 127) ?_; refine jA 7 rfl ?_; (refine jF fun _ => ?_); refine jK (bts 12 255) ?_; refine jA 8 rfl ?_; ((refine c_apX rfl rfl rfl rfl rfl rfl rfl rfl rfl ?_ fun _ _ => ?_; (focus ((omega); done)))); refine jK (bts 12 511) ?_; refine jW 1 [9, 10] (bts 12 2047) ?_; refine jA 11 rfl ?_; (refine jD rfl rfl rfl ?_); refine jK (bts 12 4095) ?_; refine jQ ?_)); rotate_left 1; (focus (refine x_opg rfl rfl ?_; (refine jF fun _ => ?_); refine jK (bts 12 239) ?_; refine jA 4 rfl ?_; (refine jAl rfl ?_); refine jK (bts 12 255) ?_; refine jA 8 rfl ?_; ((refine c_apX rfl rfl rfl rfl rfl rfl rfl rfl rfl ?_ fun _ _ => ?_; (focus ((omega); done)))); refine jK (bts 12 511) ?_; refine jW 1 [9, 10] (bts 12 2047) ?_; refine jA 11 rfl ?_; (refine jD rfl rfl rfl ?_); refine jK (bts 12 4095) ?_; refine jQ ?_)); rotate_left 1)
   all_goals repeat' (first | refine jM ?_ | (refine jo ?_; (refine jAl rfl ?_)) | (refine k_tt rfl rfl ?_))
   all_goals
    rename_i _ y1 yc
    refine Nx.sealS (v := .slice (some ⟨y1, 0, none⟩) (0 + 1) yc) fun G2 hG2 hs1 => ?_
    refine Nx.sealC (b := y) fun G3 hG3 hsg => ?_
    refine jZ (vs := [_, _, _]) rfl ⟨rfl, rfl, rfl, trivial⟩ rfl ⟨(hG2.trans hG3), rfl, ?_⟩
    rw [oneOf_three]
    obtain ⟨hc1, hg1⟩ := slv_1 hs1
    obtain ⟨c', rfl⟩ : ∃ c', yc = c' + 1 := ⟨yc - 1, oM⟩
    exact ⟨_, _, _, rfl, fun _ => ⟨.nd 69 [] d.tag [], y, rfl, rfl, .enm (64 :: k) y y1 ⟨69, nm, fs⟩ d ⟨href.symm, rfl⟩ hdm hsg (hg1.mono hG3)⟩, fun h => (by cases h)⟩
theorem c_openU {n : Nat} {u : Value} {vs : List TyX} {a : Option Addr} {ca : Nat} {nm : List UInt8} {fs : List Fld} {k s : List UInt8} (hR : OpnC n u vs) (h : SchR G u vs) (hw : SchW (tys vs)) (hr : refV vs (64 :: k) = some ((a, ca), ⟨85, nm, fs⟩)) (hk : kOk (64 :: k) = true) (hkl : k.length ≤ 999) (hs : s.length ≤ 1000) (hn : n ≤ 999) :
  FnS Tryz.prog 49 [Ag [u], S s, S (64 :: k), I (n + 1 : Nat)] G (ReadP (tys vs) (rk false (tys vs) (n + 1) (64 :: k) s) (64 :: k)) := by
 have edn : ((n + 1 : Nat) : Int) - 1 = (n : Nat) := oM
 have hk0 : bt (64 :: k) (Int.toNat 0) = 64 := bt_zero 64 k
 have hkl2 : (64 :: k).length = k.length + 1 := rfl
 have hvl : vs.length ≤ 8 := by have := hw.len; unfold tys at this; simpa using this
 have href := refV_ty vs (64 :: k)
 rw [hr] at href
 have cx_rf := c_ref (G := G) (k := 64 :: k) h oM hk oM
 rw [hr] at cx_rf
 have cx_rf : PuG Tryz.prog 88 [u, S (64 :: k)] G (· = Tu [Ag [U8 (85 : Nat), S nm, .slice a fs.length ca], Bo true]) := cx_rf
 have hxm := refV_mem hr
 have hxt : (⟨85, nm, fs⟩ : Ty) ∈ tys vs := List.mem_map_of_mem hxm
 have hTW := hw.ty _ hxt
 have hfl := hTW.len
 dsimp only at hfl
 rw [rk_typed href.symm]
 cases s with
 | nil =>
  have hno : rkTyped false (tys vs) (rk false (tys vs) n) ⟨85, nm, fs⟩ [] = none := by unfold rkTyped; rw [if_neg (by simp)]
  rw [hno]
  refine jB [(0, _), (1, _), (2, _), (3, _)] Tryz.func49 Tryz.ntmps49 fun B hok hB hW => ?_
  repeat' (first | refine jM ?_ | (refine jo ?_; first | refine jO fun _ => ?_ | refine jAl rfl ?_ | refine jL fun _ => ?_ | refine jD rfl rfl rfl ?_ | refine jC rfl rfl rfl ?_ | refine jV (g_bld rfl rfl) ?_ | refine jF fun _ => ?_ | refine jV (g_bsB rfl rfl (by (repeat (first | exact BL.nil | apply BL.lit rfl)); done)) ?_ | (refine c_rt rfl rfl rfl cx_rf rfl ?_)) | (refine k_tt rfl rfl ?_))
  rename_i xr xt y xb
  refine k_loop (ι := Unit) (fun i => True) (fun i => [(1, S []), (2, S (64 :: k)), (3, I (n + 1 : Nat)), (4, Pt xr 0), (11, Pt xt 0), (13, Pt y 0)]) (fun _ => G) (fun i => [.blk y (.cells (List.toArray [S (64 :: k), S [85], nilS, nilS]) tLv (0, 0))]) (fun i => 0) () ?_ tU rfl sB (fun i Hi => ?_)
  ·trivial
  repeat' (first | (refine jR ?_) | (refine k_ff rfl rfl ?_))
  all_goals refine jZ (vs := [_, _, _]) rfl ⟨rfl, rfl, rfl, trivial⟩ rfl ⟨Gh.le.refl _, rfl, ?_⟩
  all_goals (rw [oneOf_three]; exact ⟨_, _, _, rfl, fun h => (by cases h), fun _ => rfl⟩)
 | cons b r =>
  have hb0 : bt (b :: r) (Int.toNat 0) = b.toNat := bt_zero b r
  have hbl0 : (b :: r).length = r.length + 1 := rfl
  have cx_f0 := c_fieldS (G := G) (x := ((a, ca), ⟨85, nm, fs⟩)) (tag := (b.toNat : Int)) (h.fl _ hxm) (by dsimp only; omega)
  cases hd : fldT fs (b.toNat : Int) with
  | none =>
   rw [hd] at cx_f0
   have cx_fld : PuG Tryz.prog 89 [Ag [U8 (85 : Nat), S nm, .slice a fs.length ca], I ((bt (b :: r) (Int.toNat 0) : Nat) : Int)] G (· = Tu [Ag [I 0, S [], S [], S []], Bo false]) := by rw [hb0]; exact cx_f0
   have hno : rkTyped false (tys vs) (rk false (tys vs) n) ⟨85, nm, fs⟩ (b :: r) = none := by unfold rkTyped; rw [if_neg (by simp)]; dsimp only; rw [hd]
   rw [hno]
   refine jB [(0, _), (1, _), (2, _), (3, _)] Tryz.func49 Tryz.ntmps49 fun B hok hB hW => ?_
   repeat' (first | refine jM ?_ | (refine jo ?_; first | refine jO fun _ => ?_ | refine jAl rfl ?_ | refine jL fun _ => ?_ | refine jD rfl rfl rfl ?_ | refine jC rfl rfl rfl ?_ | refine jV (g_bld rfl rfl) ?_ | refine jF fun _ => ?_ | refine jV (g_bsB rfl rfl (by (repeat (first | exact BL.nil | apply BL.lit rfl)); done)) ?_ | (refine c_rt rfl rfl rfl cx_rf rfl ?_)) | (refine k_tt rfl rfl ?_))
   rename_i xr xt y xb
   refine k_loop (ι := Unit) (fun i => True) (fun i => [(1, S (b :: r)), (2, S (64 :: k)), (3, I (n + 1 : Nat)), (4, Pt xr 0), (11, Pt xt 0), (13, Pt y 0)]) (fun _ => G) (fun i => [.blk y (.cells (List.toArray [S (64 :: k), S [85], nilS, nilS]) tLv (0, 0)), .blk xt (.cells (List.toArray [U8 (85 : Nat), S nm, .slice a fs.length ca]) tTyOA (0, 0))]) (fun i => 0) () ?_ tU rfl sB (fun i Hi => ?_)
   ·trivial
   repeat' (first | refine jM ?_ | (refine jo ?_; first | refine jAl rfl ?_ | (refine jAf rfl ?_)) | (refine k_gf rfl rfl rfl ?_) | (refine k_tt rfl rfl ?_) | (refine k_ff rfl rfl ?_))
   (refine k_any (s_any (id := 14) [.blk xt (.cells (List.toArray [U8 (85 : Nat), S nm, .slice a fs.length ca]) tTyOA (0, 0))] (by intro y hy; simp only [List.mem_cons, List.not_mem_nil, or_false] at hy ⊢; simp [hy]) mixed ?_); refine jW 8 [1, 2, 3] (bts 11 14) ?_; (refine jG (bts 11 15) 0 rfl (g_ldA rfl rfl rfl rfl) ?_); refine x_all [4, 8] kR dC ⟨?_, ?_, trivial⟩; (focus (refine x_opg rfl rfl ?_; (refine c_rt rfl rfl rfl cx_fld rfl ?_); refine jK (bts 11 31) ?_; refine jW 3 [5, 6, 7] (bts 11 255) ?_; refine jA 8 rfl ?_; (refine jL fun _ => ?_); refine jK (bts 11 511) ?_; refine jA 9 rfl ?_; (refine jC rfl rfl rfl ?_); refine jK (bts 11 1023) ?_; refine jW 0 [10] (bts 11 2047) ?_; refine jQ ?_)); rotate_left 1; (focus (refine x_opg rfl rfl ?_; (refine jL fun _ => ?_); refine jK (bts 11 271) ?_; refine jA 4 rfl ?_; (refine c_rt rfl rfl rfl cx_fld rfl ?_); refine jK (bts 11 287) ?_; refine jW 2 [5, 6, 7] (bts 11 511) ?_; refine jA 9 rfl ?_; (refine jC rfl rfl rfl ?_); refine jK (bts 11 1023) ?_; refine jW 0 [10] (bts 11 2047) ?_; refine jQ ?_)); rotate_left 1)
   all_goals repeat' (first | (refine jR ?_) | (refine k_tt rfl rfl ?_))
   all_goals refine jZ (vs := [_, _, _]) rfl ⟨rfl, rfl, rfl, trivial⟩ rfl ⟨Gh.le.refl _, rfl, ?_⟩
   all_goals (rw [oneOf_three]; exact ⟨_, _, _, rfl, fun h => (by cases h), fun _ => rfl⟩)
  | some d =>
   rw [hd] at cx_f0
   have cx_fld : PuG Tryz.prog 89 [Ag [U8 (85 : Nat), S nm, .slice a fs.length ca], I ((bt (b :: r) (Int.toNat 0) : Nat) : Int)] G (· = Tu [Ag [I d.tag, S d.name, S d.kind, S d.stand], Bo true]) := by rw [hb0]; exact cx_f0
   have hdm : d ∈ fs := List.mem_of_find?_eq_some hd
   have hdk : kindIn (tys vs) d.kind = true := kind_in hw hxt (by dsimp only; omega) hdm
   have hrk : rkTyped false (tys vs) (rk false (tys vs) n) ⟨85, nm, fs⟩ (b :: r) = (rk false (tys vs) n d.kind r).map fun x => (.nd 85 [] d.tag [x.1], x.2) := by unfold rkTyped; rw [if_neg (by simp)]; dsimp only; rw [hd]; dsimp only; rw [if_neg (by simp)]
   rw [hrk]
   have hop := hR G d.kind r h hdk (by simp only [List.length_cons] at hs; omega)
   rw [← edn] at hop
   cases hf : rk false (tys vs) n d.kind r with
   | none =>
    rw [hf] at hop
    have cx_op0 : FnS Tryz.prog 20 [Ag [u], S r, S d.kind, I (((n + 1 : Nat) : Int) - 1)] G (fun v _ => ∃ q1 r1, v = Tu [.pointer q1, S r1, Bo false]) := hop.mono fun v G' L' h => ⟨h.1, h.2.1, readP_none h.2.2⟩
    clear hop
    refine jB [(0, _), (1, _), (2, _), (3, _)] Tryz.func49 Tryz.ntmps49 fun B hok hB hW => ?_
    repeat' (first | refine jM ?_ | (refine jo ?_; first | refine jO fun _ => ?_ | refine jAl rfl ?_ | refine jL fun _ => ?_ | refine jD rfl rfl rfl ?_ | refine jC rfl rfl rfl ?_ | refine jV (g_bld rfl rfl) ?_ | refine jF fun _ => ?_ | refine jV (g_bsB rfl rfl (by (repeat (first | exact BL.nil | apply BL.lit rfl)); done)) ?_ | (refine c_rt rfl rfl rfl cx_rf rfl ?_)) | (refine k_tt rfl rfl ?_))
    rename_i xr xt y xb
    refine Nx.addNil tIntOA 1 ?_
    refine k_loop (ι := Unit) (fun i => True) (fun i => [(1, S (b :: r)), (2, S (64 :: k)), (3, I (n + 1 : Nat)), (4, Pt xr 0), (11, Pt xt 0), (13, Pt y 0)]) (fun _ => G) (fun i => [.acc (.slice none 0 0) tIntOA 1 0 [], .blk y (.cells (List.toArray [S (64 :: k), S [85], .slice none 0 0, .slice none 0 0]) tLv (0, 0)), .blk xt (.cells (List.toArray [U8 (85 : Nat), S nm, .slice a fs.length ca]) tTyOA (0, 0)), .blk xr (.cells (List.toArray [u]) tRdA (0, 0))]) (fun i => 0) () ?_ tU rfl sB (fun i Hi => ?_)
    ·trivial
    repeat' (first | refine jM ?_ | (refine jo ?_; first | refine jAl rfl ?_ | (refine jAf rfl ?_)) | (refine k_gf rfl rfl rfl ?_) | (refine k_tt rfl rfl ?_) | (refine k_ff rfl rfl ?_))
    (refine k_any (s_any (id := 14) [.blk xt (.cells (List.toArray [U8 (85 : Nat), S nm, .slice a fs.length ca]) tTyOA (0, 0))] (by intro y hy; simp only [List.mem_cons, List.not_mem_nil, or_false] at hy ⊢; simp [hy]) mixed ?_); refine jW 8 [1, 2, 3] (bts 11 14) ?_; (refine jG (bts 11 15) 0 rfl (g_ldA rfl rfl rfl rfl) ?_); refine x_all [4, 8] kR dC ⟨?_, ?_, trivial⟩; (focus (refine x_opg rfl rfl ?_; (refine c_rt rfl rfl rfl cx_fld rfl ?_); refine jK (bts 11 31) ?_; refine jW 3 [5, 6, 7] (bts 11 255) ?_; refine jA 8 rfl ?_; (refine jL fun _ => ?_); refine jK (bts 11 511) ?_; refine jA 9 rfl ?_; (refine jC rfl rfl rfl ?_); refine jK (bts 11 1023) ?_; refine jW 0 [10] (bts 11 2047) ?_; refine jQ ?_)); rotate_left 1; (focus (refine x_opg rfl rfl ?_; (refine jL fun _ => ?_); refine jK (bts 11 271) ?_; refine jA 4 rfl ?_; (refine c_rt rfl rfl rfl cx_fld rfl ?_); refine jK (bts 11 287) ?_; refine jW 2 [5, 6, 7] (bts 11 511) ?_; refine jA 9 rfl ?_; (refine jC rfl rfl rfl ?_); refine jK (bts 11 1023) ?_; refine jW 0 [10] (bts 11 2047) ?_; refine jQ ?_)); rotate_left 1)
    all_goals repeat' (first | (refine jR ?_) | (refine k_ff rfl rfl ?_))
    all_goals
     rename_i x15
     (refine k_any (s_any (id := 17) [.blk x15 (.cells (List.toArray [I d.tag, S d.name, S d.kind, S d.stand]) tFdOA (0, 0))] (by intro y hy; simp only [List.mem_cons, List.not_mem_nil, or_false] at hy ⊢; simp [hy]) mixed ?_); refine jW 7 [0, 1, 2, 3, 5] (bts 12 47) ?_; (refine jG (bts 12 111) 6 rfl (g_ld rfl rfl rfl) ?_); refine x_all [4, 7] kR dC ⟨?_, ?_, trivial⟩; (focus (refine x_opg rfl rfl ?_; (refine jAl rfl ?_); refine jK (bts 12 127) ?_; refine jA 7 rfl ?_; (refine jF fun _ => ?_); refine jK (bts 12 255) ?_; refine jA 8 rfl ?_; ((refine c_apX rfl rfl rfl rfl rfl rfl rfl rfl rfl ?_ fun _ _ => ?_; (focus ((omega); done)))); refine jK (bts 12 511) ?_; refine jW 1 [9, 10] (bts 12 2047) ?_; refine jA 11 rfl ?_; (refine jD rfl rfl rfl ?_); refine jK (bts 12 4095) ?_; refine jQ ?_)); rotate_left 1; (focus (refine x_opg rfl rfl ?_; (refine jF fun _ => ?_); refine jK (bts 12 239) ?_; refine jA 4 rfl ?_; (refine jAl rfl ?_); refine jK (bts 12 255) ?_; refine jA 8 rfl ?_; ((refine c_apX rfl rfl rfl rfl rfl rfl rfl rfl rfl ?_ fun _ _ => ?_; (focus ((omega); done)))); refine jK (bts 12 511) ?_; refine jW 1 [9, 10] (bts 12 2047) ?_; refine jA 11 rfl ?_; (refine jD rfl rfl rfl ?_); refine jK (bts 12 4095) ?_; refine jQ ?_)); rotate_left 1)
    all_goals repeat' (first | refine jM ?_ | (refine jo ?_; first | refine jAl rfl ?_ | refine jAm rfl ?_ | (refine c_fns rfl rfl rfl cx_op0 rfl ?_; rintro _ G hle ⟨q1, r1, rfl⟩; skip)) | (refine k_tt rfl rfl ?_) | (refine k_ff rfl rfl ?_))
    all_goals refine jZ (vs := [_, _, _]) rfl ⟨rfl, rfl, rfl, trivial⟩ rfl ⟨hle, rfl, ?_⟩
    all_goals (rw [oneOf_three]; exact ⟨_, _, _, rfl, fun h => (by cases h), fun _ => rfl⟩)
   | some w =>
    obtain ⟨w, r'⟩ := w
    rw [hf] at hop
    have cx_op1 : FnS Tryz.prog 20 [Ag [u], S r, S d.kind, I (((n + 1 : Nat) : Int) - 1)] G (fun v G' => ∃ wb, v = Tu [Pt wb 0, S r', Bo true] ∧ RepR G' (tys vs) w d.kind wb) := hop.mono fun v G' L' h => ⟨h.1, h.2.1, readP_some h.2.2⟩
    clear hop
    refine jB [(0, _), (1, _), (2, _), (3, _)] Tryz.func49 Tryz.ntmps49 fun B hok hB hW => ?_
    repeat' (first | refine jM ?_ | (refine jo ?_; first | refine jO fun _ => ?_ | refine jAl rfl ?_ | refine jL fun _ => ?_ | refine jD rfl rfl rfl ?_ | refine jC rfl rfl rfl ?_ | refine jV (g_bld rfl rfl) ?_ | refine jF fun _ => ?_ | refine jV (g_bsB rfl rfl (by (repeat (first | exact BL.nil | apply BL.lit rfl)); done)) ?_ | (refine c_rt rfl rfl rfl cx_rf rfl ?_)) | (refine k_tt rfl rfl ?_))
    rename_i xr xt y xb
    refine Nx.addNil tIntOA 1 ?_
    refine k_loop (ι := Unit) (fun i => True) (fun i => [(1, S (b :: r)), (2, S (64 :: k)), (3, I (n + 1 : Nat)), (4, Pt xr 0), (11, Pt xt 0), (13, Pt y 0)]) (fun _ => G) (fun i => [.acc (.slice none 0 0) tIntOA 1 0 [], .blk y (.cells (List.toArray [S (64 :: k), S [85], .slice none 0 0, .slice none 0 0]) tLv (0, 0)), .blk xt (.cells (List.toArray [U8 (85 : Nat), S nm, .slice a fs.length ca]) tTyOA (0, 0)), .blk xr (.cells (List.toArray [u]) tRdA (0, 0))]) (fun i => 0) () ?_ tU rfl sB (fun i Hi => ?_)
    ·trivial
    repeat' (first | refine jM ?_ | (refine jo ?_; first | refine jAl rfl ?_ | (refine jAf rfl ?_)) | (refine k_gf rfl rfl rfl ?_) | (refine k_tt rfl rfl ?_) | (refine k_ff rfl rfl ?_))
    (refine k_any (s_any (id := 14) [.blk xt (.cells (List.toArray [U8 (85 : Nat), S nm, .slice a fs.length ca]) tTyOA (0, 0))] (by intro y hy; simp only [List.mem_cons, List.not_mem_nil, or_false] at hy ⊢; simp [hy]) mixed ?_); refine jW 8 [1, 2, 3] (bts 11 14) ?_; (refine jG (bts 11 15) 0 rfl (g_ldA rfl rfl rfl rfl) ?_); refine x_all [4, 8] kR dC ⟨?_, ?_, trivial⟩; (focus (refine x_opg rfl rfl ?_; (refine c_rt rfl rfl rfl cx_fld rfl ?_); refine jK (bts 11 31) ?_; refine jW 3 [5, 6, 7] (bts 11 255) ?_; refine jA 8 rfl ?_; (refine jL fun _ => ?_); refine jK (bts 11 511) ?_; refine jA 9 rfl ?_; (refine jC rfl rfl rfl ?_); refine jK (bts 11 1023) ?_; refine jW 0 [10] (bts 11 2047) ?_; refine jQ ?_)); rotate_left 1; (focus (refine x_opg rfl rfl ?_; (refine jL fun _ => ?_); refine jK (bts 11 271) ?_; refine jA 4 rfl ?_; (refine c_rt rfl rfl rfl cx_fld rfl ?_); refine jK (bts 11 287) ?_; refine jW 2 [5, 6, 7] (bts 11 511) ?_; refine jA 9 rfl ?_; (refine jC rfl rfl rfl ?_); refine jK (bts 11 1023) ?_; refine jW 0 [10] (bts 11 2047) ?_; refine jQ ?_)); rotate_left 1)
    all_goals repeat' (first | (refine jR ?_) | (refine k_ff rfl rfl ?_))
    all_goals
     rename_i x15
     (refine k_any (s_any (id := 17) [.blk x15 (.cells (List.toArray [I d.tag, S d.name, S d.kind, S d.stand]) tFdOA (0, 0))] (by intro y hy; simp only [List.mem_cons, List.not_mem_nil, or_false] at hy ⊢; simp [hy]) mixed ?_); refine jW 7 [0, 1, 2, 3, 5] (bts 12 47) ?_; (refine jG (bts 12 111) 6 rfl (g_ld rfl rfl rfl) ?_); refine x_all [4, 7] kR dC ⟨?_, ?_, trivial⟩; (focus (refine x_opg rfl rfl ?_; (refine jAl rfl ?_); refine jK (bts 12 127) ?_; refine jA 7 rfl ?_; (refine jF fun _ => ?_); refine jK (bts 12 255) ?_; refine jA 8 rfl ?_; ((refine c_apX rfl rfl rfl rfl rfl rfl rfl rfl rfl ?_ fun _ _ => ?_; (focus ((omega); done)))); refine jK (bts 12 511) ?_; refine jW 1 [9, 10] (bts 12 2047) ?_; refine jA 11 rfl ?_; (refine jD rfl rfl rfl ?_); refine jK (bts 12 4095) ?_; refine jQ ?_)); rotate_left 1; (focus (refine x_opg rfl rfl ?_; (refine jF fun _ => ?_); refine jK (bts 12 239) ?_; refine jA 4 rfl ?_; (refine jAl rfl ?_); refine jK (bts 12 255) ?_; refine jA 8 rfl ?_; ((refine c_apX rfl rfl rfl rfl rfl rfl rfl rfl rfl ?_ fun _ _ => ?_; (focus ((omega); done)))); refine jK (bts 12 511) ?_; refine jW 1 [9, 10] (bts 12 2047) ?_; refine jA 11 rfl ?_; (refine jD rfl rfl rfl ?_); refine jK (bts 12 4095) ?_; refine jQ ?_)); rotate_left 1)
    all_goals repeat' (first | refine jM ?_ | (refine jo ?_; first | refine jAl rfl ?_ | refine jAm rfl ?_ | refine jF fun _ => ?_ | (refine c_fns rfl rfl rfl cx_op1 rfl ?_; rintro _ G hle ⟨wb, rfl, hrep⟩; skip)) | (refine k_ff rfl rfl ?_))
    all_goals refine Nx.addNil tPtrA 1 ?_
    all_goals repeat' (first | (refine jR ?_) | (refine jo ?_; first | refine jAl rfl ?_ | refine jD rfl rfl rfl ?_ | (refine c_apX rfl rfl rfl rfl rfl rfl rfl rfl rfl oM fun _ _ => ?_)) | (refine k_tt rfl rfl ?_))
    all_goals
     rename_i _ y1 yc1 _ y2 yc2
     refine Nx.sealS (v := .slice (some ⟨y1, 0, none⟩) (0 + 1) yc1) fun G2 hG2 hs1 => ?_
     refine Nx.sealS (v := .slice (some ⟨y2, 0, none⟩) (0 + 1) yc2) fun G3 hG3 hs2 => ?_
     refine Nx.sealC (b := y) fun G4 hG4 hsg => ?_
     refine jZ (vs := [_, _, _]) rfl ⟨rfl, rfl, rfl, trivial⟩ rfl ⟨(((hle.trans hG2).trans hG3).trans hG4), rfl, ?_⟩
     rw [oneOf_three]
     obtain ⟨hc1, hg1⟩ := slv_1 hs1
     obtain ⟨hc2, hg2⟩ := slv_1 hs2
     obtain ⟨c', rfl⟩ : ∃ c', yc1 = c' + 1 := ⟨yc1 - 1, oM⟩
     exact ⟨_, _, _, rfl, fun _ => ⟨.nd 85 [] d.tag [w], y, rfl, rfl, .uni (64 :: k) y y1 y2 wb yc2 ⟨85, nm, fs⟩ d w hc2 ⟨href.symm, rfl⟩ hdm hsg ((hg1.mono hG3).mono hG4) (hg2.mono hG4) (hrep.mono ((hG2.trans hG3).trans hG4))⟩, fun h => (by cases h)⟩
theorem openC_all {u : Value} {vs : List TyX} (hw : SchW (tys vs)) : ∀ n, n ≤ 1000 → OpnC n u vs
 | 0, _ => fun G k s _ _ _ => c_open0 (.inr rfl) oM
 | n + 1, hn => fun G k s h hk hs => by
  have hR := openC_all (u := u) (vs := vs) hw n oM
  have hkk := kindOk_kOk (kindIn_ok hk)
  have hvl : vs.length ≤ 8 := by have := hw.len; unfold tys at this; simpa using this
  match s, hs with
  | [], _ => exact c_open0 (.inl rfl) hn
  | e :: s, hs =>
   have hs1 := hs
   simp only [List.length_cons] at hs
   match k, hk, hkk with
   | [], hk, _ => cases hk
   | c :: k, hk, hkk =>
    have hkl := hkk.2
    simp only [List.length_cons] at hkl
    by_cases h1 : c.toNat = 91
    ·obtain rfl : c = 91 := u8_eq h1 dC
     exact c_openA (.inl rfl) h.sl.one (c_openL hR h oM hk hs1 oM) oM oM oM
    by_cases h2 : c.toNat = 63
    ·obtain rfl : c = 63 := u8_eq h2 dC
     exact c_openO hR h hk oM oM
    have h91 : ¬ (c.toNat = 91 ∨ c.toNat = 63) := fun h => by rcases h with h | h <;> omega
    cases hr : refT (tys vs) (c :: k) with
    | some t =>
     obtain ⟨r, e1⟩ := refT_64 hr
     simp only [List.cons.injEq] at e1
     obtain ⟨rfl, rfl⟩ := e1
     have href := refV_ty vs (64 :: k)
     rcases hrv : refV vs (64 :: k) with _ | x
     ·rw [hrv, hr] at href; cases href
     obtain ⟨⟨a, ca⟩, ⟨so, nm, fs⟩⟩ := x
     have hso := (hw.ty _ (List.mem_map_of_mem (refV_mem hrv))).sort
     dsimp only at hso
     refine c_openA (.inr rfl) h.sl.one ?_ oM oM oM
     rcases hso with rfl | rfl | rfl
     ·exact c_openR hR h hw hrv hkk.1 oM hs1 oM
     ·exact c_openU hR h hw hrv hkk.1 oM hs1 oM
     ·exact c_openE hR h hw hrv hkk.1 oM hs1 oM
    | none =>
     rcases plain_kinds hk h91 hr with e1 | e1 | e1
     ·simp only [List.cons.injEq] at e1
      obtain ⟨rfl, rfl⟩ := e1
      rw [rk_plain (.inl rfl) hr, if_pos rfl]
      exact c_openN h.sl.one (by simp) hs1 oM
     ·simp only [List.cons.injEq] at e1
      obtain ⟨rfl, rfl⟩ := e1
      rw [rk_plain (.inr (.inl rfl)) hr, if_neg dC, if_pos rfl]
      exact c_openT h.sl.one (by simp) hs1 oM
     ·simp only [List.cons.injEq] at e1
      obtain ⟨rfl, rfl⟩ := e1
      rw [rk_plain (.inr (.inr rfl)) hr, if_neg dC, if_neg dC]
      exact c_openF h.sl.one oM oM
theorem c_l4Back {u : Value} {vs : List TyX} (hw : SchW (tys vs)) (h : SchR G u vs) {k s : List UInt8} (hki : kindIn (tys vs) k = true) :
  FnS Tryz.prog 21 [u, S k, S s] G (fun r _ => r = Tu [S (if (valOf (tys vs) k s).isSome = true then s else []), Bo (valOf (tys vs) k s).isSome]) := by
 obtain ⟨ua, uc, rfl⟩ := h.sl.sl
 by_cases hl : s.length ≤ 400
 ·have cx_rd := readC_all (u := .slice ua vs.length uc) (vs := vs) hw 12 oM G k s h hki oM
  have hvo : valOf (tys vs) k s = match rd (tys vs) 12 k s with
   | some (v, []) => some v
   | _ => none := by
   unfold valOf; rw [if_pos hl]
   all_goals (rcases rd (tys vs) 12 k s with _ | ⟨v, _ | _⟩ <;> rfl)
  refine jB [(0, _), (1, _), (2, _)] Tryz.func21 Tryz.ntmps21 fun B hok hB hW => ?_
  repeat' (first | (refine jR ?_) | (refine jo ?_; first | refine jV (g_bld rfl rfl) ?_ | (refine jAt rfl ?_) | (refine jAf rfl ?_) | (refine c_fns rfl rfl rfl cx_rd rfl ?_; rintro _ G hle ⟨q1, r1, ok1, rfl, hyes, hno⟩; skip)) | refine k_gb rfl rfl (fun _ => ?_) (fun _ => ?_) | (refine k_tt rfl rfl ?_) | (refine k_ff rfl (dFf oM) ?_) | refine k_if rfl (fun _ => ?_) (fun _ => ?_))
  all_goals refine jZ (vs := [_, _]) rfl ⟨rfl, rfl, trivial⟩ rfl ⟨hle, rfl, ?_⟩
  ·rename_i hz
   rw [hno (by simpa using hz)] at hvo
   rw [hvo]; rfl
  ·rename_i hz hr
   obtain ⟨w, b, rfl, hf, hrep⟩ := hyes (by simpa using hz)
   rw [hf] at hvo
   have hvo2 : valOf (tys vs) k s = none := by
    rw [hvo]
    cases r1 with
    | nil => exact absurd rfl hr
    | cons c r => rfl
   rw [hvo2]; rfl
  ·rename_i hz hr
   obtain ⟨w, b, rfl, hf, hrep⟩ := hyes (by simpa using hz)
   obtain rfl : r1 = [] := by simpa using hr
   rw [hf] at hvo
   rw [hvo]; rfl
 ·have hvo : valOf (tys vs) k s = none := by unfold valOf; rw [if_neg hl]
  rw [hvo]
  refine jB [(0, _), (1, _), (2, _)] Tryz.func21 Tryz.ntmps21 fun B hok hB hW => ?_
  repeat' (first | (refine jR ?_) | (refine k_tt rfl (dTt oM) ?_))
  all_goals refine jZ (vs := [_, _]) rfl ⟨rfl, rfl, trivial⟩ rfl ⟨Gh.le.refl _, rfl, ?_⟩
  all_goals rfl
def psR (o : Option (List UInt8)) : Value := Tu [S (o.getD []), Bo o.isSome]
def keyBackV (s k x : List UInt8) : Option (List UInt8) := match schemaOf s with
 | some ts => if kindIn ts k = true ∧ x.length ≤ 900 then (keyV ts k x).map V.out else none
 | none => none
theorem keyBackV_k {s k x : List UInt8} (h : kindS s k = false) : keyBackV s k x = none := by
 unfold keyBackV
 unfold kindS at h
 cases hs : schemaOf s with
 | none => rfl
 | some ts => rw [hs] at h; dsimp only at h ⊢; rw [if_neg (by rw [h]; simp)]
theorem c_KeyBackS {s k x : List UInt8} (h : s.length ≤ 1048576 ∧ k.length ≤ 1048576 ∧ x.length ≤ 1048576) : PuG Tryz.prog 8 [S s, S k, S x] G (· = psR (keyBackV s k x)) := by
 by_cases hk : kindS s k = true
 case neg =>
  have hk2 : kindS s k = false := by simpa using hk
  have cx_lk1 : ∀ G, FnS Tryz.prog 19 [S s, S k] G (fun v _ => ∃ u, v = Tu [u, Bo false]) := fun G => by
   refine (c_l3Kind (G := G) (s := s) (k := k) oM oM).mono ?_
   rintro v G' L' ⟨h1, h2, u, vs, rfl, _⟩
   exact ⟨h1, h2, u, by rw [hk2]⟩
  rw [keyBackV_k hk2]
  refine jB (Post := fun v G' L' => G' = G ∧ L' = [] ∧ _) [(0, _), (1, _), (2, _)] Tryz.func8 Tryz.ntmps8 fun B hok hB hW => ?_
  repeat' (first | (refine jR ?_) | (refine jo ?_; first | (refine jAt rfl ?_) | (refine c_fns rfl rfl rfl (cx_lk1 _) rfl ?_; rintro _ G hle ⟨u1, rfl⟩; skip)) | (refine k_gt rfl rfl rfl ?_) | (refine k_tt rfl rfl ?_))
  all_goals refine Nx.base hok hB ?_
  all_goals refine jY (vs := [_, _]) ?_
  all_goals rfl
 obtain ⟨ts, hs, hki, hw⟩ := kindS_some2 hk
 have cx_lka : ∀ G, FnS Tryz.prog 19 [S s, S k] G (fun v G' => ∃ a c vs, v = Tu [.slice a vs.length c, Bo true] ∧ SchR G' (.slice a vs.length c) vs ∧ tys vs = ts) := fun G => by
  refine (c_l3Kind (G := G) (s := s) (k := k) oM oM).mono ?_
  rintro v G' L' ⟨h1, h2, u, vs, rfl, h4, _, h6⟩
  obtain ⟨_, ⟨rfl, h0⟩ | ⟨b, o, cap, rfl, _, _⟩⟩ := h4.sl
  ·exact ⟨h1, h2, none, 0, vs, by rw [hk, h0], by rw [h0]; exact h4, h6 ts hs hki⟩
  ·exact ⟨h1, h2, _, cap, vs, by rw [hk], h4, h6 ts hs hki⟩
 unfold keyBackV
 rw [hs]
 dsimp only
 by_cases hl : x.length ≤ 900
 case neg =>
  rw [if_neg (fun h => hl h.2)]
  refine jB (Post := fun v G' L' => G' = G ∧ L' = [] ∧ _) [(0, _), (1, _), (2, _)] Tryz.func8 Tryz.ntmps8 fun B hok hB hW => ?_
  repeat' (first | (refine jR ?_) | (refine jo ?_; first | (refine jAf rfl ?_) | (refine c_fns rfl rfl rfl (cx_lka _) rfl ?_; rintro _ G hle ⟨av1, cv1, vs1, rfl, hR1, hT1⟩; skip)) | (refine k_gf rfl rfl rfl ?_) | (refine k_tt rfl (dTt oM) ?_))
  all_goals refine Nx.base hok hB ?_
  all_goals refine jY (vs := [_, _]) ?_
  all_goals rfl
 rw [if_pos ⟨hki, hl⟩]
 refine jB (Post := fun v G' L' => G' = G ∧ L' = [] ∧ _) [(0, _), (1, _), (2, _)] Tryz.func8 Tryz.ntmps8 fun B hok hB hW => ?_
 repeat' (first | (refine jR ?_) | (refine jo ?_; first | (refine jAf rfl ?_) | refine jV (g_bld rfl rfl) ?_ | (refine c_fns rfl rfl rfl (cx_lka _) rfl ?_; rintro _ G hle ⟨av1, cv1, vs1, rfl, hR1, hT1⟩; skip)) | (refine k_gf rfl rfl rfl ?_) | (refine k_ff rfl (dFf oM) ?_))
 subst hT1
 have hop := openC_all (u := .slice av1 vs1.length cv1) (vs := vs1) hw 12 oM G k x hR1 hki oM
 cases hf : rk false (tys vs1) 12 k x with
 | none =>
  rw [hf] at hop
  have hno : keyV (tys vs1) k x = none := by
   cases hv : keyV (tys vs1) k x with
   | none => rfl
   | some v => have := ((key_lo hw).1 hv).1; rw [hf] at this; cases this
  rw [hno]
  have cx_op0 : FnS Tryz.prog 20 [Ag [.slice av1 vs1.length cv1], S x, S k, I (12 : Nat)] G (fun v _ => ∃ q1 r1, v = Tu [.pointer q1, S r1, Bo false]) := hop.mono fun v G' L' h => ⟨h.1, h.2.1, readP_none h.2.2⟩
  clear hop
  repeat' (first | (refine jR ?_) | (refine jo ?_; first | (refine jAt rfl ?_) | (refine c_fns rfl rfl rfl cx_op0 rfl ?_; rintro _ G hle ⟨q1, r1, rfl⟩; skip)) | (refine k_gt rfl rfl rfl ?_) | (refine k_tt rfl rfl ?_))
  all_goals refine Nx.base hok hB ?_
  all_goals refine jY (vs := [_, _]) ?_
  all_goals rfl
 | some w =>
  obtain ⟨v, r⟩ := w
  rw [hf] at hop
  have cx_op1 : FnS Tryz.prog 20 [Ag [.slice av1 vs1.length cv1], S x, S k, I (12 : Nat)] G (fun w G' => ∃ wb, w = Tu [Pt wb 0, S r, Bo true] ∧ RepR G' (tys vs1) v k wb) := hop.mono fun v G' L' h => ⟨h.1, h.2.1, readP_some h.2.2⟩
  clear hop
  have htot := rk_tot _ _ _ _ _ hf
  refine jo ?_
  refine c_fns rfl rfl rfl cx_op1 rfl ?_
  rintro _ G2 hle2 ⟨wb, rfl, hrep⟩
  have hR2 := hR1.mono hle2
  cases r with
  | cons c r =>
   have hno : keyV (tys vs1) k x = none := by
    cases hv : keyV (tys vs1) k x with
    | none => rfl
    | some v => have := ((key_lo hw).1 hv).1; rw [hf] at this; cases this
   rw [hno]
   repeat' (first | (refine jR ?_) | (refine jo ?_; (refine jAf rfl ?_)) | (refine k_gf rfl rfl rfl ?_) | (refine k_tt rfl rfl ?_))
   all_goals refine Nx.base hok hB ?_
   all_goals refine jY (vs := [_, _]) ?_
   all_goals rfl
  | nil =>
   have cx_out := c_outS hw hrep oM
   have cx_bk := c_l4Back (k := k) (s := v.out) hw hR2 hki
   have hres : (keyV (tys vs1) k x).map V.out = if (valOf (tys vs1) k v.out).isSome = true then some v.out else none := by
    cases hv : keyV (tys vs1) k x with
    | none => rw [keyV_nolo hw hv hf]; rfl
    | some u =>
     obtain ⟨h1, h2⟩ := (key_lo hw).1 hv
     rw [hf] at h1
     simp only [Option.some.injEq, Prod.mk.injEq, and_true] at h1
     subst h1
     rw [if_pos h2]; rfl
   rw [hres]
   generalize (valOf (tys vs1) k v.out).isSome = ok at cx_bk ⊢
   repeat' (first | (refine jR ?_) | (refine jo ?_; first | (refine jAf rfl ?_) | (refine c_rt rfl rfl rfl cx_out rfl ?_) | (refine c_fns rfl rfl rfl cx_bk rfl ?_; rintro _ G hle rfl; skip)) | (refine k_gf rfl rfl rfl ?_) | (refine k_ff rfl rfl ?_))
   all_goals refine Nx.base hok hB ?_
   all_goals refine jY (vs := [_, _]) ?_
   all_goals (cases ok; all_goals rfl)
theorem c_fits {v : V} {c : VC} (h : V.rep G v c) (ht : v.tot ≤ 1000000) : PuG Tryz.prog 25 [Ag (vcF c)] G (· = Bo (decide (v.out.length ≤ 400 ∧ v.deep ≤ 12))) := by
 have cx_pr := c_print (G := G) v.tot (Nat.le_refl _) ht h
 have cx_dp := c_deep (G := G) v.tot (Nat.le_refl _) ht h
 have hdl := deep_tot v
 obtain ⟨w, tx, tg, a, m, kc⟩ := c
 have e0 : vcF ⟨w, tx, tg, a, m, kc⟩ = [U8 (w : Nat), S tx, I tg, .slice a m kc] := rfl
 rw [e0] at cx_pr cx_dp ⊢
 by_cases h1 : v.out.length ≤ 400
 ·by_cases h2 : v.deep ≤ 12
  ·rw [decide_eq_true (p := v.out.length ≤ 400 ∧ v.deep ≤ 12) ⟨h1, h2⟩]
   refine jE [(0, _)] Tryz.func25 Tryz.ntmps25 fun B hB => ?_
   repeat' (first | (refine jR ?_) | (refine jo ?_; first | refine jO fun _ => ?_ | refine jAm rfl ?_ | (refine jAt rfl ?_) | (refine c_rt rfl rfl rfl cx_pr rfl ?_) | (refine c_rt rfl rfl rfl cx_dp rfl ?_)) | (refine k_gt rfl rfl (dTt oM) ?_))
   all_goals refine jY (vs := [_]) ?_
   all_goals (rw [oneOf_one, decide_eq_true oM])
  ·rw [decide_eq_false (p := v.out.length ≤ 400 ∧ v.deep ≤ 12) (fun h => h2 h.2)]
   refine jE [(0, _)] Tryz.func25 Tryz.ntmps25 fun B hB => ?_
   repeat' (first | (refine jR ?_) | (refine jo ?_; first | refine jO fun _ => ?_ | refine jAm rfl ?_ | (refine jAt rfl ?_) | (refine c_rt rfl rfl rfl cx_pr rfl ?_) | (refine c_rt rfl rfl rfl cx_dp rfl ?_)) | (refine k_gt rfl rfl (dTt oM) ?_))
   all_goals refine jY (vs := [_]) ?_
   all_goals (rw [oneOf_one, decide_eq_false oM])
 ·rw [decide_eq_false (p := v.out.length ≤ 400 ∧ v.deep ≤ 12) (fun h => h1 h.1)]
  refine jE [(0, _)] Tryz.func25 Tryz.ntmps25 fun B hB => ?_
  repeat' (first | (refine jR ?_) | (refine jo ?_; first | refine jO fun _ => ?_ | refine jAm rfl ?_ | (refine jAf rfl ?_) | (refine c_rt rfl rfl rfl cx_pr rfl ?_)) | (refine k_gf rfl rfl (dFf oM) ?_))
  all_goals refine jY (vs := [_]) ?_
  all_goals rfl
theorem c_unkA {n r sc : Nat} {qs : List TyP} {c : UInt8} {k s : List UInt8} {t : Ty} {d : Int} (h91 : ¬ (c.toNat = 91 ∨ c.toNat = 63)) (hd : d = 12 - (n : Int)) (hn : n ≤ 12) (hU : UkC n sc qs) (hS : ScI G sc qs) (hw : SchW (tyq qs)) (hk : kindIn (tyq qs) (c :: k) = true) (hrf : refT (tyq qs) (c :: k) = some t) (hs : s.length ≤ 1000) :
  FnM Tryz.prog 24 [Pt r 0, Ag (kdF (c :: k))] G [brO r sc s false none 0 0 d] (UkP (rk true (tyq qs) (n + 1) (c :: k)) r sc s false d) := by
 have hko := kindIn_ok hk
 have hsg := sg_none (r := k) h91
 have hcs := core_self (r := k) h91
 have hrn : (refN (core (c :: k))).isSome = true := by
  rw [hcs]; unfold refT at hrf
  cases hx : refN (c :: k) with
  | none => rw [hx] at hrf; cases hrf
  | some x => rfl
 have hbs : bs (c :: k) = [64] := (bs_at hko).2 hrn
 have hnm : refN (c :: k) = some (nm (c :: k)) := by
  unfold nm; rw [hcs] at hrn ⊢
  cases hx : refN (c :: k) with
  | none => rw [hx] at hrn; cases hrn
  | some x => rfl
 have hft : findT (tyq qs) (nm (c :: k)) = some t := by unfold refT at hrf; rw [hnm] at hrf; exact hrf
 have hkv := kvF_find qs (nm (c :: k))
 rw [← findQ_ty] at hft
 rcases hfq : findQ qs (nm (c :: k)) with _ | ⟨p, t'⟩
 ·rw [hfq] at hft; cases hft
 rw [hfq] at hft hkv
 dsimp only [Option.map_some] at hft hkv
 have htt : t' = t := Option.some.inj hft
 subst htt
 have hqm := findQ_mem hfq
 have htm := refT_mem hrf
 have hW := hw.ty t' htm
 have hT : TyI G p t' := hS.ty _ hqm
 have hrd : rk true (tyq qs) (n + 1) (c :: k) s = rkTyped true (tyq qs) (rk true (tyq qs) n) t' s := by
  rw [rk]; unfold rkK
  dsimp only
  rw [if_neg (fun h => h91 (.inl h)), if_neg (fun h => h91 (.inr h)), hrf]
 have hR : RkQ (rk true (tyq qs) (n + 1) (c :: k)) s = RkQ (rkTyped true (tyq qs) (rk true (tyq qs) n) t') s := by
  funext b u s' b'
  unfold RkQ
  rw [hrd]
 have hP : UkP (rk true (tyq qs) (n + 1) (c :: k)) r sc s false d = UkP (rkTyped true (tyq qs) (rk true (tyq qs) n) t') r sc s false d := by
  funext v G' L'
  unfold UkP
  rw [hR]
 unfold kdF
 rw [hsg, hbs, hP]
 rcases hW.sort with h | h | h
 ·exact c_unkR hd hn hU hS hw hkv hT hW (fun d hd => kind_in hw htm oM hd) h hs
 ·exact c_unkU hd hn hU hS hkv hT hW (fun d hd => kind_in hw htm oM hd) h hs
 ·exact c_unkE hd hn hS hkv hT hW h hs
theorem ukC_all {sc : Nat} {qs : List TyP} (hw : SchW (tyq qs)) : ∀ n, n ≤ 13 → UkC n sc qs
 | 0, _ => fun G r k s b _ _ hs => c_unkBad (.inr rfl) hs oM
 | n + 1, hn => fun G r k s b hS hk hs => by
  have hU := ukC_all (sc := sc) hw n oM
  have ed : (13 : Int) - ((n + 1 : Nat) : Int) = 12 - (n : Int) := oM
  cases b with
  | true => exact c_unkBad (.inl rfl) hs hn
  | false =>
   match k, hk with
   | [], hk => cases hk
   | c :: k, hk =>
    by_cases h1 : c.toNat = 91
    ·obtain rfl := u8_eq h1 dC
     exact c_unkL ed oM hU hS hk hs
    by_cases h2 : c.toNat = 63
    ·obtain rfl := u8_eq h2 dC
     exact c_unkO ed oM hU hS hk hs
    have h91 : ¬ (c.toNat = 91 ∨ c.toNat = 63) := fun h => by rcases h with h | h <;> omega
    cases hr : refT (tyq qs) (c :: k) with
    | some t => exact c_unkA h91 ed oM hU hS hw hk hr hs
    | none =>
     rcases plain_kinds hk h91 hr with e | e | e
     ·rw [e] at hr ⊢; exact c_unkN ed oM hr hs
     ·rw [e] at hr ⊢; exact c_unkT ed oM hr hs
     ·rw [e] at hr ⊢; exact c_unkF ed oM hr hs
theorem c_KeyBackI {s k x : List UInt8} (h : s.length ≤ 1048576 ∧ k.length ≤ 1048576 ∧ x.length ≤ 1048576) : PuG Tryz.prog 9 [S s, S k, S x] G (· = psR (keyBackV s k x)) := by
 by_cases hk : kindS s k = true
 case neg =>
  have hk2 : kindS s k = false := by simpa using hk
  have cx_bo1 : ∀ G, FnS Tryz.prog 23 [S s, S k] G (fun v _ => ∃ p a b c, v = Tu [p, Ag [S a, S b, S c], Bo false]) := fun G => by
   refine (c_both (G := G) (s := s) (k := k) oM oM).mono ?_
   rintro v G' L' ⟨h1, h2, ⟨h4, p, a, b, c, rfl⟩ | ⟨b, qs, rfl, h4, h5, h6⟩⟩
   ·exact ⟨h1, h2, p, a, b, c, rfl⟩
   ·unfold kindS at hk; rw [h4] at hk; exact absurd h5 hk
  rw [keyBackV_k hk2]
  refine jB (Post := fun v G' L' => G' = G ∧ L' = [] ∧ _) [(0, _), (1, _), (2, _)] Tryz.func9 Tryz.ntmps9 fun B hok hB hW => ?_
  repeat' (first | (refine jR ?_) | (refine jo ?_; first | refine jL fun _ => ?_ | refine jC rfl rfl rfl ?_ | (refine jAt rfl ?_) | (refine c_fns rfl rfl rfl (cx_bo1 _) rfl ?_; rintro _ G hle ⟨p1, a1, b1, c1, rfl⟩; skip)) | (refine k_gt rfl rfl rfl ?_) | (refine k_tt rfl rfl ?_))
  all_goals refine Nx.base hok hB ?_
  all_goals refine jY (vs := [_, _]) ?_
  all_goals rfl
 case pos =>
  obtain ⟨ts, hs, hki⟩ : ∃ ts, schemaOf s = some ts ∧ kindIn ts k = true := by
   unfold kindS at hk
   cases hs : schemaOf s with
   | none => rw [hs] at hk; cases hk
   | some ts => rw [hs] at hk; exact ⟨ts, rfl, hk⟩
  have hw := schemaOf_w hs
  have cx_boa : ∀ G, FnS Tryz.prog 23 [S s, S k] G (fun v G' => ∃ b qs, v = Tu [Pt b 0, Ag [S (sg k), S (bs k), S (nm k)], Bo true] ∧ tyq qs = ts ∧ ScI G' b qs) := fun G => by
   refine (c_both (G := G) (s := s) (k := k) oM oM).mono ?_
   rintro v G' L' ⟨h1, h2, ⟨h4, _⟩ | ⟨b, qs, rfl, h4, h5, h6⟩⟩
   ·rw [h4] at hk; cases hk
   ·rw [hs] at h4; exact ⟨h1, h2, b, qs, rfl, (Option.some.inj h4).symm, h6⟩
  have hV : keyBackV s k x = if kindIn ts k = true ∧ x.length ≤ 900 then (keyV ts k x).map V.out else none := by unfold keyBackV; rw [hs]
  rw [hV]
  by_cases hx : x.length ≤ 900
  case neg =>
   rw [if_neg (fun h => hx h.2)]
   refine jB (Post := fun v G' L' => G' = G ∧ L' = [] ∧ _) [(0, _), (1, _), (2, _)] Tryz.func9 Tryz.ntmps9 fun B hok hB hW => ?_
   repeat' (first | (refine jR ?_) | (refine jo ?_; first | refine jL fun _ => ?_ | refine jC rfl rfl rfl ?_ | (refine jAf rfl ?_) | (refine c_fns rfl rfl rfl (cx_boa _) rfl ?_; rintro _ G hle ⟨ba, qa, rfl, hT1, hR1⟩; skip)) | (refine k_gf rfl rfl rfl ?_) | (refine k_tt rfl (dTt oM) ?_))
   all_goals refine Nx.base hok hB ?_
   all_goals refine jY (vs := [_, _]) ?_
   all_goals rfl
  case pos =>
   rw [if_pos ⟨hki, hx⟩]
   obtain ⟨o, ho⟩ : ∃ o, (keyV ts k x).map V.out = o := ⟨_, rfl⟩
   rw [ho]
   have hno : (∀ v, keyV ts k x = some v → False) → o = none := fun h => by
    rw [← ho]
    cases hv : keyV ts k x with
    | none => rfl
    | some v => exact (h v hv).elim
   refine jB (Post := fun v G' L' => G' = G ∧ L' = [] ∧ _) [(0, _), (1, _), (2, _)] Tryz.func9 Tryz.ntmps9 fun B hok hB hW => ?_
   repeat' (first | (refine jR ?_) | (refine jo ?_; first | refine jL fun _ => ?_ | refine jC rfl rfl rfl ?_ | (refine jAf rfl ?_) | refine jV (g_bld rfl rfl) ?_ | refine jO fun _ => ?_ | refine jAm rfl ?_ | (refine c_fns rfl rfl rfl (cx_boa _) rfl ?_; rintro _ G hle ⟨ba, qa, rfl, hT1, hR1⟩; skip)) | (refine k_gf rfl rfl rfl ?_) | (refine k_ff rfl (dFf oM) ?_))
   rename_i y1 y2
   subst hT1
   have cx_uk := uk_d (r := y2) (d := 0) oM (ukC_all (sc := ba) hw 13 (Nat.le_refl _) G y2 k x false hR1 hki oM)
   refine jo ?_
   refine c_m1s rfl rfl rfl cx_uk rfl ?_
   rintro _ G1 _ hle2 ⟨u1, c1, t1, b1, rfl, hrep, rfl, hP⟩
   dsimp only [zA, fA]
   clear cx_uk
   obtain ⟨hQ1, hQ2, hQ3, hQ4⟩ := rkQ_tot hP
   have cx_fit := c_fits hrep oM
   have cx_pr := c_print (G := G1) (c := c1) _ (Nat.le_refl _) oM hrep
   simp only [vcF, VC.sl] at cx_fit cx_pr
   dsimp only [vcF, VC.sl]
   cases b1 with
   | true =>
    obtain rfl : o = none := hno fun v hv => by
     have := ((key_13 hw).1 hv).1
     rw [hQ4 rfl] at this; cases this
    repeat' (first | (refine jR ?_) | (refine jo ?_; first | refine jL fun _ => ?_ | refine jC rfl rfl rfl ?_ | (refine jAt rfl ?_) | refine jAl rfl ?_) | (refine k_gt rfl rfl rfl ?_) | (refine k_tt rfl rfl ?_))
    all_goals refine Nx.base hok hB ?_
    all_goals refine jY (vs := [_, _]) ?_
    all_goals rfl
   | false =>
    obtain ⟨hgood, _⟩ := hQ3 rfl
    by_cases ht1 : t1 = []
    ·subst ht1
     by_cases hfit : u1.out.length ≤ 400 ∧ u1.deep ≤ 12
     ·have hkv := (key_13 hw).2 ⟨hgood, hfit.2, hfit.1⟩
      rw [hkv, Option.map_some] at ho
      subst ho
      rw [decide_eq_true hfit] at cx_fit
      clear hno
      repeat' (first | (refine jR ?_) | (refine jo ?_; first | refine jL fun _ => ?_ | refine jC rfl rfl rfl ?_ | (refine jAf rfl ?_) | refine jAl rfl ?_ | refine jAm rfl ?_ | (refine c_rt rfl rfl rfl cx_fit rfl ?_) | (refine c_rt rfl rfl rfl cx_pr rfl ?_)) | (refine k_gf rfl rfl rfl ?_) | (refine k_ff rfl rfl ?_))
      all_goals refine Nx.base hok hB ?_
      all_goals refine jY (vs := [_, _]) ?_
      all_goals rfl
     ·obtain rfl : o = none := hno fun v hv => by
       obtain ⟨a1, a2, a3⟩ := (key_13 hw).1 hv
       rw [hgood] at a1
       simp only [Option.some.injEq, Prod.mk.injEq, and_true] at a1
       subst a1
       exact hfit ⟨a3, a2⟩
      rw [decide_eq_false hfit] at cx_fit
      clear hno
      repeat' (first | (refine jR ?_) | (refine jo ?_; first | refine jL fun _ => ?_ | refine jC rfl rfl rfl ?_ | (refine jAf rfl ?_) | refine jAl rfl ?_ | refine jAm rfl ?_ | (refine c_rt rfl rfl rfl cx_fit rfl ?_)) | (refine k_gf rfl rfl rfl ?_) | (refine k_tt rfl rfl ?_))
      all_goals refine Nx.base hok hB ?_
      all_goals refine jY (vs := [_, _]) ?_
      all_goals rfl
    ·obtain rfl : o = none := hno fun v hv => by
      have a1 := ((key_13 hw).1 hv).1
      rw [hgood] at a1
      simp only [Option.some.injEq, Prod.mk.injEq] at a1
      exact ht1 a1.2
     clear hno
     repeat' (first | (refine jR ?_) | (refine jo ?_; first | refine jL fun _ => ?_ | refine jC rfl rfl rfl ?_ | (refine jAt rfl ?_) | (refine jAf rfl ?_) | refine jAl rfl ?_) | (refine k_gt rfl rfl (dTt ‹_›) ?_) | (refine k_gf rfl rfl rfl ?_) | (refine k_tt rfl rfl ?_))
     all_goals refine Nx.base hok hB ?_
     all_goals refine jY (vs := [_, _]) ?_
     all_goals rfl
end Go.E
namespace Go.E
set_option maxRecDepth 20000
set_option maxHeartbeats 2000000
open Go.Proofs
theorem given_in {s k w : List UInt8} {ts : List Ty} {u : V} (h1 : schemaOf s = some ts) (h2 : kindIn ts k = true) (h3 : valOf ts k w = some u) : givenV s k w = some u := by
 unfold givenV
 rw [h1]
 dsimp only
 rw [if_pos h2, h3]
end Go.E
namespace Go.E
set_option maxRecDepth 20000
set_option maxHeartbeats 2000000
open Go.Proofs
variable {G : Gh}
theorem key_back {s k w b : List UInt8} (h : keyOf s k w = some b) : keyBackV s k b = some w ∧ b.length ≤ 900 := by
 unfold keyOf at h
 cases hg : givenV s k w with
 | none => rw [hg] at h; cases h
 | some u =>
  rw [hg] at h
  dsimp only at h
  split at h
  ·rename_i hl
   simp only [Option.some.injEq] at h
   subst h
   obtain ⟨ts, hs, hki, hvo, _, hwf⟩ := given_some hg
   have hw := schemaOf_w hs
   obtain ⟨h1, h2, h3⟩ := valOf_out hvo
   refine ⟨?_, hl⟩
   unfold keyBackV
   rw [hs]
   dsimp only
   rw [if_pos ⟨hki, hl⟩, (keyV_iff hw (v := u)).2 ⟨⟨valOf_of_k hvo, h3⟩, by rw [h1]; omega, rfl⟩, Option.map_some, h1]
  ·cases h
theorem back_key {s k x w : List UInt8} (h : keyBackV s k x = some w) : keyOf s k w = some x ∧ w.length ≤ 400 := by
 unfold keyBackV at h
 cases hs : schemaOf s with
 | none => rw [hs] at h; cases h
 | some ts =>
  rw [hs] at h
  dsimp only at h
  split at h
  ·rename_i hc
   have hw := schemaOf_w hs
   cases hv : keyV ts k x with
   | none => rw [hv] at h; cases h
   | some v =>
    rw [hv, Option.map_some, Option.some.injEq] at h
    subst h
    obtain ⟨⟨h1, h2⟩, h3, rfl⟩ := (keyV_iff hw).1 hv
    have hg := given_in hs hc.1 (valOf_in hw h1 h3 h2)
    refine ⟨?_, h3⟩
    unfold keyOf
    rw [hg]
    dsimp only
    rw [if_pos hc.2]
  ·cases h
theorem keyOf_len {s k w : List UInt8} : ((keyOf s k w).getD []).length ≤ 900 := by
 cases h : keyOf s k w with
 | none => simp
 | some b => exact (key_back h).2
theorem c_DrawKeyBack {v : Value} {l : List UInt8} (hs : SlV G v 1 l.length (u8s l)) : PuG Tryz.prog 13 [v] G (fun r => ∃ s k x, r = Tu [S s, S k, S x] ∧ s.length ≤ 1048576 ∧ k.length ≤ 1048576 ∧ x.length ≤ 1048576) := by
 refine jE [(0, _)] Tryz.func13 Tryz.ntmps13 fun B hB => ?_
 repeat' (first | (refine jR ?_) | (refine jo ?_; first | (refine c_fng rfl rfl rfl (c_l6Open (by (repeat (assumption)); done)) rfl ?_; rintro _ _ ⟨b, code, l, rfl, rfl, hcd, hcl⟩; dsimp only [zA, fA]) | (refine c_m1g rfl rfl rfl (c_l91Three ?_ (by (repeat (assumption)); done)) rfl ?_; (focus ((omega); done)); rintro _ _ ⟨sc, kd, tx, q1, rfl, ⟨hsc, hkd, htx⟩, rfl, hq1, hq2⟩; dsimp only [zA, fA])))
 have cx_ss2 := c_KeyOfS (G := G) (s := sc) (k := kd) (w := tx) ⟨oM, oM, oM⟩
 have hkl := keyOf_len (s := sc) (k := kd) (w := tx)
 generalize (keyOf sc kd tx).getD [] = kb at *
 generalize (keyOf sc kd tx).isSome = kok at *
 repeat' (first | (refine jR ?_) | (refine jo ?_; first | (refine jAt rfl ?_) | (refine jAf rfl ?_) | (refine c_rt rfl rfl rfl cx_ss2 rfl ?_) | (refine c_m1g rfl rfl rfl (c_pick ?_ (by (repeat (assumption)); done)) rfl ?_; (focus ((omega); done)); rintro _ _ ⟨k, rfl, rfl, hk0, hk1⟩; dsimp only [zA, fA])) | refine k_g rfl rfl (fun _ => ?_) (fun _ => ?_) | (refine k_ff rfl rfl ?_) | refine k_if rfl (fun _ => ?_) (fun _ => ?_))
 all_goals (first | exact jZ (vs := [_, _, _]) rfl ⟨rfl, rfl, rfl, trivial⟩ rfl ⟨rfl, rfl, _, _, _, rfl, oM, oM, oM⟩ | skip)
 all_goals (refine k_any (s_any (id := 6) [] (fun _ h => absurd h (by simp)) mixed ?_); refine jW 7 [0, 1, 2, 3, 9, 10, 11, 12] (bts 15 7695) ?_; refine jA 4 rfl ?_; ((refine c_m1g rfl rfl rfl (c_pick ?_ (by (repeat (assumption)); done)) rfl ?_; (focus ((omega); done)); rintro _ _ ⟨k, rfl, rfl, hk0, hk1⟩; dsimp only [zA, fA])); refine jK (bts 15 7711) ?_; refine jW 5 [5] (bts 15 7743) ?_; refine jA 6 rfl ?_; (refine jF fun _ => ?_); refine jK (bts 15 7807) ?_; refine jA 7 rfl ?_; ((refine jV (g_bsB rfl rfl (by (repeat (first | exact BL.nil | apply BL.cons)); done)) ?_)); refine jK (bts 15 7935) ?_; refine jW 0 [8, 13, 14] (bts 15 32767) ?_; refine jQ ?_)
 all_goals repeat' (refine jR ?_)
 all_goals exact jZ (vs := [_, _, _]) rfl ⟨rfl, rfl, rfl, trivial⟩ rfl ⟨rfl, rfl, _, _, _, rfl, oM, oM, by (simp only [List.length_append, List.length_cons, List.length_nil, List.length_take, List.length_drop]; omega)⟩
theorem c_FnKeyBack {v : Value} {l : List UInt8} (hs : SlV G v 1 l.length (u8s l)) : PuG Tryz.prog 5 [v] G (· = Bo true) := by
 obtain ⟨a, cap, rfl⟩ := hs.sl
 refine jE [(0, _)] Tryz.func5 Tryz.ntmps5 fun B hB => ?_
 repeat' (first | (refine jR ?_) | (refine jo ?_; first | refine jV (g_lenL rfl) ?_ | (refine c_pu rfl rfl rfl (c_DrawKeyBack (by (repeat (assumption)); done)) rfl ?_; rintro _ ⟨s1, k1, x1, rfl, hsz⟩)) | refine k_if rfl (fun _ => ?_) (fun _ => ?_))
 ·refine jY (vs := [_]) ?_
  rfl
 have cx_kb := c_KeyBackI (G := G) (s := s1) (k := k1) (x := x1) hsz
 have cx_kb2 := c_KeyBackS (G := G) (s := s1) (k := k1) (x := x1) hsz
 unfold psR at cx_kb cx_kb2
 cases h : keyBackV s1 k1 x1 with
 | none =>
  rw [h] at cx_kb cx_kb2
  simp only [Option.getD_none, Option.isSome_none] at cx_kb cx_kb2
  repeat' (first | (refine jR ?_) | (refine jo ?_; first | (refine jAt rfl ?_) | (refine jAf rfl ?_) | (refine c_rt rfl rfl rfl cx_kb rfl ?_) | (refine c_rt rfl rfl rfl cx_kb2 rfl ?_)) | (refine k_gt rfl rfl rfl ?_) | (refine k_gf rfl rfl rfl ?_) | (refine k_tt rfl rfl ?_))
  all_goals refine jY (vs := [_]) ?_
  all_goals rfl
 | some w =>
  obtain ⟨hb, hbl⟩ := back_key h
  rw [h] at cx_kb cx_kb2
  simp only [Option.getD_some, Option.isSome_some] at cx_kb cx_kb2
  have cx_ss1 := c_KeyOfI (G := G) (s := s1) (k := k1) (w := w) ⟨hsz.1, hsz.2.1, oM⟩
  rw [hb] at cx_ss1
  simp only [Option.getD_some, Option.isSome_some] at cx_ss1
  repeat' (first | (refine jR ?_) | (refine jo ?_; first | (refine jAt rfl ?_) | (refine jAf rfl ?_) | (refine c_rt rfl rfl rfl cx_kb rfl ?_) | (refine c_rt rfl rfl rfl cx_kb2 rfl ?_) | (refine c_rt rfl rfl rfl cx_ss1 rfl ?_)) | (refine k_gt rfl rfl (by first | rfl | (refine decide_eq_true ?_; (rfl))) ?_) | (refine k_gf rfl rfl rfl ?_) | (refine k_ff rfl rfl ?_))
  all_goals refine jY (vs := [_]) ?_
  all_goals (exact congrArg Value.bool (decide_eq_true rfl))
end Go.E
