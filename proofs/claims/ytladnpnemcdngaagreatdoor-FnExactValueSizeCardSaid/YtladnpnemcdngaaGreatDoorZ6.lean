/- Contracts and plain laws that the statement rests on, part 6. Conditions: as each says. -/
import Derived.Test.YtladnpnemcdngaaGreatDoorZ5
import Derived.Test.YtladnpnemcdngaaGreatDoorZ3
set_option linter.unusedVariables false
set_option linter.unusedSimpArgs false
/-! Wf -/
namespace Go.E
set_option maxRecDepth 20000
set_option maxHeartbeats 2000000
open Go.Proofs
variable {G : Gh}
theorem c_number {r sc : Nat} {s : List UInt8} {b : Bool} {top : Int} (hs : s.length ≤ 1000000) : FnG Tryz.prog 50 [Pt r 0, I top] G [scO r sc s b]
    (fun v L' => ∃ n, v = I n ∧ (0 ≤ n ∧ n ≤ 999999) ∧ (∀ m, numOf (s.takeWhile isDg) top = some m → n = m) ∧ L' = [scO r sc (s.dropWhile isDg) (b || (numOf (s.takeWhile isDg) top).isNone)]) := by
  have hwl := while_len isDg s
  have cx_tl : PuG Tryz.prog 40 [S s, S [48, 49, 50, 51, 52, 53, 54, 55, 56, 57]] G (· = S (s.dropWhile isDg)) := by
    rw [← trimL_drop dgb_in]
    exact c_TrimLeft rfl (by kernel_rfl) rfl
  have e1 : s.take (((s.length : Nat) : Int) - (((s.dropWhile isDg).length : Nat) : Int)).toNat = s.takeWhile isDg := by
    rw [← take_drop_while]; congr 1; omega
  have cx_pnB := c_plainNumberB (G := G) (s := s.takeWhile isDg) (top := top) (by omega)
  rw [← e1] at cx_pnB
  cases hnum2 : (numOf (s.takeWhile isDg) top) with
  | none =>
    rw [← e1] at hnum2
    have hno : (!(numOf (s.take (((s.length : Nat) : Int) - (((s.dropWhile isDg).length : Nat) : Int)).toNat) top).isSome) = true := by rw [hnum2]; rfl
    refine g_enter [(0, _), (1, _)] Tryz.func50 (by kernel_rfl) Tryz.ntmps50 rfl rfl (by repeat (first | exact trivial | refine ⟨rfl, ?_⟩)) fun B hB hW => ?_
    repeat' (first | (refine run (t := tb) 400 rfl ?_ ?_; (focus (repeat' ((exact trivial))))) | (refine k_op rfl ?_; first | refine v_op (g_ld rfl rfl rfl) rfl rfl ?_ | refine c_st1 rfl rfl rfl rfl ?_ | (refine c_rt rfl rfl rfl cx_tl rfl ?_)) | (refine k_tt rfl ?_ ?_; (focus (((assumption)); done))) | (refine k_any (s_any (id := 2) _ (fun _ h => h) mixed ?_); refine x_tks (t := tb) (fuel := 11) [0, 1, 2, 4, 5, 6, 9, 10, 13] (bts 20 9847) (by kernel_rfl) (by kernel_rfl) rfl rfl (Gh.le.refl _) (by repeat ((exact List.Sublist.refl _))) ?_ ?_; (focus (repeat' ((exact trivial)))); ((refine (x_tkg (bts 20 9855) 3 rfl (by kernel_rfl) rfl (Gh.le.refl _) (by repeat ((exact List.Sublist.refl _)))) (g_ld rfl rfl rfl) rfl rfl ?_)); ((refine (x_tkg (bts 20 9983) 7 rfl (by kernel_rfl) rfl (Gh.le.refl _) (by repeat ((exact List.Sublist.refl _)))) (g_ld rfl rfl rfl) rfl rfl ?_)); refine x_tks (t := tb) (fuel := 6) [8, 11, 12] (bts 20 16383) (by kernel_rfl) (by kernel_rfl) rfl rfl (Gh.le.refl _) (by repeat ((exact List.Sublist.refl _))) ?_ ?_; (focus (repeat' (first | exact trivial | apply And.intro | omega))); refine x_all [14] (by kernel_rfl) (by decide) ⟨?_, trivial⟩; refine x_opg rfl rfl ?_; ((refine c_pu rfl rfl rfl cx_pnB rfl ?_; rintro _ ⟨n, rfl, hnum, hn0, hn1⟩)); refine x_ks (by (exact Gh.le.refl _)) (by repeat ((exact List.Sublist.refl _))) (listed' := (bts 20 32767)) (by kernel_rfl) ?_; refine x_tks (t := tb) (fuel := 0) [15, 16, 17, 18, 19] (bts 20 1048575) (by kernel_rfl) (by kernel_rfl) rfl rfl (Gh.le.refl _) (by repeat ((exact List.Sublist.refl _))) ?_ ?_; (focus (repeat' ((exact trivial)))); refine x_done (by kernel_rfl) (k_bk ?_)))
    exact k_rr (vs := [_]) rfl ⟨rfl, trivial⟩ rfl (List.Sublist.refl _) ⟨rfl, _, rfl, ⟨hn0, hn1⟩, fun m hm => (by cases hm), by simp⟩
  | some m =>
    rw [← e1] at hnum2
    have hno : (!(numOf (s.take (((s.length : Nat) : Int) - (((s.dropWhile isDg).length : Nat) : Int)).toNat) top).isSome) = false := by rw [hnum2]; rfl
    refine g_enter [(0, _), (1, _)] Tryz.func50 (by kernel_rfl) Tryz.ntmps50 rfl rfl (by repeat (first | exact trivial | refine ⟨rfl, ?_⟩)) fun B hB hW => ?_
    repeat' (first | (refine run (t := tb) 400 rfl ?_ ?_; (focus (repeat' ((exact trivial))))) | (refine k_op rfl ?_; first | refine v_op (g_ld rfl rfl rfl) rfl rfl ?_ | refine c_st1 rfl rfl rfl rfl ?_ | (refine c_rt rfl rfl rfl cx_tl rfl ?_)) | (refine k_ff rfl ?_ ?_; (focus (((assumption)); done))) | (refine k_any (s_any (id := 2) _ (fun _ h => h) mixed ?_); refine x_tks (t := tb) (fuel := 11) [0, 1, 2, 4, 5, 6, 9, 10, 13] (bts 20 9847) (by kernel_rfl) (by kernel_rfl) rfl rfl (Gh.le.refl _) (by repeat ((exact List.Sublist.refl _))) ?_ ?_; (focus (repeat' ((exact trivial)))); ((refine (x_tkg (bts 20 9855) 3 rfl (by kernel_rfl) rfl (Gh.le.refl _) (by repeat ((exact List.Sublist.refl _)))) (g_ld rfl rfl rfl) rfl rfl ?_)); ((refine (x_tkg (bts 20 9983) 7 rfl (by kernel_rfl) rfl (Gh.le.refl _) (by repeat ((exact List.Sublist.refl _)))) (g_ld rfl rfl rfl) rfl rfl ?_)); refine x_tks (t := tb) (fuel := 6) [8, 11, 12] (bts 20 16383) (by kernel_rfl) (by kernel_rfl) rfl rfl (Gh.le.refl _) (by repeat ((exact List.Sublist.refl _))) ?_ ?_; (focus (repeat' (first | exact trivial | apply And.intro | omega))); refine x_all [14] (by kernel_rfl) (by decide) ⟨?_, trivial⟩; refine x_opg rfl rfl ?_; ((refine c_pu rfl rfl rfl cx_pnB rfl ?_; rintro _ ⟨n, rfl, hnum, hn0, hn1⟩)); refine x_ks (by (exact Gh.le.refl _)) (by repeat ((exact List.Sublist.refl _))) (listed' := (bts 20 32767)) (by kernel_rfl) ?_; refine x_tks (t := tb) (fuel := 0) [15, 16, 17, 18, 19] (bts 20 1048575) (by kernel_rfl) (by kernel_rfl) rfl rfl (Gh.le.refl _) (by repeat ((exact List.Sublist.refl _))) ?_ ?_; (focus (repeat' ((exact trivial)))); refine x_done (by kernel_rfl) (k_bk ?_)))
    exact k_rr (vs := [_]) rfl ⟨rfl, trivial⟩ rfl (List.Sublist.refl _) ⟨rfl, _, rfl, ⟨hn0, hn1⟩, fun m' hm => hnum m' (by rw [hnum2]; exact hm), by simp⟩
theorem tk_len {l s : List UInt8} {b : Bool} : (tkS l s b).length ≤ s.length := by unfold tkS; split <;> simp
theorem tk1 {c : UInt8} {s : List UInt8} : tkR [c] s false = true ↔ ∃ r, s = c :: r := by
  cases s with
  | nil =>
    constructor
    · intro h; simp [tkR, List.isPrefixOf] at h
    · rintro ⟨r, h⟩; cases h
  | cons d r =>
    constructor
    · intro h
      have : c = d := by simpa [tkR, List.isPrefixOf] using h
      exact ⟨r, by rw [this]⟩
    · rintro ⟨r', h⟩
      simp only [List.cons.injEq] at h
      simp [tkR, List.isPrefixOf, h.1]
theorem tk1S {c : UInt8} {r : List UInt8} : tkS [c] (c :: r) false = r := by unfold tkS; rw [if_pos (tk1.2 ⟨r, rfl⟩)]; rfl
theorem tkT {l s : List UInt8} : tkR l s true = false := by simp [tkR]
theorem tkST {l s : List UInt8} : tkS l s true = s := by simp [tkS, tkT]
theorem tkSF {l s : List UInt8} {b : Bool} (h : tkR l s b = false) : tkS l s b = s := by simp [tkS, h]
/-- What comes of reading: the text that is left, whether it went wrong. -/
def QuP (s : List UInt8) (b : Bool) (x s' : List UInt8) (b' : Bool) : Prop :=
  x.length + s'.length ≤ s.length ∧ (b' = false → b = false ∧ rdQuote s = some (.nd 116 x 0 [], s')) ∧ (b' = true → b = true ∨ rdQuote s = none)
theorem quP_mk (s : List UInt8) (b : Bool) : QuP s b ((tkS [39] s b).takeWhile isTb) (tkS [39] ((tkS [39] s b).dropWhile isTb) (!tkR [39] s b)) (!tkR [39] ((tkS [39] s b).dropWhile isTb) (!tkR [39] s b) || decide (12 < ((tkS [39] s b).takeWhile isTb).length)) := by
  have hl : ((tkS [39] s b).takeWhile isTb).length + (tkS [39] ((tkS [39] s b).dropWhile isTb) (!tkR [39] s b)).length ≤ s.length := by
    have h1 := tk_len (l := [39]) (s := s) (b := b)
    have h2 := while_len isTb (tkS [39] s b)
    have h3 := tk_len (l := [39]) (s := (tkS [39] s b).dropWhile isTb) (b := !tkR [39] s b)
    omega
  refine ⟨hl, ?_⟩
  rw [quote_law]
  cases b with
  | true => rw [tkST, tkT]; simp [tkT]
  | false =>
    cases ht : tkR [39] s false with
    | false =>
      simp only [Bool.not_false, tkT, Bool.true_or]
      refine ⟨fun h => (by cases h), fun _ => .inr ?_⟩
      cases s with
      | nil => rfl
      | cons c r =>
        dsimp only
        rw [if_neg]
        intro hc
        have : tkR [39] (c :: r) false = true := tk1.2 ⟨r, by rw [show c = 39 from UInt8.toNat_inj.1 hc]⟩
        rw [this] at ht; cases ht
    | true =>
      obtain ⟨r, rfl⟩ := tk1.1 ht
      rw [tk1S]
      dsimp only
      rw [if_pos (show (39 : UInt8).toNat = 39 from rfl), Bool.not_true]
      cases ht2 : tkR [39] (r.dropWhile isTb) false with
      | false =>
        simp only [Bool.not_false, Bool.true_or]
        refine ⟨fun h => (by cases h), fun _ => .inr ?_⟩
        cases hd : r.dropWhile isTb with
        | nil => rfl
        | cons d t =>
          dsimp only
          rw [if_neg]
          rintro ⟨hc, _⟩
          have : tkR [39] (r.dropWhile isTb) false = true := tk1.2 ⟨t, by rw [hd, show d = 39 from UInt8.toNat_inj.1 hc]⟩
          rw [this] at ht2; cases ht2
      | true =>
        obtain ⟨t, hd⟩ := tk1.1 ht2
        rw [hd, tk1S]
        dsimp only
        by_cases h12 : 12 < (r.takeWhile isTb).length
        · rw [decide_eq_true h12, if_neg (fun h => by omega)]
          exact ⟨fun h => (by cases h), fun _ => .inr rfl⟩
        · rw [decide_eq_false h12, if_pos ⟨rfl, by omega⟩]
          exact ⟨fun _ => ⟨rfl, rfl⟩, fun h => (by cases h)⟩
theorem c_quote {r sc : Nat} {s : List UInt8} {b : Bool} (hs : s.length ≤ 1000000) : FnG Tryz.prog 51 [Pt r 0] G [scO r sc s b]
    (fun v L' => ∃ x s' b', v = S x ∧ QuP s b x s' b' ∧ L' = [scO r sc s' b']) := by
  have hq := quP_mk s b
  have h1 := tk_len (l := [39]) (s := s) (b := b)
  have h2 := while_len isTb (tkS [39] s b)
  have h3 := tk_len (l := [39]) (s := (tkS [39] s b).dropWhile isTb) (b := !tkR [39] s b)
  have cx_wa := c_want (G := G) (r := r) (sc := sc) (s := s) (l := [39]) (b := b) ⟨hs, by simp⟩
  have cx_wb := c_want (G := G) (r := r) (sc := sc) (s := (tkS [39] s b).dropWhile isTb) (l := [39]) (b := !tkR [39] s b) ⟨by omega, by simp⟩
  have cx_tl : PuG Tryz.prog 40 [S (tkS [39] s b), S [97, 98, 99, 100, 101, 102, 103, 104, 105, 106, 107, 108, 109, 110, 111, 112, 113, 114, 115, 116, 117, 118, 119, 120, 121, 122, 48, 49, 50, 51, 52, 53, 54, 55, 56, 57, 32]] G (· = S ((tkS [39] s b).dropWhile isTb)) := by
    rw [← trimL_drop txb_in]
    exact c_TrimLeft rfl (by kernel_rfl) rfl
  have e1 : (tkS [39] s b).take ((((tkS [39] s b).length : Nat) : Int) - ((((tkS [39] s b).dropWhile isTb).length : Nat) : Int)).toNat = (tkS [39] s b).takeWhile isTb := by
    rw [← take_drop_while]; congr 1; omega
  by_cases h12 : 12 < ((tkS [39] s b).takeWhile isTb).length
  · rw [decide_eq_true h12, Bool.or_true] at hq
    rw [← e1] at h12
    refine g_enter [(0, _)] Tryz.func51 (by kernel_rfl) Tryz.ntmps51 rfl rfl (by repeat (first | exact trivial | refine ⟨rfl, ?_⟩)) fun B hB hW => ?_
    repeat' (first | (refine run (t := tb) 400 rfl ?_ ?_; (focus (repeat' ((exact trivial))))) | (refine k_op rfl ?_; first | refine v_op (g_ld rfl rfl rfl) rfl rfl ?_ | refine c_st1 rfl rfl rfl rfl ?_ | (refine c_m1g rfl rfl rfl cx_wa rfl ?_; rintro _ _ rfl; dsimp only [List.cons_append, List.nil_append]) | (refine c_m1g rfl rfl rfl cx_wb rfl ?_; rintro _ _ rfl; dsimp only [List.cons_append, List.nil_append]) | (refine c_rt rfl rfl rfl cx_tl rfl ?_)) | (refine k_tt rfl ?_ ?_; (focus (((refine decide_eq_true ?_; (omega))); done))) | (refine k_any (s_any (id := 3) _ (fun _ h => h) mixed ?_); refine x_tks (t := tb) (fuel := 6) [0, 1, 2, 4, 5, 6, 9, 10] (bts 14 1655) (by kernel_rfl) (by kernel_rfl) rfl rfl (Gh.le.refl _) (by repeat ((exact List.Sublist.refl _))) ?_ ?_; (focus (repeat' ((exact trivial)))); ((refine (x_tkg (bts 14 1663) 3 rfl (by kernel_rfl) rfl (Gh.le.refl _) (by repeat ((exact List.Sublist.refl _)))) (g_ld rfl rfl rfl) rfl rfl ?_)); ((refine (x_tkg (bts 14 1791) 7 rfl (by kernel_rfl) rfl (Gh.le.refl _) (by repeat ((exact List.Sublist.refl _)))) (g_ld rfl rfl rfl) rfl rfl ?_)); refine x_tks (t := tb) (fuel := 0) [8, 11, 12, 13] (bts 14 16383) (by kernel_rfl) (by kernel_rfl) rfl rfl (Gh.le.refl _) (by repeat ((exact List.Sublist.refl _))) ?_ ?_; (focus (repeat' (first | exact trivial | apply And.intro | omega))); refine x_done (by kernel_rfl) (k_bk ?_)))
    all_goals exact k_rr (vs := [_]) rfl ⟨rfl, trivial⟩ rfl (List.Sublist.refl _) ⟨rfl, _, _, _, rfl, by rw [e1]; exact hq, rfl⟩
  · rw [decide_eq_false h12, Bool.or_false] at hq
    rw [← e1] at h12
    refine g_enter [(0, _)] Tryz.func51 (by kernel_rfl) Tryz.ntmps51 rfl rfl (by repeat (first | exact trivial | refine ⟨rfl, ?_⟩)) fun B hB hW => ?_
    repeat' (first | (refine run (t := tb) 400 rfl ?_ ?_; (focus (repeat' ((exact trivial))))) | (refine k_op rfl ?_; first | refine v_op (g_ld rfl rfl rfl) rfl rfl ?_ | refine c_st1 rfl rfl rfl rfl ?_ | (refine c_m1g rfl rfl rfl cx_wa rfl ?_; rintro _ _ rfl; dsimp only [List.cons_append, List.nil_append]) | (refine c_m1g rfl rfl rfl cx_wb rfl ?_; rintro _ _ rfl; dsimp only [List.cons_append, List.nil_append]) | (refine c_rt rfl rfl rfl cx_tl rfl ?_)) | (refine k_ff rfl ?_ ?_; (focus (((refine decide_eq_false ?_; (omega))); done))) | (refine k_any (s_any (id := 3) _ (fun _ h => h) mixed ?_); refine x_tks (t := tb) (fuel := 6) [0, 1, 2, 4, 5, 6, 9, 10] (bts 14 1655) (by kernel_rfl) (by kernel_rfl) rfl rfl (Gh.le.refl _) (by repeat ((exact List.Sublist.refl _))) ?_ ?_; (focus (repeat' ((exact trivial)))); ((refine (x_tkg (bts 14 1663) 3 rfl (by kernel_rfl) rfl (Gh.le.refl _) (by repeat ((exact List.Sublist.refl _)))) (g_ld rfl rfl rfl) rfl rfl ?_)); ((refine (x_tkg (bts 14 1791) 7 rfl (by kernel_rfl) rfl (Gh.le.refl _) (by repeat ((exact List.Sublist.refl _)))) (g_ld rfl rfl rfl) rfl rfl ?_)); refine x_tks (t := tb) (fuel := 0) [8, 11, 12, 13] (bts 14 16383) (by kernel_rfl) (by kernel_rfl) rfl rfl (Gh.le.refl _) (by repeat ((exact List.Sublist.refl _))) ?_ ?_; (focus (repeat' (first | exact trivial | apply And.intro | omega))); refine x_done (by kernel_rfl) (k_bk ?_)))
    all_goals exact k_rr (vs := [_]) rfl ⟨rfl, trivial⟩ rfl (List.Sublist.refl _) ⟨rfl, _, _, _, rfl, by rw [e1]; exact hq, rfl⟩
end Go.E
/-! EngT -/
namespace Go.E
/-- A contract that may seal. -/
def FnM (P : Program) (f : FuncId) (args : List Value) (G : Gh) (L : List Own) (R : Value → Gh → List Own → Prop) : Prop := Fn P f args G L (fun v G' L' => Gh.le G G' ∧ R v G' L')
section
variable {P : Program} {n : Nat} {D : List Deferred} {E : Env} {B : Base} {G : Gh} {L : List Own} {K : Act → World → Prop} {Q : Exit → Act → World → Prop}
theorem c_m1s {fo : Operand} {l : List Operand} {tys : Array TypeId} {d : Nat} {ty : TypeId} {pos : String} {aft : Array Edge} {g : Option (Nat × Bool)} {f : FuncId} {fi ca az vs : List Value} {b : Nat} {cs : List Value} {T : TypeId} {R : List Own} {Post : Value → Gh → List Own → Prop}
    [hd : DelB L b cs T R] (hf : ev E fo = some (.func (.func f) fi.toArray ca.toArray)) (ha : evs E l = some az) (hv : fi ++ az ++ ca = vs) (hc : FnM P f vs G [.blk b (.cells cs.toArray T (0, 0))] Post) (hlt : Nat.blt d n = true)
    (k : ∀ v G' L', Gh.le G G' → Post v G' L' → Nx n D ((d, v) :: E) B G' (L' ++ R) K) : Nx n D E B G L (ow P ⟨some d, .call ⟨.value fo, l.toArray, tys⟩, ty, pos, aft, g⟩ Q K) :=
  c_m1 hf ha hv hc hlt fun v G' L' h => k v G' L' h.1 h.2
theorem m_enter {f : FuncId} {fn : Func} {c : Code} {args : List Value} {R : Value → Gh → List Own → Prop} (E0 : Env) (hf : P.funcs[f]? = some fn) (hok : bodyOk P f = true) (hn : fn.ntmps = n) (hb : fn.body = some c)
    (hlen : Nat.ble args.length n = true) (hE : Sub E0 (params 0 args))
    (h : ∀ B, B.G = G → B.W = bks L → Nx n [] E0 B G L (cu P (.code c) [] (bp P fn (RPost B (fun v G' L' => Gh.le G G' ∧ R v G' L'))))) : FnM P f args G L R := c_enter E0 hf hok hn hb hlen hE h
end
end Go.E
/-! Wg -/
namespace Go.E
set_option maxRecDepth 20000
set_option maxHeartbeats 2000000
open Go.Proofs
variable {G : Gh}
/-- What comes of reading: a value, the text that is left, whether it went wrong. -/
def RdP (f : List UInt8 → Option (V × List UInt8)) (s : List UInt8) (b : Bool) (u : V) (s' : List UInt8) (b' : Bool) : Prop :=
  s'.length ≤ s.length ∧ (b' = false → b = false ∧ f s = some (u, s')) ∧ (b' = true → (b = true ∨ f s = none) ∧ u.tot + 100 * s'.length ≤ 100 * s.length + 100)
def ValP (f : List UInt8 → Option (V × List UInt8)) (r sc : Nat) (s : List UInt8) (b : Bool) (v : Value) (G' : Gh) (L' : List Own) : Prop :=
  ∃ u c s' b', v = Ag (vcF c) ∧ V.rep G' u c ∧ L' = [scO r sc s' b'] ∧ RdP f s b u s' b'
def ValC (n sc : Nat) (qs : List TyP) : Prop := ∀ (G : Gh) (r : Nat) (k s : List UInt8) (b : Bool), ScI G sc qs → kindIn (tyq qs) k = true → s.length < n → s.length ≤ 1000 →
  FnM Tryz.prog 25 [Pt r 0, Ag (kdF k)] G [scO r sc s b] (ValP (rd (tyq qs) n k) r sc s b)
def rdList (f : List UInt8 → Option (V × List UInt8)) : List UInt8 → Option (V × List UInt8)
  | [] => none
  | d :: s' => if d.toNat = 91 then (match s' with
      | [] => none
      | e :: r => if e.toNat = 93 then some (.nd 91 [] 0 [], r) else (rdItems f 20 s' []).map fun x => (.nd 91 [] 0 x.1, x.2)) else none
/-- Items without a greatest number. -/
theorem rdItems_more {f : List UInt8 → Option (V × List UInt8)} (hf : ∀ s x, f s = some x → x.2.length < s.length) : ∀ (m M : Nat) (s : List UInt8) (acc : List V), s.length < M →
    rdItems f m s acc = match rdItems f M s acc with
      | none => none
      | some x => if x.1.length ≤ acc.length + m then some x else none
  | 0, M, s, acc, hM => by
    cases hr : rdItems f M s acc with
    | none => rfl
    | some x =>
      have : acc.length + 1 ≤ x.1.length := by
        clear hM
        induction M generalizing s acc with
        | zero => cases hr
        | succ M ih =>
          unfold rdItems at hr
          cases hfs : f s with
          | none => rw [hfs] at hr; cases hr
          | some y =>
            rw [hfs] at hr
            obtain ⟨v, r⟩ := y
            cases r with
            | nil => cases hr
            | cons c r =>
              dsimp only at hr
              split at hr
              · have := ih _ _ hr; simp at this; omega
              · split at hr
                · simp only [Option.some.injEq] at hr; subst hr; simp
                · cases hr
      dsimp only
      rw [if_neg (by omega)]; rfl
  | m + 1, 0, s, acc, hM => by omega
  | m + 1, M + 1, s, acc, hM => by
    rw [rdItems, rdItems]
    cases hfs : f s with
    | none => rfl
    | some y =>
      have hlt := hf _ _ hfs
      obtain ⟨v, r⟩ := y
      cases r with
      | nil => rfl
      | cons c r =>
        simp only [List.length_cons] at hlt
        dsimp only
        split
        · rw [rdItems_more hf m M r (acc ++ [v]) (by omega)]
          cases rdItems f M r (acc ++ [v]) with
          | none => rfl
          | some x => dsimp only; simp only [List.length_append, List.length_singleton]; congr 1; simp; omega
        · split
          · dsimp only; rw [if_pos (by simp)]
          · rfl
theorem items_none {f : List UInt8 → Option (V × List UInt8)} {t : List UInt8} {vs : List V} : ∀ {m : Nat}, (f t = none ∨ ∃ u, f t = some (u, [])) → rdItems f m t vs = none
  | 0, _ => rfl
  | m + 1, h => by
    rw [rdItems]
    rcases h with h | ⟨u, h⟩ <;> rw [h]
theorem items_step {f : List UInt8 → Option (V × List UInt8)} {t t2 : List UInt8} {c : UInt8} {u : V} {vs : List V} {m : Nat} (h : f t = some (u, c :: t2)) (hm : 0 < m) :
    rdItems f m t vs = if c.toNat = 44 then rdItems f (m - 1) t2 (vs ++ [u]) else if c.toNat = 93 then some (vs ++ [u], t2) else none := by
  obtain ⟨m, rfl⟩ : ∃ k, m = k + 1 := ⟨m - 1, by omega⟩
  rw [rdItems, h]; rfl
theorem rd_short {ts : List Ty} {n : Nat} {k s : List UInt8} {x : V × List UInt8} (h : rd ts n k s = some x) : x.2.length < s.length := by
  have := rd_tot n k s x h
  have := tot_pos x.1
  omega
abbrev tKnd : TypeId := 32
abbrev lo4 (b : Nat) (cs : List Value) : Own := .blk b (.cells cs.toArray tVal (0, 0))
theorem c_list {n r sc : Nat} {qs : List TyP} {k s : List UInt8} {b : Bool} (hV : ValC n sc qs) (hS : ScI G sc qs) (hk : kindIn (tyq qs) k = true) (hs : s.length ≤ n ∧ s.length ≤ 1000) :
    FnM Tryz.prog 45 [Pt r 0, Ag (kdF k)] G [scO r sc s b] (ValP (rdList (rd (tyq qs) n k)) r sc s b) := by
  have cx_wa := c_want (G := G) (r := r) (sc := sc) (s := s) (l := [91]) (b := b) ⟨by omega, by simp⟩
  have cx_tk := c_take (G := G) (r := r) (sc := sc) (s := tkS [91] s b) (l := [93]) (b := !tkR [91] s b) ⟨by have := tk_len (l := [91]) (s := s) (b := b); omega, by simp⟩
  simp only [kdF]
  cases ht : tkR [91] s b with
  | false =>
    rw [ht, tkSF ht] at cx_wa cx_tk
    rw [Bool.not_false, tkT, tkST] at cx_tk
    have cx_wb := c_want (G := G) (r := r) (sc := sc) (s := s) (l := [93]) (b := true) ⟨by omega, by simp⟩
    rw [tkT, tkST] at cx_wb
    refine m_enter [(0, _), (1, _)] Tryz.func45 (by kernel_rfl) Tryz.ntmps45 rfl rfl (by repeat (first | exact trivial | refine ⟨rfl, ?_⟩)) fun B hB hW => ?_
    repeat' (first | (refine run (t := tb) 400 rfl ?_ ?_; (focus (repeat' ((exact trivial))))) | (refine k_op rfl ?_; first | refine c_bx rfl rfl rfl fun _ => ?_ | refine c_al rfl rfl fun _ => ?_ | refine v_op (g_bld rfl rfl) rfl rfl ?_ | refine c_stA rfl rfl rfl rfl rfl rfl ?_ | (refine c_m1g rfl rfl rfl cx_wa rfl ?_; rintro _ _ rfl; dsimp only [List.cons_append, List.nil_append]) | (refine c_m1g rfl rfl rfl cx_tk rfl ?_; rintro _ _ ⟨rfl, rfl⟩; dsimp only [List.cons_append, List.nil_append])) | (refine k_ff rfl ?_ ?_; (focus (((rfl)); done))))
    rename_i x3 x4 x5 _
    refine k_loop (ι := Unit) (fun i => True) (fun i => [(0, Pt r 0), (4, Pt x4 0), (5, Pt x5 0)]) (fun _ => G) (fun i => [scO r sc s true, lo4 x5 [U8 91, S [], I 0, nilS], lo4 x4 [U8 0, S [], I 0, nilS]]) (fun i => 0) () ?_ (by repeat (first | exact trivial | refine ⟨rfl, ?_⟩)) rfl (by repeat (first | exact List.nil_sublist _ | apply List.Sublist.cons_cons)) (fun i Hi => ?_)
    · trivial
    repeat' (first | (refine run (t := tb) 400 rfl ?_ ?_; (focus (repeat' ((exact trivial))))) | (refine k_op rfl ?_; first | refine c_stA rfl rfl rfl rfl rfl rfl ?_ | refine v_op (g_ld rfl rfl rfl) rfl rfl ?_ | refine v_op (g_ldA rfl rfl rfl rfl) rfl rfl ?_ | refine v_op (g_lenL rfl) rfl rfl ?_ | (refine c_m1g rfl rfl rfl cx_wb rfl ?_; rintro _ _ rfl; dsimp only [List.cons_append, List.nil_append])) | (refine k_ff rfl ?_ ?_; (focus (((rfl)); done))))
    refine k_rr (vs := [_]) rfl ⟨rc_A rfl rfl rfl rfl, trivial⟩ rfl (by repeat (first | exact List.nil_sublist _ | apply List.Sublist.cons_cons)) ⟨Gh.le.refl _, .nd 91 [] 0 [], ⟨91, [], 0, none, 0, 0⟩, s, true, rfl, rep_leaf (by decide) (by decide), rfl, Nat.le_refl _, fun h => (by cases h), fun _ => ⟨?_, by simp only [V.tot, V.tots, List.length_nil]; omega⟩⟩
    cases b with
    | true => exact .inl rfl
    | false =>
      right
      cases s with
      | nil => rfl
      | cons d r' =>
        unfold rdList
        dsimp only
        rw [if_neg]
        intro h91
        have : tkR [91] (d :: r') false = true := tk1.2 ⟨r', by rw [show d = 91 from UInt8.toNat_inj.1 h91]⟩
        rw [this] at ht; cases ht
  | true =>
    have hb : b = false := by cases b with | true => rw [tkT] at ht; cases ht | false => rfl
    subst hb
    obtain ⟨s1, rfl⟩ := tk1.1 ht
    rw [ht, tk1S] at cx_wa cx_tk
    rw [Bool.not_true] at cx_wa cx_tk
    simp only [List.length_cons] at hs
    cases ht2 : tkR [93] s1 false with
    | true =>
      obtain ⟨s2, rfl⟩ := tk1.1 ht2
      rw [ht2, tk1S] at cx_tk
      refine m_enter [(0, _), (1, _)] Tryz.func45 (by kernel_rfl) Tryz.ntmps45 rfl rfl (by repeat (first | exact trivial | refine ⟨rfl, ?_⟩)) fun B hB hW => ?_
      repeat' (first | (refine run (t := tb) 400 rfl ?_ ?_; (focus (repeat' ((exact trivial))))) | (refine k_op rfl ?_; first | refine c_bx rfl rfl rfl fun _ => ?_ | refine c_al rfl rfl fun _ => ?_ | refine v_op (g_bld rfl rfl) rfl rfl ?_ | refine c_stA rfl rfl rfl rfl rfl rfl ?_ | refine v_op (g_ldA rfl rfl rfl rfl) rfl rfl ?_ | (refine c_m1g rfl rfl rfl cx_wa rfl ?_; rintro _ _ rfl; dsimp only [List.cons_append, List.nil_append]) | (refine c_m1g rfl rfl rfl cx_tk rfl ?_; rintro _ _ ⟨rfl, rfl⟩; dsimp only [List.cons_append, List.nil_append])) | (refine k_tt rfl ?_ ?_; (focus (((rfl)); done))))
      refine k_rr (vs := [_]) rfl ⟨rc_A rfl rfl rfl rfl, trivial⟩ rfl (by repeat (first | exact List.nil_sublist _ | apply List.Sublist.cons_cons)) ⟨Gh.le.refl _, .nd 91 [] 0 [], ⟨91, [], 0, none, 0, 0⟩, s2, false, rfl, rep_leaf (by decide) (by decide), rfl, by simp only [List.length_cons]; omega, fun _ => ⟨rfl, rfl⟩, fun h => (by cases h)⟩
    | false =>
      rw [ht2, tkSF ht2] at cx_tk
      have hR : rdList (rd (tyq qs) n k) (91 :: s1) = (rdItems (rd (tyq qs) n k) 20 s1 []).map fun x => (.nd 91 [] 0 x.1, x.2) := by
        unfold rdList
        dsimp only
        rw [if_pos (show (91 : UInt8).toNat = 91 from rfl)]
        cases s1 with
        | nil =>
          have : rd (tyq qs) n k [] = none := by
            cases h : rd (tyq qs) n k [] with
            | none => rfl
            | some x => have := rd_short h; simp at this
          simp [rdItems, this]
        | cons e r' =>
          dsimp only
          rw [if_neg]
          intro h93
          have : tkR [93] (e :: r') false = true := tk1.2 ⟨r', by rw [show e = 93 from UInt8.toNat_inj.1 h93]⟩
          rw [this] at ht2; cases ht2
      have hmore := rdItems_more (f := rd (tyq qs) n k) (fun s x h => rd_short h) 20 (s1.length + 1) s1 [] (by omega)
      refine m_enter [(0, _), (1, _)] Tryz.func45 (by kernel_rfl) Tryz.ntmps45 rfl rfl (by repeat (first | exact trivial | refine ⟨rfl, ?_⟩)) fun B hB hW => ?_
      repeat' (first | (refine run (t := tb) 400 rfl ?_ ?_; (focus (repeat' ((exact trivial))))) | (refine k_op rfl ?_; first | refine c_bx rfl rfl rfl fun _ => ?_ | refine c_al rfl rfl fun _ => ?_ | refine v_op (g_bld rfl rfl) rfl rfl ?_ | refine c_stA rfl rfl rfl rfl rfl rfl ?_ | (refine c_m1g rfl rfl rfl cx_wa rfl ?_; rintro _ _ rfl; dsimp only [List.cons_append, List.nil_append]) | (refine c_m1g rfl rfl rfl cx_tk rfl ?_; rintro _ _ ⟨rfl, rfl⟩; dsimp only [List.cons_append, List.nil_append])) | (refine k_ff rfl ?_ ?_; (focus (((rfl)); done))))
      rename_i x3 x4 x5 _
      refine Nx.addNil tVal 4 (Nx.perm (List.Perm.swap _ _ _) ?_)
      refine k_loop (ι := List V × List VC × Option Addr × Nat × List UInt8 × Nat × Gh) (fun q => (V.reps q.2.2.2.2.2.2 q.1 q.2.1 ∧ Gh.le G q.2.2.2.2.2.2) ∧ (rdItems (rd (tyq qs) n k) (s1.length + 1) s1 [] = rdItems (rd (tyq qs) n k) q.2.2.2.2.2.1 q.2.2.2.2.1 q.1 ∧ q.2.2.2.2.1.length < q.2.2.2.2.2.1) ∧ (V.tots q.1 + 100 * q.2.2.2.2.1.length + 100 ≤ 100 * (s1.length + 1) ∧ q.2.2.2.2.1.length ≤ s1.length)) (fun q => [(0, Pt r 0), (3, Pt x3 0), (4, Pt x4 0), (5, Pt x5 0)]) (fun q => q.2.2.2.2.2.2) (fun q => [scO r sc q.2.2.2.2.1 false, .acc (.slice q.2.2.1 q.1.length q.2.2.2.1) tVal 4 q.1.length (rows vcF q.2.1), lo4 x5 [U8 91, S [], I 0, .slice q.2.2.1 q.1.length q.2.2.2.1], lo4 x4 [U8 0, S [], I 0, nilS], .blk x3 (.cells (List.toArray [S (sg k), S (bs k), S (nm k)]) tKnd (0, 0))]) (fun q => q.2.2.2.2.1.length) ([], [], none, 0, s1, s1.length + 1, G) ?_ (by repeat (first | exact trivial | refine ⟨rfl, ?_⟩)) rfl (by repeat ((exact List.Sublist.refl _))) (fun q Hq => ?_)
      · exact ⟨⟨rfl, Gh.le.refl _⟩, ⟨rfl, by dsimp only; omega⟩, by dsimp only; simp only [V.tots]; omega, Nat.le_refl _⟩
      obtain ⟨vs, cs, a, cap, t, m, Gq⟩ := q
      dsimp only at Hq ⊢
      obtain ⟨⟨hreps, hgq⟩, ⟨hit, htm⟩, hT, htl⟩ := Hq
      have hcl := reps_len hreps
      have hkl := tots_len vs
      have cx_vl := hV Gq r k t false (hS.mono hgq) hk (by omega) (by omega)
      
      repeat' (first | (refine run (t := tb) 400 rfl ?_ ?_; (focus (repeat' ((exact trivial))))) | (refine k_op rfl ?_; (refine v_op (g_ld rfl rfl rfl) rfl rfl ?_)) | (refine k_tt rfl ?_ ?_; (focus (((rfl)); done))))
      (refine k_any (s_any (id := 6) [.blk x3 (.cells (List.toArray [S (sg k), S (bs k), S (nm k)]) tKnd (0, 0))] (by intro y hy; simp only [List.mem_cons, List.not_mem_nil, or_false] at hy ⊢; simp [hy]) mixed ?_); refine x_tks (t := tb) (fuel := 7) [0, 2] (bts 9 5) (by kernel_rfl) (by kernel_rfl) rfl rfl (by (exact Gh.le.refl _)) (by repeat (first | exact List.Sublist.refl _ | apply List.Sublist.cons)) ?_ ?_; (focus (repeat' ((exact trivial)))); ((refine (x_tkg (bts 9 13) 3 rfl (by kernel_rfl) rfl (by (exact Gh.le.refl _)) (by repeat (first | exact List.Sublist.refl _ | apply List.Sublist.cons))) (g_ldA rfl rfl rfl rfl) rfl rfl ?_)); refine x_all [1, 4] (by kernel_rfl) (by decide) ⟨?_, ?_, trivial⟩; (focus (refine x_opg rfl rfl ?_; ((refine v_op (g_ld rfl rfl rfl) rfl rfl ?_)); refine x_kk (by (exact Gh.le.refl _)) (by repeat (first | exact List.Sublist.refl _ | apply List.Sublist.cons)) (listed' := (bts 9 15)) (by kernel_rfl) ?_; refine x_all [4] (by kernel_rfl) (by decide) ⟨?_, trivial⟩; refine x_opg rfl rfl ?_; ((refine c_m1s rfl rfl rfl cx_vl rfl ?_; rintro _ G1 _ hle ⟨u1, c1, t1, b1, rfl, hrep, rfl, hP⟩; dsimp only [List.cons_append, List.nil_append]; skip)); refine x_kk (by (assumption)) (by repeat (first | exact List.Sublist.refl _ | apply List.Sublist.cons)) (listed' := (bts 9 31)) (by kernel_rfl) ?_; refine x_all [5] (by kernel_rfl) (by decide) ⟨?_, trivial⟩; refine x_opg rfl rfl ?_; ((refine c_bsl rfl rfl rfl rfl rfl rfl fun _ => ?_)); refine x_kk (by (assumption)) (by repeat (first | exact List.Sublist.refl _ | apply List.Sublist.cons)) (listed' := (bts 9 63)) (by kernel_rfl) ?_; refine x_all [6] (by kernel_rfl) (by decide) ⟨?_, trivial⟩; refine x_opg rfl rfl ?_; ((refine c_apX rfl rfl rfl rfl rfl rfl rfl rfl rfl ?_ fun _ _ => ?_; (focus ((omega); done)))); refine x_kk (by (assumption)) (by repeat (first | exact List.Sublist.refl _ | apply List.Sublist.cons)) (listed' := (bts 9 127)) (by kernel_rfl) ?_; refine x_tks (t := tb) (fuel := 1) [7] (bts 9 255) (by kernel_rfl) (by kernel_rfl) rfl rfl (by (assumption)) (by repeat (first | exact List.Sublist.refl _ | apply List.Sublist.cons)) ?_ ?_; (focus (repeat' ((exact trivial)))); refine x_all [8] (by kernel_rfl) (by decide) ⟨?_, trivial⟩; refine x_opg rfl rfl ?_; ((refine c_st1 rfl rfl rfl rfl ?_)); refine x_kk (by (assumption)) (by repeat (first | exact List.Sublist.refl _ | apply List.Sublist.cons)) (listed' := (bts 9 511)) (by kernel_rfl) ?_; refine x_done (by kernel_rfl) (k_bk ?_))); rotate_left 1; (focus (refine x_opg rfl rfl ?_; ((refine c_m1s rfl rfl rfl cx_vl rfl ?_; rintro _ G1 _ hle ⟨u1, c1, t1, b1, rfl, hrep, rfl, hP⟩; dsimp only [List.cons_append, List.nil_append]; skip)); refine x_kk (by (assumption)) (by repeat (first | exact List.Sublist.refl _ | apply List.Sublist.cons)) (listed' := (bts 9 29)) (by kernel_rfl) ?_; refine x_all [1, 5] (by kernel_rfl) (by decide) ⟨?_, ?_, trivial⟩; (focus (refine x_opg rfl rfl ?_; ((refine v_op (g_ld rfl rfl rfl) rfl rfl ?_)); refine x_kk (by (assumption)) (by repeat (first | exact List.Sublist.refl _ | apply List.Sublist.cons)) (listed' := (bts 9 31)) (by kernel_rfl) ?_; refine x_all [5] (by kernel_rfl) (by decide) ⟨?_, trivial⟩; refine x_opg rfl rfl ?_; ((refine c_bsl rfl rfl rfl rfl rfl rfl fun _ => ?_)); refine x_kk (by (assumption)) (by repeat (first | exact List.Sublist.refl _ | apply List.Sublist.cons)) (listed' := (bts 9 63)) (by kernel_rfl) ?_; refine x_all [6] (by kernel_rfl) (by decide) ⟨?_, trivial⟩; refine x_opg rfl rfl ?_; ((refine c_apX rfl rfl rfl rfl rfl rfl rfl rfl rfl ?_ fun _ _ => ?_; (focus ((omega); done)))); refine x_kk (by (assumption)) (by repeat (first | exact List.Sublist.refl _ | apply List.Sublist.cons)) (listed' := (bts 9 127)) (by kernel_rfl) ?_; refine x_tks (t := tb) (fuel := 1) [7] (bts 9 255) (by kernel_rfl) (by kernel_rfl) rfl rfl (by (assumption)) (by repeat (first | exact List.Sublist.refl _ | apply List.Sublist.cons)) ?_ ?_; (focus (repeat' ((exact trivial)))); refine x_all [8] (by kernel_rfl) (by decide) ⟨?_, trivial⟩; refine x_opg rfl rfl ?_; ((refine c_st1 rfl rfl rfl rfl ?_)); refine x_kk (by (assumption)) (by repeat (first | exact List.Sublist.refl _ | apply List.Sublist.cons)) (listed' := (bts 9 511)) (by kernel_rfl) ?_; refine x_done (by kernel_rfl) (k_bk ?_))); rotate_left 1; (focus (refine x_opg rfl rfl ?_; ((refine c_bsl rfl rfl rfl rfl rfl rfl fun _ => ?_)); refine x_kk (by (assumption)) (by repeat (first | exact List.Sublist.refl _ | apply List.Sublist.cons)) (listed' := (bts 9 61)) (by kernel_rfl) ?_; refine x_all [1] (by kernel_rfl) (by decide) ⟨?_, trivial⟩; refine x_opg rfl rfl ?_; ((refine v_op (g_ld rfl rfl rfl) rfl rfl ?_)); refine x_kk (by (assumption)) (by repeat (first | exact List.Sublist.refl _ | apply List.Sublist.cons)) (listed' := (bts 9 63)) (by kernel_rfl) ?_; refine x_all [6] (by kernel_rfl) (by decide) ⟨?_, trivial⟩; refine x_opg rfl rfl ?_; ((refine c_apX rfl rfl rfl rfl rfl rfl rfl rfl rfl ?_ fun _ _ => ?_; (focus ((omega); done)))); refine x_kk (by (assumption)) (by repeat (first | exact List.Sublist.refl _ | apply List.Sublist.cons)) (listed' := (bts 9 127)) (by kernel_rfl) ?_; refine x_tks (t := tb) (fuel := 1) [7] (bts 9 255) (by kernel_rfl) (by kernel_rfl) rfl rfl (by (assumption)) (by repeat (first | exact List.Sublist.refl _ | apply List.Sublist.cons)) ?_ ?_; (focus (repeat' ((exact trivial)))); refine x_all [8] (by kernel_rfl) (by decide) ⟨?_, trivial⟩; refine x_opg rfl rfl ?_; ((refine c_st1 rfl rfl rfl rfl ?_)); refine x_kk (by (assumption)) (by repeat (first | exact List.Sublist.refl _ | apply List.Sublist.cons)) (listed' := (bts 9 511)) (by kernel_rfl) ?_; refine x_done (by kernel_rfl) (k_bk ?_))); rotate_left 1)); rotate_left 2)
      
      all_goals
        rename_i y1 yc
        have hrow : rows vcF cs ++ [U8 (c1.what : Nat), S c1.text, I c1.tag, c1.sl] = rows vcF (cs ++ [c1]) := (rows_snoc vcF cs c1).symm
        have hr2 : V.reps G1 (vs ++ [u1]) (cs ++ [c1]) := reps_snoc hrep (reps_mono hle hreps)
        have hvl : (vs ++ [u1]).length = vs.length + 1 := by simp
        have htu : V.tots (vs ++ [u1]) = V.tots vs + u1.tot := by simp [tots_app, V.tots]
        have hgl := hgq.trans hle
        obtain ⟨hPl, hP0, hP1⟩ := hP
        rw [hrow]
        cases b1 with
        | true =>
          obtain ⟨hno, hto⟩ := hP1 rfl
          have hno : rd (tyq qs) n k t = none := by
            rcases hno with h | h
            · cases h
            · exact h
          have hit2 : rdItems (rd (tyq qs) n k) m t vs = none := items_none (.inl hno)
          have cx_tm := c_take (G := G1) (r := r) (sc := sc) (s := t1) (l := [44]) (b := true) ⟨by omega, by simp⟩
          have cx_wb := c_want (G := G1) (r := r) (sc := sc) (s := t1) (l := [93]) (b := true) ⟨by omega, by simp⟩
          rw [tkT, tkST] at cx_tm cx_wb
          repeat' (first | (refine run (t := tb) 400 rfl ?_ ?_; (focus (repeat' ((exact trivial))))) | (refine k_op rfl ?_; first | refine c_st1 rfl rfl rfl rfl ?_ | refine c_stA rfl rfl rfl rfl rfl rfl ?_ | refine v_op (g_ld rfl rfl rfl) rfl rfl ?_ | refine v_op (g_ldA rfl rfl rfl rfl) rfl rfl ?_ | refine v_op (g_lenL rfl) rfl rfl ?_ | (refine c_m1g rfl rfl rfl cx_wb rfl ?_; rintro _ _ rfl; dsimp only [List.cons_append, List.nil_append]) | (refine c_m1g rfl rfl rfl cx_tm rfl ?_; rintro _ _ ⟨rfl, rfl⟩; dsimp only [List.cons_append, List.nil_append])) | (refine k_tt rfl ?_ ?_; (focus (((rfl)); done))) | refine k_if rfl (fun _ => ?_) (fun _ => ?_))
          all_goals (refine Nx.sealS (v := .slice (some ⟨y1, 0, none⟩) (vs.length + 1) yc) fun G2 hG2 hsl => ?_)
          all_goals refine k_rr (vs := [_]) rfl ⟨rc_A rfl rfl rfl rfl, trivial⟩ rfl (by repeat (first | exact List.nil_sublist _ | apply List.Sublist.cons_cons)) ⟨hgl.trans hG2, .nd 91 [] 0 (vs ++ [u1]), ⟨91, [], 0, some ⟨y1, 0, none⟩, vs.length + 1, yc⟩, t1, true, rfl, rep_mk (by decide) (by decide) (fun h => absurd h (by decide)) hvl.symm (by rw [List.length_append, List.length_singleton, hcl]; exact hsl) (reps_mono hG2 hr2), rfl, by simp only [List.length_cons]; omega, fun h => (by cases h), fun _ => ⟨.inr (by rw [hR, hmore, hit, hit2]; rfl), by rw [nd_tot, htu]; simp only [List.length_cons, List.length_nil]; omega⟩⟩
        | false =>
          obtain ⟨_, hfs⟩ := hP0 rfl
          have htot := rd_tot n k t _ hfs
          dsimp only at htot
          have hup := tot_pos u1
          have cx_tm := c_take (G := G1) (r := r) (sc := sc) (s := t1) (l := [44]) (b := false) ⟨by omega, by simp⟩
          cases ht3 : tkR [44] t1 false with
          | true =>
            obtain ⟨t2, rfl⟩ := tk1.1 ht3
            rw [ht3, tk1S] at cx_tm
            have hit2 := items_step (m := m) (vs := vs) hfs (by omega)
            rw [if_pos (show (44 : UInt8).toNat = 44 from rfl)] at hit2
            simp only [List.length_cons] at htot hPl
            have hlt : t2.length < m - 1 := by omega
            repeat' (first | (refine run (t := tb) 400 rfl ?_ ?_; (focus (repeat' ((exact trivial))))) | (refine k_op rfl ?_; (refine c_m1g rfl rfl rfl cx_tm rfl ?_; rintro _ _ ⟨rfl, rfl⟩; dsimp only [List.cons_append, List.nil_append])) | (refine k_ff rfl ?_ ?_; (focus (((rfl)); done))))
            exact k_rd (vs ++ [u1], cs ++ [c1], some ⟨y1, 0, none⟩, yc, t2, m - 1, G1) ⟨⟨hr2, hgl⟩, ⟨by rw [hit, hit2], hlt⟩, by dsimp only; omega, by dsimp only; omega⟩ (by dsimp only; omega) (by repeat (first | exact trivial | refine ⟨rfl, ?_⟩)) rfl (by rw [hvl]; repeat (first | exact List.Sublist.refl _ | apply List.Sublist.cons_cons | apply List.Sublist.cons))
          | false =>
            rw [ht3, tkSF ht3] at cx_tm
            have cx_wb := c_want (G := G1) (r := r) (sc := sc) (s := t1) (l := [93]) (b := false) ⟨by omega, by simp⟩
            cases ht4 : tkR [93] t1 false with
            | true =>
              obtain ⟨t2, rfl⟩ := tk1.1 ht4
              rw [ht4, tk1S, Bool.not_true] at cx_wb
              have hit2 := items_step (m := m) (vs := vs) hfs (by omega)
              rw [if_neg (show ¬ (93 : UInt8).toNat = 44 by decide), if_pos (show (93 : UInt8).toNat = 93 from rfl)] at hit2
              simp only [List.length_cons] at htot hPl
              by_cases h20 : vs.length + 1 ≤ 20
              · repeat' (first | (refine run (t := tb) 400 rfl ?_ ?_; (focus (repeat' ((exact trivial))))) | (refine k_op rfl ?_; first | refine c_stA rfl rfl rfl rfl rfl rfl ?_ | refine v_op (g_ld rfl rfl rfl) rfl rfl ?_ | refine v_op (g_ldA rfl rfl rfl rfl) rfl rfl ?_ | refine v_op (g_lenL rfl) rfl rfl ?_ | (refine c_m1g rfl rfl rfl cx_wb rfl ?_; rintro _ _ rfl; dsimp only [List.cons_append, List.nil_append]) | (refine c_m1g rfl rfl rfl cx_tm rfl ?_; rintro _ _ ⟨rfl, rfl⟩; dsimp only [List.cons_append, List.nil_append])) | (refine k_tt rfl ?_ ?_; (focus (((rfl)); done))) | (refine k_ff rfl ?_ ?_; (focus (((refine decide_eq_false ?_; (omega))); done))))
                refine Nx.sealS (v := .slice (some ⟨y1, 0, none⟩) (vs.length + 1) yc) fun G2 hG2 hsl => ?_
                refine k_rr (vs := [_]) rfl ⟨rc_A rfl rfl rfl rfl, trivial⟩ rfl (by repeat (first | exact List.nil_sublist _ | apply List.Sublist.cons_cons)) ⟨hgl.trans hG2, .nd 91 [] 0 (vs ++ [u1]), ⟨91, [], 0, some ⟨y1, 0, none⟩, vs.length + 1, yc⟩, t2, false, rfl, rep_mk (by decide) (by decide) (fun h => absurd h (by decide)) hvl.symm (by rw [List.length_append, List.length_singleton, hcl]; exact hsl) (reps_mono hG2 hr2), rfl, by simp only [List.length_cons]; omega, fun _ => ⟨rfl, by rw [hR, hmore, hit, hit2]; dsimp only; rw [if_pos (by simp; omega)]; rfl⟩, fun h => (by cases h)⟩
              · repeat' (first | (refine run (t := tb) 400 rfl ?_ ?_; (focus (repeat' ((exact trivial))))) | (refine k_op rfl ?_; first | refine c_st1 rfl rfl rfl rfl ?_ | refine c_stA rfl rfl rfl rfl rfl rfl ?_ | refine v_op (g_ld rfl rfl rfl) rfl rfl ?_ | refine v_op (g_ldA rfl rfl rfl rfl) rfl rfl ?_ | refine v_op (g_lenL rfl) rfl rfl ?_ | (refine c_m1g rfl rfl rfl cx_wb rfl ?_; rintro _ _ rfl; dsimp only [List.cons_append, List.nil_append]) | (refine c_m1g rfl rfl rfl cx_tm rfl ?_; rintro _ _ ⟨rfl, rfl⟩; dsimp only [List.cons_append, List.nil_append])) | (refine k_tt rfl ?_ ?_; (focus ((first | rfl | (refine decide_eq_true ?_; (omega))); done))))
                refine Nx.sealS (v := .slice (some ⟨y1, 0, none⟩) (vs.length + 1) yc) fun G2 hG2 hsl => ?_
                refine k_rr (vs := [_]) rfl ⟨rc_A rfl rfl rfl rfl, trivial⟩ rfl (by repeat (first | exact List.nil_sublist _ | apply List.Sublist.cons_cons)) ⟨hgl.trans hG2, .nd 91 [] 0 (vs ++ [u1]), ⟨91, [], 0, some ⟨y1, 0, none⟩, vs.length + 1, yc⟩, t2, true, rfl, rep_mk (by decide) (by decide) (fun h => absurd h (by decide)) hvl.symm (by rw [List.length_append, List.length_singleton, hcl]; exact hsl) (reps_mono hG2 hr2), rfl, by simp only [List.length_cons]; omega, fun h => (by cases h), fun _ => ⟨.inr (by rw [hR, hmore, hit, hit2]; dsimp only; rw [if_neg (by simp; omega)]; rfl), by rw [nd_tot, htu]; simp only [List.length_cons, List.length_nil]; omega⟩⟩
            | false =>
              rw [ht4, tkSF ht4, Bool.not_false] at cx_wb
              have hit2 : rdItems (rd (tyq qs) n k) m t vs = none := by
                cases t1 with
                | nil => exact items_none (.inr ⟨u1, hfs⟩)
                | cons d t2 =>
                  rw [items_step hfs (by omega), if_neg, if_neg]
                  · intro h93
                    have : tkR [93] (d :: t2) false = true := tk1.2 ⟨t2, by rw [show d = 93 from UInt8.toNat_inj.1 h93]⟩
                    rw [this] at ht4; cases ht4
                  · intro h44
                    have : tkR [44] (d :: t2) false = true := tk1.2 ⟨t2, by rw [show d = 44 from UInt8.toNat_inj.1 h44]⟩
                    rw [this] at ht3; cases ht3
              repeat' (first | (refine run (t := tb) 400 rfl ?_ ?_; (focus (repeat' ((exact trivial))))) | (refine k_op rfl ?_; first | refine c_st1 rfl rfl rfl rfl ?_ | refine c_stA rfl rfl rfl rfl rfl rfl ?_ | refine v_op (g_ld rfl rfl rfl) rfl rfl ?_ | refine v_op (g_ldA rfl rfl rfl rfl) rfl rfl ?_ | refine v_op (g_lenL rfl) rfl rfl ?_ | (refine c_m1g rfl rfl rfl cx_wb rfl ?_; rintro _ _ rfl; dsimp only [List.cons_append, List.nil_append]) | (refine c_m1g rfl rfl rfl cx_tm rfl ?_; rintro _ _ ⟨rfl, rfl⟩; dsimp only [List.cons_append, List.nil_append])) | (refine k_tt rfl ?_ ?_; (focus (((rfl)); done))) | refine k_if rfl (fun _ => ?_) (fun _ => ?_))
              all_goals (refine Nx.sealS (v := .slice (some ⟨y1, 0, none⟩) (vs.length + 1) yc) fun G2 hG2 hsl => ?_)
              all_goals refine k_rr (vs := [_]) rfl ⟨rc_A rfl rfl rfl rfl, trivial⟩ rfl (by repeat (first | exact List.nil_sublist _ | apply List.Sublist.cons_cons)) ⟨hgl.trans hG2, .nd 91 [] 0 (vs ++ [u1]), ⟨91, [], 0, some ⟨y1, 0, none⟩, vs.length + 1, yc⟩, t1, true, rfl, rep_mk (by decide) (by decide) (fun h => absurd h (by decide)) hvl.symm (by rw [List.length_append, List.length_singleton, hcl]; exact hsl) (reps_mono hG2 hr2), rfl, by simp only [List.length_cons]; omega, fun h => (by cases h), fun _ => ⟨.inr (by rw [hR, hmore, hit, hit2]; rfl), by rw [nd_tot, htu]; simp only [List.length_cons, List.length_nil]; omega⟩⟩
end Go.E
/-! Wh -/
namespace Go.E
set_option maxRecDepth 20000
set_option maxHeartbeats 2000000
open Go.Proofs
variable {G : Gh}
def zVC : VC := ⟨0, [], 0, none, 0, 0⟩
/-- What comes of reading a field. -/
def FldP (t : Ty) (bf of : Nat) (f : List UInt8 → List UInt8 → Option (V × List UInt8)) (r sc : Nat) (s : List UInt8) (b : Bool) (v : Value) (G' : Gh) (L' : List Own) : Prop :=
  ∃ s' b', L' = [scO r sc s' b'] ∧ s'.length ≤ s.length ∧
    ((v = Tu [Ag (vcF zVC), .pointer none] ∧ b' = true ∧ (b = true ∨ rdField f t s = none)) ∨
     (∃ j u c, j < t.fields.length ∧ v = Tu [Ag (vcF c), Pt bf (of + j * 6)] ∧ V.rep G' (.nd 61 [] (nth t.fields j).tag [u]) c ∧ b = false ∧ u.tot + 100 * s'.length + 100 ≤ 100 * s.length ∧
       (b' = false → rdField f t s = some ((nth t.fields j, u), s')) ∧ (b' = true → rdField f t s = none)))
abbrev zP : Value := Ag [U8 0, S [], I 0, nilS]
theorem field_none {f : List UInt8 → List UInt8 → Option (V × List UInt8)} {t : Ty} {s : List UInt8} (h : numOf (s.takeWhile isDg) 200 = none ∨ ∃ m, numOf (s.takeWhile isDg) 200 = some m ∧ fldT t.fields m = none) : rdField f t s = none := by
  unfold rdField rdNum
  rcases h with h | ⟨m, h, h2⟩
  · rw [h]; rfl
  · rw [h]; dsimp only [Option.map_some]; rw [h2]
theorem field_noeq {f : List UInt8 → List UInt8 → Option (V × List UInt8)} {t : Ty} {s : List UInt8} {m : Int} (h : numOf (s.takeWhile isDg) 200 = some m) (h2 : ∀ s2, s.dropWhile isDg ≠ 61 :: s2) : rdField f t s = none := by
  unfold rdField rdNum
  rw [h]; dsimp only [Option.map_some]
  cases fldT t.fields m with
  | none => rfl
  | some d =>
    dsimp only
    cases hd : s.dropWhile isDg with
    | nil => rfl
    | cons c r =>
      dsimp only
      rw [if_neg]
      intro hc
      exact h2 r (by rw [hd, show c = 61 from UInt8.toNat_inj.1 hc])
theorem field_some {f : List UInt8 → List UInt8 → Option (V × List UInt8)} {t : Ty} {s s2 : List UInt8} {m : Int} {d : Fld} (h : numOf (s.takeWhile isDg) 200 = some m) (hd : fldT t.fields m = some d) (h2 : s.dropWhile isDg = 61 :: s2) : rdField f t s = (f d.kind s2).map fun x => ((d, x.1), x.2) := by
  unfold rdField rdNum
  rw [h]; dsimp only [Option.map_some]; rw [hd, h2]; dsimp only; rw [if_pos (show (61 : UInt8).toNat = 61 from rfl)]
theorem c_fieldV {n r sc bt bf of cf : Nat} {qs : List TyP} {t : Ty} {ln s : List UInt8} {b : Bool} {fv : Value} (hV : ValC n sc qs) (hS : ScI G sc qs) (hw : TyW t) (hkf : ∀ d ∈ t.fields, kindIn (tyq qs) d.kind = true)
    (h1 : Seg G bt 0 [U8 t.sort, S t.name, fv, S ln]) (h2 : SlV G fv 6 t.fields.length (rows fiF t.fields)) (hfv : t.fields ≠ [] → fv = .slice (some ⟨bf, of, none⟩) t.fields.length cf ∧ Seg G bf of (rows fiF t.fields)) (hs : s.length ≤ n ∧ s.length ≤ 1000) :
    FnM Tryz.prog 74 [Pt r 0, Pt bt 0] G [scO r sc s b] (FldP t bf of (rd (tyq qs) n) r sc s b) := by
  have hwl := while_len isDg s
  have hfl := hw.len
  have cx_nu := c_number (G := G) (r := r) (sc := sc) (s := s) (b := b) (top := 200) (by omega)
  have cx_wa := c_want (G := G) (r := r) (sc := sc) (s := s.dropWhile isDg) (l := [61]) (b := (b || (numOf (s.takeWhile isDg) 200).isNone)) ⟨by omega, by simp⟩
  have htl := tk_len (l := [61]) (s := s.dropWhile isDg) (b := (b || (numOf (s.takeWhile isDg) 200).isNone))
  have hleft : ∀ (s' : List UInt8), s'.length ≤ s.length → (b = true ∨ rdField (rd (tyq qs) n) t s = none) → ∀ G', FldP t bf of (rd (tyq qs) n) r sc s b (Tu [Ag (vcF zVC), .pointer none]) G' [scO r sc s' true] := fun s' h3 h4 G' => ⟨s', true, rfl, h3, .inl ⟨rfl, rfl, h4⟩⟩
  refine m_enter [(0, _), (1, _)] Tryz.func74 (by kernel_rfl) Tryz.ntmps74 rfl rfl (by repeat (first | exact trivial | refine ⟨rfl, ?_⟩)) fun B hB hW => ?_
  repeat' (first | (refine run (t := tb) 400 rfl ?_ ?_; (focus (repeat' ((exact trivial))))) | (refine k_op rfl ?_; first | refine c_al rfl rfl fun _ => ?_ | (refine c_m1g rfl rfl rfl cx_nu rfl ?_; rintro _ _ ⟨n1, rfl, ⟨hn0, hn1⟩, hnum, rfl⟩; dsimp only [List.cons_append, List.nil_append])))
  rename_i x4
  cases hft : fldT t.fields n1 with
  | none =>
    have hno : rdField (rd (tyq qs) n) t s = none := by
      cases hm : numOf (s.takeWhile isDg) 200 with
      | none => exact field_none (.inl hm)
      | some m => exact field_none (.inr ⟨m, hm, by rw [← hnum m hm]; exact hft⟩)
    have cx_fld := c_fieldI0 h1 h2 (by omega) hft
    repeat' (first | (refine run (t := tb) 400 rfl ?_ ?_; (focus (repeat' ((exact trivial))))) | (refine k_op rfl ?_; first | refine v_op (g_peq0 rfl rfl) rfl rfl ?_ | (refine v_op (g_pickT rfl rfl ?_) rfl rfl ?_; (focus (((rfl)); done))) | refine c_st1 rfl rfl rfl rfl ?_ | refine c_stA rfl rfl rfl rfl rfl rfl ?_ | refine v_op (g_bld rfl rfl) rfl rfl ?_ | (refine c_rt rfl rfl rfl cx_fld rfl ?_) | (refine c_m1g rfl rfl rfl cx_wa rfl ?_; rintro _ _ rfl; dsimp only [List.cons_append, List.nil_append])) | (refine k_gt rfl rfl ?_ ?_; (focus (((rfl)); done))) | (refine k_tt rfl ?_ ?_; (focus (((rfl)); done))))
    refine k_rr (vs := [_, _]) rfl ⟨rc_A rfl rfl rfl rfl, rfl, trivial⟩ rfl (by repeat (first | exact List.nil_sublist _ | apply List.Sublist.cons_cons)) ⟨Gh.le.refl _, hleft _ (by omega) (.inr hno) _⟩
  | some d =>
    obtain ⟨j, hj, hjn, hjt, hjd⟩ := fldT_some hft
    subst hjd
    obtain ⟨rfl, hsf⟩ := hfv (fun h => by rw [h] at hj; simp at hj)
    have cx_fld := c_fieldI1 h1 hsf (by omega) hj hjn hjt
    cases ht : tkR [61] (s.dropWhile isDg) (b || (numOf (s.takeWhile isDg) 200).isNone) with
    | false =>
      rw [ht, Bool.not_false] at cx_wa
      have hno : b = true ∨ rdField (rd (tyq qs) n) t s = none := by
        cases b with
        | true => exact .inl rfl
        | false =>
          right
          cases hm : numOf (s.takeWhile isDg) 200 with
          | none => exact field_none (.inl hm)
          | some m =>
            refine field_noeq hm (fun s2 h => ?_)
            rw [hm, h] at ht
            have : tkR [61] (61 :: s2) false = true := tk1.2 ⟨s2, rfl⟩
            rw [show (false || (some m).isNone) = false from rfl, this] at ht; cases ht
      repeat' (first | (refine run (t := tb) 400 rfl ?_ ?_; (focus (repeat' ((exact trivial))))) | (refine k_op rfl ?_; first | refine v_op (g_peq0 rfl rfl) rfl rfl ?_ | refine v_op (g_ld rfl rfl rfl) rfl rfl ?_ | (refine v_op (g_pickF rfl rfl ?_) rfl rfl ?_; (focus (((rfl)); done))) | refine c_st1 rfl rfl rfl rfl ?_ | refine c_stA rfl rfl rfl rfl rfl rfl ?_ | refine v_op (g_bld rfl rfl) rfl rfl ?_ | (refine c_rt rfl rfl rfl cx_fld rfl ?_) | (refine c_m1g rfl rfl rfl cx_wa rfl ?_; rintro _ _ rfl; dsimp only [List.cons_append, List.nil_append])) | (refine k_gf rfl rfl ?_ ?_; (focus (((rfl)); done))) | (refine k_tt rfl ?_ ?_; (focus (((rfl)); done))))
      refine k_rr (vs := [_, _]) rfl ⟨rc_A rfl rfl rfl rfl, rfl, trivial⟩ rfl (by repeat (first | exact List.nil_sublist _ | apply List.Sublist.cons_cons)) ⟨Gh.le.refl _, hleft _ (by omega) hno _⟩
    | true =>
      have hb0 : (b || (numOf (s.takeWhile isDg) 200).isNone) = false := by
        cases hb : (b || (numOf (s.takeWhile isDg) 200).isNone) with
        | false => rfl
        | true => rw [hb, tkT] at ht; cases ht
      rw [hb0] at ht cx_wa htl
      rw [hb0]
      simp only [Bool.or_eq_false_iff] at hb0
      obtain ⟨hb, hnn⟩ := hb0
      obtain ⟨m, hm⟩ : ∃ m, numOf (s.takeWhile isDg) 200 = some m := by
        cases hm : numOf (s.takeWhile isDg) 200 with
        | none => rw [hm] at hnn; cases hnn
        | some m => exact ⟨m, rfl⟩
      obtain ⟨s2, hs2⟩ := tk1.1 ht
      rw [ht, hs2, tk1S, Bool.not_true] at cx_wa
      have hdig : 1 ≤ (s.takeWhile isDg).length := by
        have h3 := (numOf_le hm).2.1
        rw [h3]; exact decI_pos m
      rw [hs2, List.length_cons] at hwl
      have hfd : ∀ x, rdField (rd (tyq qs) n) t s = some x ↔ (rd (tyq qs) n (nth t.fields j).kind s2).map (fun x => ((nth t.fields j, x.1), x.2)) = some x := fun x => by
        rw [field_some hm (d := nth t.fields j) (by rw [← hnum m hm, hft]) hs2]
      have hkd := hkf (nth t.fields j) (nth_mem hj)
      have cx_vl := hV G r (nth t.fields j).kind s2 false hS hkd (by omega) (by omega)
      rw [hs2]
      repeat' (first | (refine run (t := tb) 400 rfl ?_ ?_; (focus (repeat' ((exact trivial))))) | (refine k_op rfl ?_; first | refine c_al rfl rfl fun _ => ?_ | refine v_op (g_peq0 rfl rfl) rfl rfl ?_ | refine v_op (g_ld rfl rfl rfl) rfl rfl ?_ | (refine v_op (g_ldRA rfl rfl (by assumption) ?_ rfl rfl) rfl rfl ?_; (focus (((omega)); done))) | (refine v_op (g_pickF rfl rfl ?_) rfl rfl ?_; (focus (((rfl)); done))) | refine c_stA rfl rfl rfl rfl rfl rfl ?_ | (refine c_rt rfl rfl rfl cx_fld rfl ?_) | (refine c_m1g rfl rfl rfl cx_wa rfl ?_; rintro _ _ rfl; dsimp only [List.cons_append, List.nil_append]) | (refine c_m1s rfl rfl rfl cx_vl rfl ?_; rintro _ G1 _ hle ⟨u1, c1, t1, b1, rfl, hrep, rfl, hP⟩; dsimp only [List.cons_append, List.nil_append]; skip)) | (refine k_gf rfl rfl ?_ ?_; (focus (((rfl)); done))) | (refine k_ff rfl ?_ ?_; (focus (((rfl)); done))))
      have hsf1 := hsf.mono hle
      have htag := (hw.fld _ (nth_mem hj)).tag
      repeat' (first | (refine run (t := tb) 400 rfl ?_ ?_; (focus (repeat' ((exact trivial))))) | (refine k_any (s_anyD (id := 7) (tt := 4) rfl mixed ?_); refine x_tks (t := tb) (fuel := 6) [0, 1, 2, 7] (bts 10 135) (by kernel_rfl) (by kernel_rfl) rfl rfl (by (exact Gh.le.refl _)) (by repeat (first | exact List.nil_sublist _ | apply List.Sublist.cons_cons)) ?_ ?_; (focus (repeat' ((exact trivial)))); ((refine (x_tkg (bts 10 143) 3 rfl (by kernel_rfl) rfl (by (exact Gh.le.refl _)) (by repeat (first | exact List.nil_sublist _ | apply List.Sublist.cons_cons))) (g_ldRF rfl rfl (by assumption) ?_ rfl rfl) rfl rfl ?_; (focus (((omega)); done)))); ((refine (x_tkg (bts 10 159) 4 rfl (by kernel_rfl) rfl (by (exact Gh.le.refl _)) (by repeat (first | exact List.nil_sublist _ | apply List.Sublist.cons_cons))) (g_ldA rfl rfl rfl rfl) rfl rfl ?_)); refine x_all [5] (by kernel_rfl) (by decide) ⟨?_, trivial⟩; refine x_opg rfl rfl ?_; ((refine c_bsl rfl rfl rfl rfl rfl rfl fun _ => ?_)); refine x_kk (by (exact Gh.le.refl _)) (by repeat (first | exact List.nil_sublist _ | apply List.Sublist.cons_cons | apply List.Sublist.cons)) (listed' := (bts 10 191)) (by kernel_rfl) ?_; ((refine (x_tkg (bts 10 255) 6 rfl (by kernel_rfl) rfl (by (exact Gh.le.refl _)) (by repeat (first | exact List.nil_sublist _ | apply List.Sublist.cons_cons | apply List.Sublist.cons))) (g_bld rfl rfl) rfl rfl ?_)); refine x_all [8] (by kernel_rfl) (by decide) ⟨?_, trivial⟩; refine x_opg rfl rfl ?_; ((refine c_stA rfl rfl rfl rfl rfl rfl ?_)); refine x_kk (by (exact Gh.le.refl _)) (by repeat (first | exact List.nil_sublist _ | apply List.Sublist.cons_cons | apply List.Sublist.cons)) (listed' := (bts 10 511)) (by kernel_rfl) ?_; refine x_tks (t := tb) (fuel := 0) [9] (bts 10 1023) (by kernel_rfl) (by kernel_rfl) rfl rfl (by (exact Gh.le.refl _)) (by repeat (first | exact List.nil_sublist _ | apply List.Sublist.cons_cons | apply List.Sublist.cons)) ?_ ?_; (focus (repeat' ((exact trivial)))); refine x_done (by kernel_rfl) (k_bk ?_)))
      rename_i y
      refine Nx.sealC (b := y) fun G2 hG2 hsy => ?_
      have hsl : SlV G2 (.slice (some ⟨y, 0, none⟩) 1 1) 4 ([c1] : List VC).length (rows vcF [c1]) := ⟨rfl, .inr ⟨y, 0, 1, rfl, Nat.le_refl _, hsy⟩⟩
      have hrp : V.rep G2 (.nd 61 [] (nth t.fields j).tag [u1]) ⟨61, [], (nth t.fields j).tag, some ⟨y, 0, none⟩, 1, 1⟩ := rep_mk (by decide) (by omega) (fun _ => rfl) rfl hsl ⟨c1, [], rfl, rep_mono hG2 hrep, rfl⟩
      obtain ⟨hPl, hP0, hP1⟩ := hP
      have hf2 := fun x => hfd x
      cases b1 with
      | false =>
        obtain ⟨_, hgood⟩ := hP0 rfl
        have htot := rd_tot n _ _ _ hgood
        dsimp only at htot
        refine k_rr (vs := [_, _]) rfl ⟨rc_A rfl rfl rfl rfl, rfl, trivial⟩ rfl (by repeat (first | exact List.nil_sublist _ | apply List.Sublist.cons_cons | apply List.Sublist.cons)) ⟨hle.trans hG2, t1, false, rfl, by omega, .inr ⟨j, u1, ⟨61, [], (nth t.fields j).tag, some ⟨y, 0, none⟩, 1, 1⟩, hj, rfl, hrp, hb, by omega, fun _ => (hfd _).2 (by rw [hgood]; rfl), fun h => (by cases h)⟩⟩
      | true =>
        obtain ⟨hbad, hto⟩ := hP1 rfl
        have hbad2 : rd (tyq qs) n (nth t.fields j).kind s2 = none := by
          rcases hbad with h | h
          · cases h
          · exact h
        have hno : rdField (rd (tyq qs) n) t s = none := by
          cases hx : rdField (rd (tyq qs) n) t s with
          | none => rfl
          | some x => have := (hfd x).1 hx; rw [hbad2] at this; cases this
        refine k_rr (vs := [_, _]) rfl ⟨rc_A rfl rfl rfl rfl, rfl, trivial⟩ rfl (by repeat (first | exact List.nil_sublist _ | apply List.Sublist.cons_cons | apply List.Sublist.cons)) ⟨hle.trans hG2, t1, true, rfl, by omega, .inr ⟨j, u1, ⟨61, [], (nth t.fields j).tag, some ⟨y, 0, none⟩, 1, 1⟩, hj, rfl, hrp, hb, by omega, fun h => (by cases h), fun _ => hno⟩⟩
end Go.E
/-! Wi -/
namespace Go.E
set_option maxRecDepth 20000
set_option maxHeartbeats 2000000
open Go.Proofs
variable {G : Gh}
theorem tk_no {c : UInt8} {s : List UInt8} (h : tkR [c] s false = false) : ∀ s2, s ≠ c :: s2 := fun s2 e => by
  have : tkR [c] s false = true := tk1.2 ⟨s2, e⟩
  rw [this] at h; cases h
theorem typed_no {ts : List Ty} {f : List UInt8 → List UInt8 → Option (V × List UInt8)} {t : Ty} {s : List UInt8} {c : UInt8} (hc : t.sort = 82 ∧ c = 123 ∨ t.sort = 69 ∧ c = 35 ∨ (t.sort ≠ 82 ∧ t.sort ≠ 69) ∧ c = 60) (h : ∀ s2, s ≠ c :: s2) : rdTyped ts f t s = none := by
  cases s with
  | nil => rfl
  | cons d r =>
    have hd : d ≠ c := fun e => h r (by rw [e])
    unfold rdTyped
    dsimp only
    have hn : ∀ k : Nat, k < 256 → c = UInt8.ofNat k → ¬ d.toNat = k := fun k hk e h2 => hd (by rw [e, u8_eq h2 hk])
    rcases hc with ⟨h1, h2⟩ | ⟨h1, h2⟩ | ⟨⟨h1, h1'⟩, h2⟩
    · rw [if_pos h1, if_neg (hn 123 (by decide) h2)]
    · rw [if_neg (by omega), if_pos h1, if_neg (hn 35 (by decide) h2)]
    · rw [if_neg h1, if_neg h1', if_neg (hn 60 (by decide) h2)]
theorem c_ofE {n r sc bt : Nat} {qs : List TyP} {t : Ty} {s : List UInt8} {b : Bool} (hT : TyI G bt t) (hw : TyW t) (hso : t.sort = 69) (hs : s.length ≤ n ∧ s.length ≤ 1000) :
    FnM Tryz.prog 52 [Pt r 0, Pt bt 0] G [scO r sc s b] (ValP (rdTyped (tyq qs) (rd (tyq qs) n) t) r sc s b) := by
  obtain ⟨fv, ln, h1, h2⟩ := hT
  have hfl := hw.len
  have hso' : (t.sort : Int) = 69 := by omega
  have cx_wa := c_want (G := G) (r := r) (sc := sc) (s := s) (l := [35]) (b := b) ⟨by omega, by simp⟩
  cases ht : tkR [35] s b with
  | false =>
    rw [ht, tkSF ht, Bool.not_false] at cx_wa
    have hno : b = true ∨ rdTyped (tyq qs) (rd (tyq qs) n) t s = none := by
      cases b with
      | true => exact .inl rfl
      | false => exact .inr (typed_no (.inr (.inl ⟨hso, rfl⟩)) (tk_no ht))
    have cx_nu := c_number (G := G) (r := r) (sc := sc) (s := s) (b := true) (top := 200) (by omega)
    rw [Bool.true_or] at cx_nu
    have hwl := while_len isDg s
    refine m_enter [(0, _), (1, _)] Tryz.func52 (by kernel_rfl) Tryz.ntmps52 rfl rfl (by repeat (first | exact trivial | refine ⟨rfl, ?_⟩)) fun B hB hW => ?_
    repeat' (first | (refine run (t := tb) 400 rfl ?_ ?_; (focus (repeat' ((exact trivial))))) | (refine k_op rfl ?_; first | refine c_al rfl rfl fun _ => ?_ | refine v_op (g_ld rfl rfl rfl) rfl rfl ?_ | refine v_op (g_ldS rfl rfl (by assumption) rfl rfl) rfl rfl ?_ | refine v_op (g_bld rfl rfl) rfl rfl ?_ | refine c_st1 rfl rfl rfl rfl ?_ | refine c_stA rfl rfl rfl rfl rfl rfl ?_ | (refine c_m1g rfl rfl rfl cx_wa rfl ?_; rintro _ _ rfl; dsimp only [List.cons_append, List.nil_append]) | (refine c_m1g rfl rfl rfl cx_nu rfl ?_; rintro _ _ ⟨n1, rfl, ⟨hn0, hn1⟩, hnum, rfl⟩; dsimp only [List.cons_append, List.nil_append])) | (refine k_tt rfl ?_ ?_; (focus (((refine decide_eq_true ?_; (assumption))); done))))
    cases hft : fldT t.fields n1 with
    | none =>
      have cx_fld := c_fieldI0 h1 h2 (by omega) hft
      repeat' (first | (refine run (t := tb) 400 rfl ?_ ?_; (focus (repeat' ((exact trivial))))) | (refine k_op rfl ?_; first | refine v_op (g_ldA rfl rfl rfl rfl) rfl rfl ?_ | refine c_st1 rfl rfl rfl rfl ?_ | refine c_stA rfl rfl rfl rfl rfl rfl ?_ | refine v_op (g_peq0 rfl rfl) rfl rfl ?_ | (refine c_rt rfl rfl rfl cx_fld rfl ?_)) | (refine k_tt rfl ?_ ?_; (focus (((rfl)); done))))
      refine k_rr (vs := [_]) rfl ⟨rc_A rfl rfl rfl rfl, trivial⟩ rfl (by repeat (first | exact List.nil_sublist _ | apply List.Sublist.cons_cons)) ⟨Gh.le.refl _, .nd 69 [] n1 [], ⟨69, [], n1, none, 0, 0⟩, s.dropWhile isDg, true, by rw [hso]; rfl, rep_leaf (by decide) ⟨hn0, hn1⟩, rfl, by omega, fun h => (by cases h), fun _ => ⟨hno, by simp only [V.tot, V.tots, List.length_nil]; omega⟩⟩
    | some d =>
      obtain ⟨j, hj, hjn, hjt, hjd⟩ := fldT_some hft
      obtain ⟨bf, of, cf, rfl, hsf⟩ := h2.expl (by omega)
      have cx_fld := c_fieldI1 h1 hsf (by omega) hj hjn hjt
      repeat' (first | (refine run (t := tb) 400 rfl ?_ ?_; (focus (repeat' ((exact trivial))))) | (refine k_op rfl ?_; first | refine v_op (g_ldA rfl rfl rfl rfl) rfl rfl ?_ | refine c_stA rfl rfl rfl rfl rfl rfl ?_ | refine v_op (g_peq0 rfl rfl) rfl rfl ?_ | (refine c_rt rfl rfl rfl cx_fld rfl ?_)) | (refine k_ff rfl ?_ ?_; (focus (((rfl)); done))))
      refine k_rr (vs := [_]) rfl ⟨rc_A rfl rfl rfl rfl, trivial⟩ rfl (by repeat (first | exact List.nil_sublist _ | apply List.Sublist.cons_cons)) ⟨Gh.le.refl _, .nd 69 [] n1 [], ⟨69, [], n1, none, 0, 0⟩, s.dropWhile isDg, true, by rw [hso]; rfl, rep_leaf (by decide) ⟨hn0, hn1⟩, rfl, by omega, fun h => (by cases h), fun _ => ⟨hno, by simp only [V.tot, V.tots, List.length_nil]; omega⟩⟩
  | true =>
    have hb : b = false := by cases b with | true => rw [tkT] at ht; cases ht | false => rfl
    subst hb
    obtain ⟨s1, rfl⟩ := tk1.1 ht
    rw [ht, tk1S, Bool.not_true] at cx_wa
    simp only [List.length_cons] at hs
    have cx_nu := c_number (G := G) (r := r) (sc := sc) (s := s1) (b := false) (top := 200) (by omega)
    rw [Bool.false_or] at cx_nu
    have hwl := while_len isDg s1
    have hRT : rdTyped (tyq qs) (rd (tyq qs) n) t (35 :: s1) = match rdNum 200 s1 with
        | none => none
        | some (n, r) => if (fldT t.fields n).isSome = true then some (.nd 69 [] n [], r) else none := by
      unfold rdTyped
      dsimp only
      rw [if_neg (by omega), if_pos hso, if_pos (show (35 : UInt8).toNat = 35 from rfl)]
      cases rdNum 200 s1 <;> rfl
    cases hnu : numOf (s1.takeWhile isDg) 200 with
    | none =>
      have hno : rdTyped (tyq qs) (rd (tyq qs) n) t (35 :: s1) = none := by rw [hRT]; unfold rdNum; rw [hnu]; rfl
      rw [hnu] at cx_nu
      refine m_enter [(0, _), (1, _)] Tryz.func52 (by kernel_rfl) Tryz.ntmps52 rfl rfl (by repeat (first | exact trivial | refine ⟨rfl, ?_⟩)) fun B hB hW => ?_
      repeat' (first | (refine run (t := tb) 400 rfl ?_ ?_; (focus (repeat' ((exact trivial))))) | (refine k_op rfl ?_; first | refine c_al rfl rfl fun _ => ?_ | refine v_op (g_ld rfl rfl rfl) rfl rfl ?_ | refine v_op (g_ldS rfl rfl (by assumption) rfl rfl) rfl rfl ?_ | refine v_op (g_bld rfl rfl) rfl rfl ?_ | refine c_st1 rfl rfl rfl rfl ?_ | refine c_stA rfl rfl rfl rfl rfl rfl ?_ | (refine c_m1g rfl rfl rfl cx_wa rfl ?_; rintro _ _ rfl; dsimp only [List.cons_append, List.nil_append]) | (refine c_m1g rfl rfl rfl cx_nu rfl ?_; rintro _ _ ⟨n1, rfl, ⟨hn0, hn1⟩, hnum, rfl⟩; dsimp only [List.cons_append, List.nil_append])) | (refine k_tt rfl ?_ ?_; (focus (((refine decide_eq_true ?_; (assumption))); done))))
      cases hft : fldT t.fields n1 with
      | none =>
        have cx_fld := c_fieldI0 h1 h2 (by omega) hft
        repeat' (first | (refine run (t := tb) 400 rfl ?_ ?_; (focus (repeat' ((exact trivial))))) | (refine k_op rfl ?_; first | refine v_op (g_ldA rfl rfl rfl rfl) rfl rfl ?_ | refine c_st1 rfl rfl rfl rfl ?_ | refine c_stA rfl rfl rfl rfl rfl rfl ?_ | refine v_op (g_peq0 rfl rfl) rfl rfl ?_ | (refine c_rt rfl rfl rfl cx_fld rfl ?_)) | (refine k_tt rfl ?_ ?_; (focus (((rfl)); done))))
        refine k_rr (vs := [_]) rfl ⟨rc_A rfl rfl rfl rfl, trivial⟩ rfl (by repeat (first | exact List.nil_sublist _ | apply List.Sublist.cons_cons)) ⟨Gh.le.refl _, .nd 69 [] n1 [], ⟨69, [], n1, none, 0, 0⟩, s1.dropWhile isDg, true, by rw [hso]; rfl, rep_leaf (by decide) ⟨hn0, hn1⟩, rfl, by simp only [List.length_cons]; omega, fun h => (by cases h), fun _ => ⟨.inr hno, by simp only [V.tot, V.tots, List.length_nil, List.length_cons]; omega⟩⟩
      | some d =>
        obtain ⟨j, hj, hjn, hjt, hjd⟩ := fldT_some hft
        obtain ⟨bf, of, cf, rfl, hsf⟩ := h2.expl (by omega)
        have cx_fld := c_fieldI1 h1 hsf (by omega) hj hjn hjt
        repeat' (first | (refine run (t := tb) 400 rfl ?_ ?_; (focus (repeat' ((exact trivial))))) | (refine k_op rfl ?_; first | refine v_op (g_ldA rfl rfl rfl rfl) rfl rfl ?_ | refine c_stA rfl rfl rfl rfl rfl rfl ?_ | refine v_op (g_peq0 rfl rfl) rfl rfl ?_ | (refine c_rt rfl rfl rfl cx_fld rfl ?_)) | (refine k_ff rfl ?_ ?_; (focus (((rfl)); done))))
        refine k_rr (vs := [_]) rfl ⟨rc_A rfl rfl rfl rfl, trivial⟩ rfl (by repeat (first | exact List.nil_sublist _ | apply List.Sublist.cons_cons)) ⟨Gh.le.refl _, .nd 69 [] n1 [], ⟨69, [], n1, none, 0, 0⟩, s1.dropWhile isDg, true, by rw [hso]; rfl, rep_leaf (by decide) ⟨hn0, hn1⟩, rfl, by simp only [List.length_cons]; omega, fun h => (by cases h), fun _ => ⟨.inr hno, by simp only [V.tot, V.tots, List.length_nil, List.length_cons]; omega⟩⟩
    | some m =>
      rw [hnu] at cx_nu
      have hRT2 : rdTyped (tyq qs) (rd (tyq qs) n) t (35 :: s1) = if (fldT t.fields m).isSome = true then some (.nd 69 [] m [], s1.dropWhile isDg) else none := by rw [hRT]; unfold rdNum; rw [hnu]; rfl
      refine m_enter [(0, _), (1, _)] Tryz.func52 (by kernel_rfl) Tryz.ntmps52 rfl rfl (by repeat (first | exact trivial | refine ⟨rfl, ?_⟩)) fun B hB hW => ?_
      repeat' (first | (refine run (t := tb) 400 rfl ?_ ?_; (focus (repeat' ((exact trivial))))) | (refine k_op rfl ?_; first | refine c_al rfl rfl fun _ => ?_ | refine v_op (g_ld rfl rfl rfl) rfl rfl ?_ | refine v_op (g_ldS rfl rfl (by assumption) rfl rfl) rfl rfl ?_ | refine v_op (g_bld rfl rfl) rfl rfl ?_ | refine c_st1 rfl rfl rfl rfl ?_ | refine c_stA rfl rfl rfl rfl rfl rfl ?_ | (refine c_m1g rfl rfl rfl cx_wa rfl ?_; rintro _ _ rfl; dsimp only [List.cons_append, List.nil_append]) | (refine c_m1g rfl rfl rfl cx_nu rfl ?_; rintro _ _ ⟨n1, rfl, ⟨hn0, hn1⟩, hnum, rfl⟩; dsimp only [List.cons_append, List.nil_append])) | (refine k_tt rfl ?_ ?_; (focus (((refine decide_eq_true ?_; (assumption))); done))))
      obtain rfl : n1 = m := hnum m rfl
      cases hft : fldT t.fields n1 with
      | none =>
        rw [hft] at hRT2
        have cx_fld := c_fieldI0 h1 h2 (by omega) hft
        repeat' (first | (refine run (t := tb) 400 rfl ?_ ?_; (focus (repeat' ((exact trivial))))) | (refine k_op rfl ?_; first | refine v_op (g_ldA rfl rfl rfl rfl) rfl rfl ?_ | refine c_st1 rfl rfl rfl rfl ?_ | refine c_stA rfl rfl rfl rfl rfl rfl ?_ | refine v_op (g_peq0 rfl rfl) rfl rfl ?_ | (refine c_rt rfl rfl rfl cx_fld rfl ?_)) | (refine k_tt rfl ?_ ?_; (focus (((rfl)); done))))
        refine k_rr (vs := [_]) rfl ⟨rc_A rfl rfl rfl rfl, trivial⟩ rfl (by repeat (first | exact List.nil_sublist _ | apply List.Sublist.cons_cons)) ⟨Gh.le.refl _, .nd 69 [] n1 [], ⟨69, [], n1, none, 0, 0⟩, s1.dropWhile isDg, true, by rw [hso]; rfl, rep_leaf (by decide) ⟨hn0, hn1⟩, rfl, by simp only [List.length_cons]; omega, fun h => (by cases h), fun _ => ⟨.inr hRT2, by simp only [V.tot, V.tots, List.length_nil, List.length_cons]; omega⟩⟩
      | some d =>
        rw [hft] at hRT2
        obtain ⟨j, hj, hjn, hjt, hjd⟩ := fldT_some hft
        obtain ⟨bf, of, cf, rfl, hsf⟩ := h2.expl (by omega)
        have cx_fld := c_fieldI1 h1 hsf (by omega) hj hjn hjt
        repeat' (first | (refine run (t := tb) 400 rfl ?_ ?_; (focus (repeat' ((exact trivial))))) | (refine k_op rfl ?_; first | refine v_op (g_ldA rfl rfl rfl rfl) rfl rfl ?_ | refine c_stA rfl rfl rfl rfl rfl rfl ?_ | refine v_op (g_peq0 rfl rfl) rfl rfl ?_ | (refine c_rt rfl rfl rfl cx_fld rfl ?_)) | (refine k_ff rfl ?_ ?_; (focus (((rfl)); done))))
        refine k_rr (vs := [_]) rfl ⟨rc_A rfl rfl rfl rfl, trivial⟩ rfl (by repeat (first | exact List.nil_sublist _ | apply List.Sublist.cons_cons)) ⟨Gh.le.refl _, .nd 69 [] n1 [], ⟨69, [], n1, none, 0, 0⟩, s1.dropWhile isDg, false, by rw [hso]; rfl, rep_leaf (by decide) ⟨hn0, hn1⟩, rfl, by simp only [List.length_cons]; omega, fun _ => ⟨rfl, hRT2⟩, fun h => (by cases h)⟩
end Go.E
/-! Wj -/
namespace Go.E
set_option maxRecDepth 20000
set_option maxHeartbeats 2000000
open Go.Proofs
variable {G : Gh}
/-- The value of a field stands in a union as it stands in the field. -/
theorem rep_uni {G : Gh} {t : Int} {u : V} {c : VC} (h : V.rep G (.nd 61 [] t [u]) c) : ∃ (b o k : Nat) (d : VC), c = ⟨61, [], t, some ⟨b, o, none⟩, 1, k⟩ ∧ (0 ≤ t ∧ t ≤ 999999) ∧ Seg G b o (rows vcF [d]) ∧ V.rep G u d ∧ V.rep G (.nd 85 [] t [u]) ⟨85, [], t, some ⟨b, o, none⟩, 1, k⟩ := by
  obtain ⟨a, k, cs, rfl, _, ht, _, hcl, hsl, hks⟩ := rep_inv h
  rw [V.reps] at hks
  obtain ⟨d, cs', rfl, hd, hcs⟩ := hks
  rw [V.reps] at hcs
  subst hcs
  obtain ⟨b, o, cap, e, hs⟩ := hsl.expl (by simp)
  simp only [Value.slice.injEq] at e
  obtain ⟨rfl, -, rfl⟩ := e
  exact ⟨b, o, k, d, rfl, ht, hs, hd, rep_mk (by decide) ht (fun h => absurd h (by decide)) rfl hsl ⟨d, [], rfl, hd, rfl⟩⟩
theorem c_ofU {n r sc bt : Nat} {qs : List TyP} {t : Ty} {s : List UInt8} {b : Bool} (hV : ValC n sc qs) (hS : ScI G sc qs) (hkf : ∀ d ∈ t.fields, kindIn (tyq qs) d.kind = true) (hT : TyI G bt t) (hw : TyW t) (hso : t.sort = 85) (hs : s.length ≤ n ∧ s.length ≤ 1000) :
    FnM Tryz.prog 52 [Pt r 0, Pt bt 0] G [scO r sc s b] (ValP (rdTyped (tyq qs) (rd (tyq qs) n) t) r sc s b) := by
  obtain ⟨fv, ln, h1, h2⟩ := hT
  have hfl := hw.len
  have hso' : (t.sort : Int) = 85 := by omega
  have hne : 0 < t.fields.length := List.length_pos_iff.2 (hw.ne (by omega))
  obtain ⟨bf, of, cf, rfl, hsf⟩ := h2.expl hne
  have cx_wa := c_want (G := G) (r := r) (sc := sc) (s := s) (l := [60]) (b := b) ⟨by omega, by simp⟩
  cases ht : tkR [60] s b with
  | false =>
    rw [ht, tkSF ht, Bool.not_false] at cx_wa
    have hno : b = true ∨ rdTyped (tyq qs) (rd (tyq qs) n) t s = none := by
      cases b with
      | true => exact .inl rfl
      | false => exact .inr (typed_no (.inr (.inr ⟨by omega, rfl⟩)) (tk_no ht))
    have cx_fd := c_fieldV (s := s) (b := true) (r := r) hV hS hw hkf h1 h2 (fun _ => ⟨rfl, hsf⟩) hs
    refine m_enter [(0, _), (1, _)] Tryz.func52 (by kernel_rfl) Tryz.ntmps52 rfl rfl (by repeat (first | exact trivial | refine ⟨rfl, ?_⟩)) fun B hB hW => ?_
    repeat' (first | (refine run (t := tb) 400 rfl ?_ ?_; (focus (repeat' ((exact trivial))))) | (refine k_op rfl ?_; first | refine c_al rfl rfl fun _ => ?_ | refine v_op (g_ldS rfl rfl (by assumption) rfl rfl) rfl rfl ?_ | refine v_op (g_bld rfl rfl) rfl rfl ?_ | refine c_stA rfl rfl rfl rfl rfl rfl ?_ | (refine c_m1g rfl rfl rfl cx_wa rfl ?_; rintro _ _ rfl; dsimp only [List.cons_append, List.nil_append]) | (refine c_m1s rfl rfl rfl cx_fd rfl ?_; rintro _ G1 _ hle ⟨t1, b1, rfl, htl, ⟨rfl, rfl, hF⟩ | ⟨j, u1, c1, hj, rfl, hrep, hb0, hto, hg, hbd⟩⟩ <;> (dsimp only [List.cons_append, List.nil_append]; skip))) | (refine k_tt rfl ?_ ?_; (focus (((refine decide_eq_true ?_; (assumption))); done))) | (refine k_ff rfl ?_ ?_; (focus (((refine decide_eq_false ?_; (omega))); done))))
    · have cx_wb := c_want (G := G1) (r := r) (sc := sc) (s := t1) (l := [62]) (b := true) ⟨by omega, by simp⟩
      rw [tkT, tkST, Bool.not_false] at cx_wb
      repeat' (first | (refine run (t := tb) 400 rfl ?_ ?_; (focus (repeat' ((exact trivial))))) | (refine k_op rfl ?_; first | refine v_op (g_ldA rfl rfl rfl rfl) rfl rfl ?_ | refine c_stA rfl rfl rfl rfl rfl rfl ?_ | refine v_op (g_pne0 rfl rfl) rfl rfl ?_ | (refine c_m1g rfl rfl rfl cx_wb rfl ?_; rintro _ _ rfl; dsimp only [List.cons_append, List.nil_append])) | (refine k_ff rfl ?_ ?_; (focus (((rfl)); done))))
      refine k_rr (vs := [_]) rfl ⟨rc_A rfl rfl rfl rfl, trivial⟩ rfl (by repeat (first | exact List.nil_sublist _ | apply List.Sublist.cons_cons)) ⟨hle, .nd 85 [] 0 [], ⟨85, [], 0, none, 0, 0⟩, t1, true, by rw [hso]; rfl, rep_leaf (by decide) (by decide), rfl, by omega, fun h => (by cases h), fun _ => ⟨hno, by simp only [V.tot, V.tots, List.length_nil]; omega⟩⟩
    · cases hb0
  | true =>
    have hb : b = false := by cases b with | true => rw [tkT] at ht; cases ht | false => rfl
    subst hb
    obtain ⟨s1, rfl⟩ := tk1.1 ht
    rw [ht, tk1S, Bool.not_true] at cx_wa
    simp only [List.length_cons] at hs
    have hRT : rdTyped (tyq qs) (rd (tyq qs) n) t (60 :: s1) = match rdField (rd (tyq qs) n) t s1 with
        | none => none
        | some ((d, v), r) => match r with
          | [] => none
          | c' :: r' => if c'.toNat = 62 then some (.nd 85 [] d.tag [v], r') else none := by
      unfold rdTyped
      dsimp only
      rw [if_neg (by omega), if_neg (by omega), if_pos (show (60 : UInt8).toNat = 60 from rfl)]
      cases rdField (rd (tyq qs) n) t s1 <;> rfl
    have cx_fd := c_fieldV (s := s1) (b := false) (r := r) hV hS hw hkf h1 h2 (fun _ => ⟨rfl, hsf⟩) ⟨by omega, by omega⟩
    refine m_enter [(0, _), (1, _)] Tryz.func52 (by kernel_rfl) Tryz.ntmps52 rfl rfl (by repeat (first | exact trivial | refine ⟨rfl, ?_⟩)) fun B hB hW => ?_
    repeat' (first | (refine run (t := tb) 400 rfl ?_ ?_; (focus (repeat' ((exact trivial))))) | (refine k_op rfl ?_; first | refine c_al rfl rfl fun _ => ?_ | refine v_op (g_ldS rfl rfl (by assumption) rfl rfl) rfl rfl ?_ | refine v_op (g_bld rfl rfl) rfl rfl ?_ | refine c_stA rfl rfl rfl rfl rfl rfl ?_ | (refine c_m1g rfl rfl rfl cx_wa rfl ?_; rintro _ _ rfl; dsimp only [List.cons_append, List.nil_append]) | (refine c_m1s rfl rfl rfl cx_fd rfl ?_; rintro _ G1 _ hle ⟨t1, b1, rfl, htl, ⟨rfl, rfl, hF⟩ | ⟨j, u1, c1, hj, rfl, hrep, hb0, hto, hg, hbd⟩⟩ <;> (dsimp only [List.cons_append, List.nil_append]; skip))) | (refine k_tt rfl ?_ ?_; (focus (((refine decide_eq_true ?_; (assumption))); done))) | (refine k_ff rfl ?_ ?_; (focus (((refine decide_eq_false ?_; (omega))); done))))
    · have hno : rdTyped (tyq qs) (rd (tyq qs) n) t (60 :: s1) = none := by
        rcases hF with h | h
        · cases h
        · rw [hRT, h]
      have cx_wb := c_want (G := G1) (r := r) (sc := sc) (s := t1) (l := [62]) (b := true) ⟨by omega, by simp⟩
      rw [tkT, tkST, Bool.not_false] at cx_wb
      repeat' (first | (refine run (t := tb) 400 rfl ?_ ?_; (focus (repeat' ((exact trivial))))) | (refine k_op rfl ?_; first | refine v_op (g_ldA rfl rfl rfl rfl) rfl rfl ?_ | refine c_stA rfl rfl rfl rfl rfl rfl ?_ | refine v_op (g_pne0 rfl rfl) rfl rfl ?_ | (refine c_m1g rfl rfl rfl cx_wb rfl ?_; rintro _ _ rfl; dsimp only [List.cons_append, List.nil_append])) | (refine k_ff rfl ?_ ?_; (focus (((rfl)); done))))
      refine k_rr (vs := [_]) rfl ⟨rc_A rfl rfl rfl rfl, trivial⟩ rfl (by repeat (first | exact List.nil_sublist _ | apply List.Sublist.cons_cons)) ⟨hle, .nd 85 [] 0 [], ⟨85, [], 0, none, 0, 0⟩, t1, true, by rw [hso]; rfl, rep_leaf (by decide) (by decide), rfl, by simp only [List.length_cons]; omega, fun h => (by cases h), fun _ => ⟨.inr hno, by simp only [V.tot, V.tots, List.length_nil, List.length_cons]; omega⟩⟩
    · obtain ⟨kb, ko, kc, d, rfl, htg, hsd, hrd, hru⟩ := rep_uni hrep
      have hsf1 := hsf.mono hle
      cases b1 with
      | true =>
        have hno : rdTyped (tyq qs) (rd (tyq qs) n) t (60 :: s1) = none := by rw [hRT, hbd rfl]
        have cx_wb := c_want (G := G1) (r := r) (sc := sc) (s := t1) (l := [62]) (b := true) ⟨by omega, by simp⟩
        rw [tkT, tkST, Bool.not_false] at cx_wb
        
        repeat' (first | (refine run (t := tb) 400 rfl ?_ ?_; (focus (repeat' ((exact trivial))))) | (refine k_op rfl ?_; first | refine v_op (g_pne0 rfl rfl) rfl rfl ?_ | (refine c_m1g rfl rfl rfl cx_wb rfl ?_; rintro _ _ rfl; dsimp only [List.cons_append, List.nil_append])) | (refine k_tt rfl ?_ ?_; (focus (((rfl)); done))))
        rename_i x4 x5 _ x6 _
        dsimp only [VC.sl]
        (refine k_any (s_any (id := 25) [.blk x6 (.cells (List.toArray [U8 ((61 : Nat) : Int), S [], I (nth t.fields j).tag, .slice (some ⟨kb, ko, none⟩) 1 kc]) tVal (0, 0))] (by intro y hy; simp only [List.mem_cons, List.not_mem_nil, or_false] at hy ⊢; simp [hy]) mixed ?_); refine x_tks (t := tb) (fuel := 6) [0, 1, 2, 4] (bts 10 23) (by kernel_rfl) (by kernel_rfl) rfl rfl (by (exact Gh.le.refl _)) (by repeat (first | exact List.nil_sublist _ | apply List.Sublist.cons_cons | apply List.Sublist.cons)) ?_ ?_; (focus (repeat' ((exact trivial)))); ((refine (x_tkg (bts 10 31) 3 rfl (by kernel_rfl) rfl (by (exact Gh.le.refl _)) (by repeat (first | exact List.nil_sublist _ | apply List.Sublist.cons_cons | apply List.Sublist.cons))) (g_ldRF rfl rfl (by assumption) ?_ rfl rfl) rfl rfl ?_; (focus (((omega)); done)))); refine x_tks (t := tb) (fuel := 4) [6] (bts 10 95) (by kernel_rfl) (by kernel_rfl) rfl rfl (by (exact Gh.le.refl _)) (by repeat (first | exact List.nil_sublist _ | apply List.Sublist.cons_cons | apply List.Sublist.cons)) ?_ ?_; (focus (repeat' ((exact trivial)))); ((refine (x_tkg (bts 10 127) 5 rfl (by kernel_rfl) rfl (by (exact Gh.le.refl _)) (by repeat (first | exact List.nil_sublist _ | apply List.Sublist.cons_cons | apply List.Sublist.cons))) (g_ld rfl rfl rfl) rfl rfl ?_)); refine x_all [7] (by kernel_rfl) (by decide) ⟨?_, trivial⟩; refine x_opg rfl rfl ?_; ((refine c_st1 rfl rfl rfl rfl ?_)); refine x_kk (by (exact Gh.le.refl _)) (by repeat (first | exact List.nil_sublist _ | apply List.Sublist.cons_cons | apply List.Sublist.cons)) (listed' := (bts 10 255)) (by kernel_rfl) ?_; refine x_tks (t := tb) (fuel := 1) [8] (bts 10 511) (by kernel_rfl) (by kernel_rfl) rfl rfl (by (exact Gh.le.refl _)) (by repeat (first | exact List.nil_sublist _ | apply List.Sublist.cons_cons | apply List.Sublist.cons)) ?_ ?_; (focus (repeat' ((exact trivial)))); refine x_all [9] (by kernel_rfl) (by decide) ⟨?_, trivial⟩; refine x_opg rfl rfl ?_; ((refine c_st1 rfl rfl rfl rfl ?_)); refine x_kk (by (exact Gh.le.refl _)) (by repeat (first | exact List.nil_sublist _ | apply List.Sublist.cons_cons | apply List.Sublist.cons)) (listed' := (bts 10 1023)) (by kernel_rfl) ?_; refine x_done (by kernel_rfl) (k_bk ?_))
        
        all_goals repeat' (first | (refine run (t := tb) 400 rfl ?_ ?_; (focus (repeat' ((exact trivial))))) | (refine k_op rfl ?_; first | refine v_op (g_ldA rfl rfl rfl rfl) rfl rfl ?_ | refine c_stA rfl rfl rfl rfl rfl rfl ?_))
        all_goals refine k_rr (vs := [_]) rfl ⟨rc_A rfl rfl rfl rfl, trivial⟩ rfl (by repeat (first | exact List.nil_sublist _ | apply List.Sublist.cons_cons)) ⟨hle, .nd 85 [] (nth t.fields j).tag [u1], ⟨85, [], (nth t.fields j).tag, some ⟨kb, ko, none⟩, 1, kc⟩, t1, true, by rw [hso]; rfl, hru, rfl, by simp only [List.length_cons] at *; omega, fun h => (by cases h), fun _ => ⟨.inr hno, by simp only [V.tot, V.tots, List.length_nil, List.length_cons] at *; omega⟩⟩
      | false =>
        have hgd := hg rfl
        have cx_wb := c_want (G := G1) (r := r) (sc := sc) (s := t1) (l := [62]) (b := false) ⟨by omega, by simp⟩
        cases ht2 : tkR [62] t1 false with
        | true =>
          obtain ⟨t2, rfl⟩ := tk1.1 ht2
          rw [ht2, tk1S, Bool.not_true] at cx_wb
          have hgood : rdTyped (tyq qs) (rd (tyq qs) n) t (60 :: s1) = some (.nd 85 [] (nth t.fields j).tag [u1], t2) := by
            rw [hRT, hgd]; dsimp only; rw [if_pos (show (62 : UInt8).toNat = 62 from rfl)]
          
          repeat' (first | (refine run (t := tb) 400 rfl ?_ ?_; (focus (repeat' ((exact trivial))))) | (refine k_op rfl ?_; first | refine v_op (g_pne0 rfl rfl) rfl rfl ?_ | (refine c_m1g rfl rfl rfl cx_wb rfl ?_; rintro _ _ rfl; dsimp only [List.cons_append, List.nil_append])) | (refine k_tt rfl ?_ ?_; (focus (((rfl)); done))))
          rename_i x4 x5 _ x6 _
          dsimp only [VC.sl]
          (refine k_any (s_any (id := 25) [.blk x6 (.cells (List.toArray [U8 ((61 : Nat) : Int), S [], I (nth t.fields j).tag, .slice (some ⟨kb, ko, none⟩) 1 kc]) tVal (0, 0))] (by intro y hy; simp only [List.mem_cons, List.not_mem_nil, or_false] at hy ⊢; simp [hy]) mixed ?_); refine x_tks (t := tb) (fuel := 6) [0, 1, 2, 4] (bts 10 23) (by kernel_rfl) (by kernel_rfl) rfl rfl (by (exact Gh.le.refl _)) (by repeat (first | exact List.nil_sublist _ | apply List.Sublist.cons_cons | apply List.Sublist.cons)) ?_ ?_; (focus (repeat' ((exact trivial)))); ((refine (x_tkg (bts 10 31) 3 rfl (by kernel_rfl) rfl (by (exact Gh.le.refl _)) (by repeat (first | exact List.nil_sublist _ | apply List.Sublist.cons_cons | apply List.Sublist.cons))) (g_ldRF rfl rfl (by assumption) ?_ rfl rfl) rfl rfl ?_; (focus (((omega)); done)))); refine x_tks (t := tb) (fuel := 4) [6] (bts 10 95) (by kernel_rfl) (by kernel_rfl) rfl rfl (by (exact Gh.le.refl _)) (by repeat (first | exact List.nil_sublist _ | apply List.Sublist.cons_cons | apply List.Sublist.cons)) ?_ ?_; (focus (repeat' ((exact trivial)))); ((refine (x_tkg (bts 10 127) 5 rfl (by kernel_rfl) rfl (by (exact Gh.le.refl _)) (by repeat (first | exact List.nil_sublist _ | apply List.Sublist.cons_cons | apply List.Sublist.cons))) (g_ld rfl rfl rfl) rfl rfl ?_)); refine x_all [7] (by kernel_rfl) (by decide) ⟨?_, trivial⟩; refine x_opg rfl rfl ?_; ((refine c_st1 rfl rfl rfl rfl ?_)); refine x_kk (by (exact Gh.le.refl _)) (by repeat (first | exact List.nil_sublist _ | apply List.Sublist.cons_cons | apply List.Sublist.cons)) (listed' := (bts 10 255)) (by kernel_rfl) ?_; refine x_tks (t := tb) (fuel := 1) [8] (bts 10 511) (by kernel_rfl) (by kernel_rfl) rfl rfl (by (exact Gh.le.refl _)) (by repeat (first | exact List.nil_sublist _ | apply List.Sublist.cons_cons | apply List.Sublist.cons)) ?_ ?_; (focus (repeat' ((exact trivial)))); refine x_all [9] (by kernel_rfl) (by decide) ⟨?_, trivial⟩; refine x_opg rfl rfl ?_; ((refine c_st1 rfl rfl rfl rfl ?_)); refine x_kk (by (exact Gh.le.refl _)) (by repeat (first | exact List.nil_sublist _ | apply List.Sublist.cons_cons | apply List.Sublist.cons)) (listed' := (bts 10 1023)) (by kernel_rfl) ?_; refine x_done (by kernel_rfl) (k_bk ?_))
          
          all_goals repeat' (first | (refine run (t := tb) 400 rfl ?_ ?_; (focus (repeat' ((exact trivial))))) | (refine k_op rfl ?_; first | refine v_op (g_ldA rfl rfl rfl rfl) rfl rfl ?_ | refine c_stA rfl rfl rfl rfl rfl rfl ?_))
          all_goals refine k_rr (vs := [_]) rfl ⟨rc_A rfl rfl rfl rfl, trivial⟩ rfl (by repeat (first | exact List.nil_sublist _ | apply List.Sublist.cons_cons)) ⟨hle, .nd 85 [] (nth t.fields j).tag [u1], ⟨85, [], (nth t.fields j).tag, some ⟨kb, ko, none⟩, 1, kc⟩, t2, false, by rw [hso]; rfl, hru, rfl, by simp only [List.length_cons] at *; omega, fun _ => ⟨rfl, hgood⟩, fun h => (by cases h)⟩
        | false =>
          rw [ht2, tkSF ht2, Bool.not_false] at cx_wb
          have hno : rdTyped (tyq qs) (rd (tyq qs) n) t (60 :: s1) = none := by
            rw [hRT, hgd]
            dsimp only
            cases t1 with
            | nil => rfl
            | cons e t2 =>
              dsimp only
              rw [if_neg]
              intro h62
              exact tk_no ht2 t2 (by rw [show e = 62 from UInt8.toNat_inj.1 h62])
          
          repeat' (first | (refine run (t := tb) 400 rfl ?_ ?_; (focus (repeat' ((exact trivial))))) | (refine k_op rfl ?_; first | refine v_op (g_pne0 rfl rfl) rfl rfl ?_ | (refine c_m1g rfl rfl rfl cx_wb rfl ?_; rintro _ _ rfl; dsimp only [List.cons_append, List.nil_append])) | (refine k_tt rfl ?_ ?_; (focus (((rfl)); done))))
          rename_i x4 x5 _ x6 _
          dsimp only [VC.sl]
          (refine k_any (s_any (id := 25) [.blk x6 (.cells (List.toArray [U8 ((61 : Nat) : Int), S [], I (nth t.fields j).tag, .slice (some ⟨kb, ko, none⟩) 1 kc]) tVal (0, 0))] (by intro y hy; simp only [List.mem_cons, List.not_mem_nil, or_false] at hy ⊢; simp [hy]) mixed ?_); refine x_tks (t := tb) (fuel := 6) [0, 1, 2, 4] (bts 10 23) (by kernel_rfl) (by kernel_rfl) rfl rfl (by (exact Gh.le.refl _)) (by repeat (first | exact List.nil_sublist _ | apply List.Sublist.cons_cons | apply List.Sublist.cons)) ?_ ?_; (focus (repeat' ((exact trivial)))); ((refine (x_tkg (bts 10 31) 3 rfl (by kernel_rfl) rfl (by (exact Gh.le.refl _)) (by repeat (first | exact List.nil_sublist _ | apply List.Sublist.cons_cons | apply List.Sublist.cons))) (g_ldRF rfl rfl (by assumption) ?_ rfl rfl) rfl rfl ?_; (focus (((omega)); done)))); refine x_tks (t := tb) (fuel := 4) [6] (bts 10 95) (by kernel_rfl) (by kernel_rfl) rfl rfl (by (exact Gh.le.refl _)) (by repeat (first | exact List.nil_sublist _ | apply List.Sublist.cons_cons | apply List.Sublist.cons)) ?_ ?_; (focus (repeat' ((exact trivial)))); ((refine (x_tkg (bts 10 127) 5 rfl (by kernel_rfl) rfl (by (exact Gh.le.refl _)) (by repeat (first | exact List.nil_sublist _ | apply List.Sublist.cons_cons | apply List.Sublist.cons))) (g_ld rfl rfl rfl) rfl rfl ?_)); refine x_all [7] (by kernel_rfl) (by decide) ⟨?_, trivial⟩; refine x_opg rfl rfl ?_; ((refine c_st1 rfl rfl rfl rfl ?_)); refine x_kk (by (exact Gh.le.refl _)) (by repeat (first | exact List.nil_sublist _ | apply List.Sublist.cons_cons | apply List.Sublist.cons)) (listed' := (bts 10 255)) (by kernel_rfl) ?_; refine x_tks (t := tb) (fuel := 1) [8] (bts 10 511) (by kernel_rfl) (by kernel_rfl) rfl rfl (by (exact Gh.le.refl _)) (by repeat (first | exact List.nil_sublist _ | apply List.Sublist.cons_cons | apply List.Sublist.cons)) ?_ ?_; (focus (repeat' ((exact trivial)))); refine x_all [9] (by kernel_rfl) (by decide) ⟨?_, trivial⟩; refine x_opg rfl rfl ?_; ((refine c_st1 rfl rfl rfl rfl ?_)); refine x_kk (by (exact Gh.le.refl _)) (by repeat (first | exact List.nil_sublist _ | apply List.Sublist.cons_cons | apply List.Sublist.cons)) (listed' := (bts 10 1023)) (by kernel_rfl) ?_; refine x_done (by kernel_rfl) (k_bk ?_))
          
          all_goals repeat' (first | (refine run (t := tb) 400 rfl ?_ ?_; (focus (repeat' ((exact trivial))))) | (refine k_op rfl ?_; first | refine v_op (g_ldA rfl rfl rfl rfl) rfl rfl ?_ | refine c_stA rfl rfl rfl rfl rfl rfl ?_))
          all_goals refine k_rr (vs := [_]) rfl ⟨rc_A rfl rfl rfl rfl, trivial⟩ rfl (by repeat (first | exact List.nil_sublist _ | apply List.Sublist.cons_cons)) ⟨hle, .nd 85 [] (nth t.fields j).tag [u1], ⟨85, [], (nth t.fields j).tag, some ⟨kb, ko, none⟩, 1, kc⟩, t1, true, by rw [hso]; rfl, hru, rfl, by simp only [List.length_cons] at *; omega, fun h => (by cases h), fun _ => ⟨.inr hno, by simp only [V.tot, V.tots, List.length_nil, List.length_cons] at *; omega⟩⟩
end Go.E
/-! Wk -/
namespace Go.E
set_option maxRecDepth 20000
set_option maxHeartbeats 2000000
open Go.Proofs
variable {G : Gh}
theorem flds_none {ts : List Ty} {f : List UInt8 → List UInt8 → Option (V × List UInt8)} {t : Ty} {s : List UInt8} {vs : List V} {last : Int} : ∀ {m : Nat}, rdField f t s = none → rdFlds ts f t m last s vs = none
  | 0, _ => rfl
  | m + 1, h => by rw [rdFlds, h]
theorem flds_step {ts : List Ty} {f : List UInt8 → List UInt8 → Option (V × List UInt8)} {t : Ty} {s r : List UInt8} {vs : List V} {last : Int} {d : Fld} {v : V} {m : Nat} (h : rdField f t s = some ((d, v), r)) (hm : 0 < m) :
    rdFlds ts f t m last s vs = if d.tag ≤ last ∨ v.out = standF ts d then none else match r with
      | [] => none
      | c :: r' => if c.toNat = 44 then rdFlds ts f t (m - 1) d.tag r' (vs ++ [.nd 61 [] d.tag [v]]) else if c.toNat = 125 then some (vs ++ [.nd 61 [] d.tag [v]], r') else none := by
  obtain ⟨m, rfl⟩ : ∃ k, m = k + 1 := ⟨m - 1, by omega⟩
  rw [rdFlds, h]; rfl
theorem rdField_nil {f : List UInt8 → List UInt8 → Option (V × List UInt8)} {t : Ty} : rdField f t [] = none := by
  unfold rdField rdNum
  have : numOf (([] : List UInt8).takeWhile isDg) 200 = none := by
    cases h : numOf (([] : List UInt8).takeWhile isDg) 200 with
    | none => rfl
    | some m =>
      have := (numOf_le h).2.1
      have h2 := decI_pos m
      rw [← this] at h2; simp at h2
  rw [this]; rfl
theorem c_ofR {n r sc bt : Nat} {qs : List TyP} {t : Ty} {s : List UInt8} {b : Bool} (hV : ValC n sc qs) (hS : ScI G sc qs) (hW0 : SchW (tyq qs)) (hkf : ∀ d ∈ t.fields, kindIn (tyq qs) d.kind = true) (hT : TyI G bt t) (hw : TyW t) (hso : t.sort = 82) (hs : s.length ≤ n ∧ s.length ≤ 1000) :
    FnM Tryz.prog 52 [Pt r 0, Pt bt 0] G [scO r sc s b] (ValP (rdTyped (tyq qs) (rd (tyq qs) n) t) r sc s b) := by
  obtain ⟨fv, ln, h1, h2⟩ := hT
  have hfl := hw.len
  have hso' : (t.sort : Int) = 82 := by omega
  have cx_wa := c_want (G := G) (r := r) (sc := sc) (s := s) (l := [123]) (b := b) ⟨by omega, by simp⟩
  have cx_tk := c_take (G := G) (r := r) (sc := sc) (s := tkS [123] s b) (l := [125]) (b := !tkR [123] s b) ⟨by have := tk_len (l := [123]) (s := s) (b := b); omega, by simp⟩
  cases ht : tkR [123] s b with
  | false =>
    rw [ht, tkSF ht] at cx_wa cx_tk
    rw [Bool.not_false, tkT, tkST] at cx_tk
    have cx_wb := c_want (G := G) (r := r) (sc := sc) (s := s) (l := [125]) (b := true) ⟨by omega, by simp⟩
    rw [tkT, tkST] at cx_wb
    have hno : b = true ∨ rdTyped (tyq qs) (rd (tyq qs) n) t s = none := by
      cases b with
      | true => exact .inl rfl
      | false => exact .inr (typed_no (.inl ⟨hso, rfl⟩) (tk_no ht))
    refine m_enter [(0, _), (1, _)] Tryz.func52 (by kernel_rfl) Tryz.ntmps52 rfl rfl (by repeat (first | exact trivial | refine ⟨rfl, ?_⟩)) fun B hB hW => ?_
    repeat' (first | (refine run (t := tb) 400 rfl ?_ ?_; (focus (repeat' ((exact trivial))))) | (refine k_op rfl ?_; first | refine c_al rfl rfl fun _ => ?_ | refine v_op (g_ldS rfl rfl (by assumption) rfl rfl) rfl rfl ?_ | refine v_op (g_bld rfl rfl) rfl rfl ?_ | refine c_stA rfl rfl rfl rfl rfl rfl ?_ | (refine c_m1g rfl rfl rfl cx_wa rfl ?_; rintro _ _ rfl; dsimp only [List.cons_append, List.nil_append]) | (refine c_m1g rfl rfl rfl cx_tk rfl ?_; rintro _ _ ⟨rfl, rfl⟩; dsimp only [List.cons_append, List.nil_append])) | (refine k_ff rfl ?_ ?_; (focus ((first | rfl | (refine decide_eq_false ?_; (omega))); done))))
    rename_i x4 x5 _
    refine k_loop (ι := Unit) (fun i => True) (fun i => [(0, Pt r 0), (1, Pt bt 0), (4, Pt x4 0), (5, Pt x5 0), (8, I 0)]) (fun _ => G) (fun i => [scO r sc s true, lo4 x5 [U8 t.sort, S [], I 0, nilS], lo4 x4 [U8 0, S [], I 0, nilS]]) (fun i => 0) () ?_ (by repeat (first | exact trivial | refine ⟨rfl, ?_⟩)) rfl (by repeat ((exact List.Sublist.refl _))) (fun i Hi => ?_)
    · trivial
    repeat' (first | (refine run (t := tb) 400 rfl ?_ ?_; (focus (repeat' ((exact trivial))))) | (refine k_op rfl ?_; first | refine v_op (g_ld rfl rfl rfl) rfl rfl ?_ | refine v_op (g_ldA rfl rfl rfl rfl) rfl rfl ?_ | refine c_stA rfl rfl rfl rfl rfl rfl ?_ | (refine c_m1g rfl rfl rfl cx_wb rfl ?_; rintro _ _ rfl; dsimp only [List.cons_append, List.nil_append])) | (refine k_ff rfl ?_ ?_; (focus (((rfl)); done))))
    refine k_rr (vs := [_]) rfl ⟨rc_A rfl rfl rfl rfl, trivial⟩ rfl (by repeat (first | exact List.nil_sublist _ | apply List.Sublist.cons_cons)) ⟨Gh.le.refl _, .nd 82 [] 0 [], ⟨82, [], 0, none, 0, 0⟩, s, true, by rw [hso]; rfl, rep_leaf (by decide) (by decide), rfl, Nat.le_refl _, fun h => (by cases h), fun _ => ⟨hno, by simp only [V.tot, V.tots, List.length_nil]; omega⟩⟩
  | true =>
    have hb : b = false := by cases b with | true => rw [tkT] at ht; cases ht | false => rfl
    subst hb
    obtain ⟨s1, rfl⟩ := tk1.1 ht
    rw [ht, tk1S] at cx_wa cx_tk
    rw [Bool.not_true] at cx_wa cx_tk
    simp only [List.length_cons] at hs
    cases ht2 : tkR [125] s1 false with
    | true =>
      obtain ⟨s2, rfl⟩ := tk1.1 ht2
      rw [ht2, tk1S] at cx_tk
      have hgood : rdTyped (tyq qs) (rd (tyq qs) n) t (123 :: 125 :: s2) = some (.nd 82 [] 0 [], s2) := by
        unfold rdTyped
        dsimp only
        rw [if_pos hso, if_pos (show (123 : UInt8).toNat = 123 from rfl), if_pos (show (125 : UInt8).toNat = 125 from rfl)]
      refine m_enter [(0, _), (1, _)] Tryz.func52 (by kernel_rfl) Tryz.ntmps52 rfl rfl (by repeat (first | exact trivial | refine ⟨rfl, ?_⟩)) fun B hB hW => ?_
      repeat' (first | (refine run (t := tb) 400 rfl ?_ ?_; (focus (repeat' ((exact trivial))))) | (refine k_op rfl ?_; first | refine c_al rfl rfl fun _ => ?_ | refine v_op (g_ldA rfl rfl rfl rfl) rfl rfl ?_ | refine v_op (g_ldS rfl rfl (by assumption) rfl rfl) rfl rfl ?_ | refine v_op (g_bld rfl rfl) rfl rfl ?_ | refine c_stA rfl rfl rfl rfl rfl rfl ?_ | (refine c_m1g rfl rfl rfl cx_wa rfl ?_; rintro _ _ rfl; dsimp only [List.cons_append, List.nil_append]) | (refine c_m1g rfl rfl rfl cx_tk rfl ?_; rintro _ _ ⟨rfl, rfl⟩; dsimp only [List.cons_append, List.nil_append])) | (refine k_tt rfl ?_ ?_; (focus (((rfl)); done))) | (refine k_ff rfl ?_ ?_; (focus (((refine decide_eq_false ?_; (omega))); done))))
      refine k_rr (vs := [_]) rfl ⟨rc_A rfl rfl rfl rfl, trivial⟩ rfl (by repeat (first | exact List.nil_sublist _ | apply List.Sublist.cons_cons)) ⟨Gh.le.refl _, .nd 82 [] 0 [], ⟨82, [], 0, none, 0, 0⟩, s2, false, by rw [hso]; rfl, rep_leaf (by decide) (by decide), rfl, by simp only [List.length_cons]; omega, fun _ => ⟨rfl, hgood⟩, fun h => (by cases h)⟩
    | false =>
      rw [ht2, tkSF ht2] at cx_tk
      have hR : rdTyped (tyq qs) (rd (tyq qs) n) t (123 :: s1) = (rdFlds (tyq qs) (rd (tyq qs) n) t (s1.length + 1) 0 s1 []).map fun x => (.nd 82 [] 0 x.1, x.2) := by
        unfold rdTyped
        dsimp only
        rw [if_pos hso, if_pos (show (123 : UInt8).toNat = 123 from rfl)]
        cases s1 with
        | nil => rw [flds_none rdField_nil]; rfl
        | cons e r' =>
          dsimp only
          rw [if_neg]
          intro h93
          exact tk_no ht2 r' (by rw [show e = 125 from UInt8.toNat_inj.1 h93])
      refine m_enter [(0, _), (1, _)] Tryz.func52 (by kernel_rfl) Tryz.ntmps52 rfl rfl (by repeat (first | exact trivial | refine ⟨rfl, ?_⟩)) fun B hB hW => ?_
      repeat' (first | (refine run (t := tb) 400 rfl ?_ ?_; (focus (repeat' ((exact trivial))))) | (refine k_op rfl ?_; first | refine c_al rfl rfl fun _ => ?_ | refine v_op (g_ldS rfl rfl (by assumption) rfl rfl) rfl rfl ?_ | refine v_op (g_bld rfl rfl) rfl rfl ?_ | refine c_stA rfl rfl rfl rfl rfl rfl ?_ | (refine c_m1g rfl rfl rfl cx_wa rfl ?_; rintro _ _ rfl; dsimp only [List.cons_append, List.nil_append]) | (refine c_m1g rfl rfl rfl cx_tk rfl ?_; rintro _ _ ⟨rfl, rfl⟩; dsimp only [List.cons_append, List.nil_append])) | (refine k_ff rfl ?_ ?_; (focus ((first | rfl | (refine decide_eq_false ?_; (omega))); done))))
      rename_i x4 x5 _
      refine Nx.addNil tVal 4 (Nx.perm (List.Perm.swap _ _ _) ?_)
      refine k_loop (ι := List V × List VC × Option Addr × Nat × List UInt8 × Nat × Int × Gh) (fun q => (V.reps q.2.2.2.2.2.2.2 q.1 q.2.1 ∧ Gh.le G q.2.2.2.2.2.2.2) ∧ (rdFlds (tyq qs) (rd (tyq qs) n) t (s1.length + 1) 0 s1 [] = rdFlds (tyq qs) (rd (tyq qs) n) t q.2.2.2.2.2.1 q.2.2.2.2.2.2.1 q.2.2.2.2.1 q.1 ∧ q.2.2.2.2.1.length < q.2.2.2.2.2.1) ∧ (V.tots q.1 + 100 * q.2.2.2.2.1.length + 100 ≤ 100 * (s1.length + 1) ∧ q.2.2.2.2.1.length ≤ s1.length)) (fun q => [(0, Pt r 0), (1, Pt bt 0), (4, Pt x4 0), (5, Pt x5 0), (8, I q.2.2.2.2.2.2.1)]) (fun q => q.2.2.2.2.2.2.2) (fun q => [scO r sc q.2.2.2.2.1 false, .acc (.slice q.2.2.1 q.1.length q.2.2.2.1) tVal 4 q.1.length (rows vcF q.2.1), lo4 x5 [U8 t.sort, S [], I 0, .slice q.2.2.1 q.1.length q.2.2.2.1], lo4 x4 [U8 0, S [], I 0, nilS]]) (fun q => q.2.2.2.2.1.length) ([], [], none, 0, s1, s1.length + 1, 0, G) ?_ (by repeat (first | exact trivial | refine ⟨rfl, ?_⟩)) rfl (by repeat ((exact List.Sublist.refl _))) (fun q Hq => ?_)
      · exact ⟨⟨rfl, Gh.le.refl _⟩, ⟨rfl, by dsimp only; omega⟩, by dsimp only; simp only [V.tots]; omega, Nat.le_refl _⟩
      obtain ⟨vs, cs, a, cap, t', m, last, Gq⟩ := q
      dsimp only at Hq ⊢
      obtain ⟨⟨hreps, hgq⟩, ⟨hit, htm⟩, hT, htl'⟩ := Hq
      have hcl := reps_len hreps
      have hkl := tots_len vs
      have hfv : t.fields ≠ [] → ∃ bf of cf, fv = .slice (some ⟨bf, of, none⟩) t.fields.length cf ∧ Seg G bf of (rows fiF t.fields) := fun h => by
        obtain ⟨bf, of, cf, e, hs⟩ := h2.expl (List.length_pos_iff.2 h)
        exact ⟨bf, of, cf, e, hs⟩
      obtain ⟨bf, of, cf, hfv⟩ : ∃ bf of cf, t.fields ≠ [] → fv = .slice (some ⟨bf, of, none⟩) t.fields.length cf ∧ Seg G bf of (rows fiF t.fields) := by
        by_cases h : t.fields = []
        · exact ⟨0, 0, 0, fun h' => absurd h h'⟩
        · obtain ⟨bf, of, cf, h⟩ := hfv h
          exact ⟨bf, of, cf, fun _ => h⟩
      have cx_fd := c_fieldV (s := t') (b := false) (r := r) hV (hS.mono hgq) hw hkf (h1.mono hgq) (h2.mono hgq) (fun h => ⟨(hfv h).1, (hfv h).2.mono hgq⟩) ⟨by omega, by omega⟩
      repeat' (first | (refine run (t := tb) 400 rfl ?_ ?_; (focus (repeat' ((exact trivial))))) | (refine k_op rfl ?_; first | refine c_al rfl rfl fun _ => ?_ | refine v_op (g_ld rfl rfl rfl) rfl rfl ?_ | refine c_st1 rfl rfl rfl rfl ?_ | refine c_stA rfl rfl rfl rfl rfl rfl ?_ | (refine c_m1s rfl rfl rfl cx_fd rfl ?_; rintro _ G1 _ hle ⟨t1, b1, rfl, htl, ⟨rfl, rfl, hF⟩ | ⟨j, u1, c1, hj, rfl, hrep, hb0, hto, hg, hbd⟩⟩ <;> (dsimp only [List.cons_append, List.nil_append]; skip))) | (refine k_tt rfl ?_ ?_; (focus (((rfl)); done))) | (refine k_any (s_any (id := 9) _ (fun _ h => h) mixed ?_); refine x_tks (t := tb) (fuel := 23) [0] (bts 24 1) (by kernel_rfl) (by kernel_rfl) rfl rfl (by (exact Gh.le.refl _)) (by repeat ((exact List.Sublist.refl _))) ?_ ?_; (focus (repeat' ((exact trivial)))); ((refine (x_tkg (bts 24 3) 1 rfl (by kernel_rfl) rfl (by (exact Gh.le.refl _)) (by repeat ((exact List.Sublist.refl _)))) (g_peq0 rfl rfl) rfl rfl ?_)); refine x_tks (t := tb) (fuel := 21) [2] (bts 24 7) (by kernel_rfl) (by kernel_rfl) rfl rfl (by (exact Gh.le.refl _)) (by repeat ((exact List.Sublist.refl _))) ?_ ?_; (focus (repeat' ((exact trivial)))); (try (first | (refine Nx.re (d := 38) (v' := Bo true) rfl (congrArg Value.bool ?_) ?_; (focus (((rfl)); done))) | (refine Nx.re (d := 38) (v' := Bo false) rfl (congrArg Value.bool ?_) ?_; (focus (((rfl)); done))))); refine x_tks (t := tb) (fuel := 17) [3, 4, 5, 7] (bts 24 191) (by kernel_rfl) (by kernel_rfl) rfl rfl (by (exact Gh.le.refl _)) (by repeat ((exact List.Sublist.refl _))) ?_ ?_; (focus (repeat' ((exact trivial)))); ((refine x_tkn (bts 24 255) 6 rfl (by kernel_rfl) rfl (by (exact Gh.le.refl _)) (by repeat ((exact List.Sublist.refl _))) rfl rfl ?_)); refine x_tks (t := tb) (fuel := 15) [8] (bts 24 511) (by kernel_rfl) (by kernel_rfl) rfl rfl (by (exact Gh.le.refl _)) (by repeat ((exact List.Sublist.refl _))) ?_ ?_; (focus (repeat' ((exact trivial)))); ((refine (x_tkg (bts 24 1023) 9 rfl (by kernel_rfl) rfl (by (exact Gh.le.refl _)) (by repeat ((exact List.Sublist.refl _)))) (g_pickT rfl rfl ?_) rfl rfl ?_; (focus (((rfl)); done)))); refine x_tks (t := tb) (fuel := 13) [10] (bts 24 2047) (by kernel_rfl) (by kernel_rfl) rfl rfl (by (exact Gh.le.refl _)) (by repeat ((exact List.Sublist.refl _))) ?_ ?_; (focus (repeat' ((exact trivial)))); (try ((refine Nx.re (d := 46) (v' := Bo true) rfl (congrArg Value.bool ?_) ?_; (focus (((rfl)); done))))); refine x_tks (t := tb) (fuel := 8) [11, 16, 17, 18, 20] (bts 24 1511423) (by kernel_rfl) (by kernel_rfl) rfl rfl (by (exact Gh.le.refl _)) (by repeat ((exact List.Sublist.refl _))) ?_ ?_; (focus (repeat' ((exact trivial)))); ((refine x_tkn (bts 24 1515519) 12 rfl (by kernel_rfl) rfl (by (exact Gh.le.refl _)) (by repeat ((exact List.Sublist.refl _))) rfl rfl ?_)); ((refine x_tkn (bts 24 1523711) 13 rfl (by kernel_rfl) rfl (by (exact Gh.le.refl _)) (by repeat ((exact List.Sublist.refl _))) rfl rfl ?_)); ((refine x_tkn (bts 24 1540095) 14 rfl (by kernel_rfl) rfl (by (exact Gh.le.refl _)) (by repeat ((exact List.Sublist.refl _))) rfl rfl ?_)); ((refine x_tkn (bts 24 2064383) 19 rfl (by kernel_rfl) rfl (by (exact Gh.le.refl _)) (by repeat ((exact List.Sublist.refl _))) rfl rfl ?_)); ((refine x_tkn (bts 24 2097151) 15 rfl (by kernel_rfl) rfl (by (exact Gh.le.refl _)) (by repeat ((exact List.Sublist.refl _))) rfl rfl ?_)); ((refine x_tkn (bts 24 4194303) 21 rfl (by kernel_rfl) rfl (by (exact Gh.le.refl _)) (by repeat ((exact List.Sublist.refl _))) rfl rfl ?_)); refine x_tks (t := tb) (fuel := 1) [22] (bts 24 8388607) (by kernel_rfl) (by kernel_rfl) rfl rfl (by (exact Gh.le.refl _)) (by repeat ((exact List.Sublist.refl _))) ?_ ?_; (focus (repeat' ((exact trivial)))); ((refine (x_tkg (bts 24 16777215) 23 rfl (by kernel_rfl) rfl (by (exact Gh.le.refl _)) (by repeat ((exact List.Sublist.refl _)))) (g_pickT rfl rfl ?_) rfl rfl ?_; (focus (((rfl)); done)))); refine x_done (by kernel_rfl) (k_bk ?_)))
      · have hgl := hgq.trans hle
        have hno : rdField (rd (tyq qs) n) t t' = none := by
          rcases hF with h | h
          · cases h
          · exact h
        have hit2 : rdFlds (tyq qs) (rd (tyq qs) n) t m last t' vs = none := flds_none hno
        have cx_wb := c_want (G := G1) (r := r) (sc := sc) (s := t1) (l := [125]) (b := true) ⟨by omega, by simp⟩
        rw [tkT, tkST, Bool.not_false] at cx_wb
        repeat' (first | (refine run (t := tb) 400 rfl ?_ ?_; (focus (repeat' ((exact trivial))))) | (refine k_op rfl ?_; first | refine v_op (g_ldA rfl rfl rfl rfl) rfl rfl ?_ | refine c_stA rfl rfl rfl rfl rfl rfl ?_ | (refine c_m1g rfl rfl rfl cx_wb rfl ?_; rintro _ _ rfl; dsimp only [List.cons_append, List.nil_append])))
        refine Nx.sealS (v := .slice a vs.length cap) fun G2 hG2 hsl => ?_
        refine k_rr (vs := [_]) rfl ⟨rc_A rfl rfl rfl rfl, trivial⟩ rfl (by repeat (first | exact List.nil_sublist _ | apply List.Sublist.cons_cons)) ⟨hgl.trans hG2, .nd 82 [] 0 vs, ⟨82, [], 0, a, vs.length, cap⟩, t1, true, by rw [hso]; rfl, rep_mk (by decide) (by decide) (fun h => absurd h (by decide)) rfl (by rw [hcl]; exact hsl) (reps_mono (hle.trans hG2) hreps), rfl, by simp only [List.length_cons]; omega, fun h => (by cases h), fun _ => ⟨.inr (by rw [hR, hit, hit2]; rfl), by rw [nd_tot]; simp only [List.length_cons, List.length_nil]; omega⟩⟩
      · have hgl := hgq.trans hle
        obtain ⟨kb, ko, kc, d, rfl, htg, hsd, hrd, hru⟩ := rep_uni hrep
        dsimp only [vcF, VC.sl]
        have hsf1 := (hfv (fun h => by rw [h] at hj; simp at hj)).2.mono hgl
        have hS1 := hS.mono hgl
        have cx_pr := c_print (G := G1) u1.tot (Nat.le_refl _) (by omega) hrd
        have hotl := out_tot hrd
        have cx_of := c_ofI hS1 hW0 hsf1 hj (hkf _ (nth_mem hj))
        have cx_wb := c_want (G := G1) (r := r) (sc := sc) (s := t1) (l := [125]) (b := true) ⟨by omega, by simp⟩
        rw [tkT, tkST, Bool.not_false] at cx_wb
        by_cases hbrk : (nth t.fields j).tag ≤ last ∨ u1.out = standF (tyq qs) (nth t.fields j)
        · have hit2 : rdFlds (tyq qs) (rd (tyq qs) n) t m last t' vs = none := by
            cases b1 with
            | true => exact flds_none (hbd rfl)
            | false => rw [flds_step (hg rfl) (by omega), if_pos hbrk]
          by_cases hlast : (nth t.fields j).tag ≤ last
          · repeat' (first | (refine run (t := tb) 400 rfl ?_ ?_; (focus (repeat' ((exact trivial))))) | (refine k_op rfl ?_; first | refine v_op (g_ldA rfl rfl rfl rfl) rfl rfl ?_ | refine c_st1 rfl rfl rfl rfl ?_ | refine c_stA rfl rfl rfl rfl rfl rfl ?_ | (refine c_m1g rfl rfl rfl cx_wb rfl ?_; rintro _ _ rfl; dsimp only [List.cons_append, List.nil_append])) | (refine k_tt rfl ?_ ?_; (focus (((rfl)); done))) | (refine k_any (s_any (id := 9) _ (fun _ h => h) mixed ?_); refine x_tks (t := tb) (fuel := 23) [0] (bts 24 1) (by kernel_rfl) (by kernel_rfl) rfl rfl (by (exact Gh.le.refl _)) (by repeat ((exact List.Sublist.refl _))) ?_ ?_; (focus (repeat' ((exact trivial)))); ((refine (x_tkg (bts 24 3) 1 rfl (by kernel_rfl) rfl (by (exact Gh.le.refl _)) (by repeat ((exact List.Sublist.refl _)))) (g_peq0 rfl rfl) rfl rfl ?_)); refine x_tks (t := tb) (fuel := 21) [2] (bts 24 7) (by kernel_rfl) (by kernel_rfl) rfl rfl (by (exact Gh.le.refl _)) (by repeat ((exact List.Sublist.refl _))) ?_ ?_; (focus (repeat' ((exact trivial)))); (try ((refine Nx.re (d := 38) (v' := Bo false) rfl (congrArg Value.bool ?_) ?_; (focus (((rfl)); done))))); refine x_tks (t := tb) (fuel := 17) [3, 4, 5, 7] (bts 24 191) (by kernel_rfl) (by kernel_rfl) rfl rfl (by (exact Gh.le.refl _)) (by repeat ((exact List.Sublist.refl _))) ?_ ?_; (focus (repeat' ((exact trivial)))); ((refine (x_tkg (bts 24 255) 6 rfl (by kernel_rfl) rfl (by (exact Gh.le.refl _)) (by repeat ((exact List.Sublist.refl _)))) (g_ldRF rfl rfl (by assumption) ?_ rfl rfl) rfl rfl ?_; (focus (((omega)); done)))); refine x_tks (t := tb) (fuel := 15) [8] (bts 24 511) (by kernel_rfl) (by kernel_rfl) rfl rfl (by (exact Gh.le.refl _)) (by repeat ((exact List.Sublist.refl _))) ?_ ?_; (focus (repeat' ((exact trivial)))); ((refine (x_tkg (bts 24 1023) 9 rfl (by kernel_rfl) rfl (by (exact Gh.le.refl _)) (by repeat ((exact List.Sublist.refl _)))) (g_pickF rfl rfl ?_) rfl rfl ?_; (focus (((rfl)); done)))); refine x_tks (t := tb) (fuel := 13) [10] (bts 24 2047) (by kernel_rfl) (by kernel_rfl) rfl rfl (by (exact Gh.le.refl _)) (by repeat ((exact List.Sublist.refl _))) ?_ ?_; (focus (repeat' ((exact trivial)))); (try ((refine Nx.re (d := 46) (v' := Bo true) rfl (congrArg Value.bool ?_) ?_; (focus (((refine decide_eq_true ?_; (assumption))); done))))); refine x_tks (t := tb) (fuel := 8) [11, 16, 17, 18, 20] (bts 24 1511423) (by kernel_rfl) (by kernel_rfl) rfl rfl (by (exact Gh.le.refl _)) (by repeat ((exact List.Sublist.refl _))) ?_ ?_; (focus (repeat' ((exact trivial)))); ((refine x_tkn (bts 24 1515519) 12 rfl (by kernel_rfl) rfl (by (exact Gh.le.refl _)) (by repeat ((exact List.Sublist.refl _))) rfl rfl ?_)); ((refine x_tkn (bts 24 1523711) 13 rfl (by kernel_rfl) rfl (by (exact Gh.le.refl _)) (by repeat ((exact List.Sublist.refl _))) rfl rfl ?_)); ((refine x_tkn (bts 24 1540095) 14 rfl (by kernel_rfl) rfl (by (exact Gh.le.refl _)) (by repeat ((exact List.Sublist.refl _))) rfl rfl ?_)); ((refine x_tkn (bts 24 2064383) 19 rfl (by kernel_rfl) rfl (by (exact Gh.le.refl _)) (by repeat ((exact List.Sublist.refl _))) rfl rfl ?_)); ((refine x_tkn (bts 24 2097151) 15 rfl (by kernel_rfl) rfl (by (exact Gh.le.refl _)) (by repeat ((exact List.Sublist.refl _))) rfl rfl ?_)); ((refine x_tkn (bts 24 4194303) 21 rfl (by kernel_rfl) rfl (by (exact Gh.le.refl _)) (by repeat ((exact List.Sublist.refl _))) rfl rfl ?_)); refine x_tks (t := tb) (fuel := 1) [22] (bts 24 8388607) (by kernel_rfl) (by kernel_rfl) rfl rfl (by (exact Gh.le.refl _)) (by repeat ((exact List.Sublist.refl _))) ?_ ?_; (focus (repeat' ((exact trivial)))); ((refine (x_tkg (bts 24 16777215) 23 rfl (by kernel_rfl) rfl (by (exact Gh.le.refl _)) (by repeat ((exact List.Sublist.refl _)))) (g_pickT rfl rfl ?_) rfl rfl ?_; (focus (((rfl)); done)))); refine x_done (by kernel_rfl) (k_bk ?_)))
            refine Nx.sealS (v := .slice a vs.length cap) fun G2 hG2 hsl => ?_
            refine k_rr (vs := [_]) rfl ⟨rc_A rfl rfl rfl rfl, trivial⟩ rfl (by repeat (first | exact List.nil_sublist _ | apply List.Sublist.cons_cons)) ⟨hgl.trans hG2, .nd 82 [] 0 vs, ⟨82, [], 0, a, vs.length, cap⟩, t1, true, by rw [hso]; rfl, rep_mk (by decide) (by decide) (fun h => absurd h (by decide)) rfl (by rw [hcl]; exact hsl) (reps_mono (hle.trans hG2) hreps), rfl, by simp only [List.length_cons]; omega, fun h => (by cases h), fun _ => ⟨.inr (by rw [hR, hit, hit2]; rfl), by rw [nd_tot]; simp only [List.length_cons, List.length_nil]; omega⟩⟩
          · have heq : u1.out = standF (tyq qs) (nth t.fields j) := by
              rcases hbrk with h | h
              · exact absurd h hlast
              · exact h
            repeat' (first | (refine run (t := tb) 400 rfl ?_ ?_; (focus (repeat' ((exact trivial))))) | (refine k_op rfl ?_; first | refine v_op (g_ldA rfl rfl rfl rfl) rfl rfl ?_ | refine c_st1 rfl rfl rfl rfl ?_ | refine c_stA rfl rfl rfl rfl rfl rfl ?_ | (refine c_m1g rfl rfl rfl cx_wb rfl ?_; rintro _ _ rfl; dsimp only [List.cons_append, List.nil_append])) | (refine k_tt rfl ?_ ?_; (focus (((refine decide_eq_true ?_; (assumption))); done))) | (refine k_any (s_any (id := 9) _ (fun _ h => h) mixed ?_); refine x_tks (t := tb) (fuel := 23) [0] (bts 24 1) (by kernel_rfl) (by kernel_rfl) rfl rfl (by (exact Gh.le.refl _)) (by repeat ((exact List.Sublist.refl _))) ?_ ?_; (focus (repeat' ((exact trivial)))); ((refine (x_tkg (bts 24 3) 1 rfl (by kernel_rfl) rfl (by (exact Gh.le.refl _)) (by repeat ((exact List.Sublist.refl _)))) (g_peq0 rfl rfl) rfl rfl ?_)); refine x_tks (t := tb) (fuel := 21) [2] (bts 24 7) (by kernel_rfl) (by kernel_rfl) rfl rfl (by (exact Gh.le.refl _)) (by repeat ((exact List.Sublist.refl _))) ?_ ?_; (focus (repeat' ((exact trivial)))); (try ((refine Nx.re (d := 38) (v' := Bo false) rfl (congrArg Value.bool ?_) ?_; (focus (((rfl)); done))))); refine x_tks (t := tb) (fuel := 17) [3, 4, 5, 7] (bts 24 191) (by kernel_rfl) (by kernel_rfl) rfl rfl (by (exact Gh.le.refl _)) (by repeat ((exact List.Sublist.refl _))) ?_ ?_; (focus (repeat' ((exact trivial)))); ((refine (x_tkg (bts 24 255) 6 rfl (by kernel_rfl) rfl (by (exact Gh.le.refl _)) (by repeat ((exact List.Sublist.refl _)))) (g_ldRF rfl rfl (by assumption) ?_ rfl rfl) rfl rfl ?_; (focus (((omega)); done)))); refine x_tks (t := tb) (fuel := 15) [8] (bts 24 511) (by kernel_rfl) (by kernel_rfl) rfl rfl (by (exact Gh.le.refl _)) (by repeat ((exact List.Sublist.refl _))) ?_ ?_; (focus (repeat' ((exact trivial)))); ((refine (x_tkg (bts 24 1023) 9 rfl (by kernel_rfl) rfl (by (exact Gh.le.refl _)) (by repeat ((exact List.Sublist.refl _)))) (g_pickF rfl rfl ?_) rfl rfl ?_; (focus (((rfl)); done)))); refine x_tks (t := tb) (fuel := 13) [10] (bts 24 2047) (by kernel_rfl) (by kernel_rfl) rfl rfl (by (exact Gh.le.refl _)) (by repeat ((exact List.Sublist.refl _))) ?_ ?_; (focus (repeat' ((exact trivial)))); (try ((refine Nx.re (d := 46) (v' := Bo false) rfl (congrArg Value.bool ?_) ?_; (focus (((refine decide_eq_false ?_; (assumption))); done))))); refine x_tks (t := tb) (fuel := 8) [11, 16, 17, 18, 20] (bts 24 1511423) (by kernel_rfl) (by kernel_rfl) rfl rfl (by (exact Gh.le.refl _)) (by repeat ((exact List.Sublist.refl _))) ?_ ?_; (focus (repeat' ((exact trivial)))); ((refine (x_tkg (bts 24 1515519) 12 rfl (by kernel_rfl) rfl (by (exact Gh.le.refl _)) (by repeat ((exact List.Sublist.refl _)))) (g_ld rfl rfl rfl) rfl rfl ?_)); ((refine (x_tkg (bts 24 1523711) 13 rfl (by kernel_rfl) rfl (by (exact Gh.le.refl _)) (by repeat ((exact List.Sublist.refl _)))) (g_iaddr rfl rfl ?_) rfl rfl ?_; (focus ((omega); done)))); ((refine (x_tkg (bts 24 1540095) 14 rfl (by kernel_rfl) rfl (by (exact Gh.le.refl _)) (by repeat ((exact List.Sublist.refl _)))) (g_ldR rfl rfl (by assumption) ?_) rfl rfl ?_; (focus (((simp only [List.length_append, List.length_cons, List.length_nil, List.length_take]; omega)); done)))); ((refine (x_tkg (bts 24 2064383) 19 rfl (by kernel_rfl) rfl (by (exact Gh.le.refl _)) (by repeat ((exact List.Sublist.refl _)))) (g_ld rfl rfl rfl) rfl rfl ?_)); ((refine x_all [15] (by kernel_rfl) (by decide) ⟨?_, trivial⟩; refine x_opg rfl rfl ?_; ((refine c_rt rfl rfl rfl cx_pr rfl ?_)); refine x_ks (by (exact Gh.le.refl _)) (by repeat ((exact List.Sublist.refl _))) (listed' := (bts 24 2097151)) (by kernel_rfl) ?_)); ((refine x_all [21] (by kernel_rfl) (by decide) ⟨?_, trivial⟩; refine x_opg rfl rfl ?_; ((refine c_rt rfl rfl rfl cx_of rfl ?_)); refine x_ks (by (exact Gh.le.refl _)) (by repeat ((exact List.Sublist.refl _))) (listed' := (bts 24 4194303)) (by kernel_rfl) ?_)); refine x_tks (t := tb) (fuel := 1) [22] (bts 24 8388607) (by kernel_rfl) (by kernel_rfl) rfl rfl (by (exact Gh.le.refl _)) (by repeat ((exact List.Sublist.refl _))) ?_ ?_; (focus (repeat' ((exact trivial)))); ((refine (x_tkg (bts 24 16777215) 23 rfl (by kernel_rfl) rfl (by (exact Gh.le.refl _)) (by repeat ((exact List.Sublist.refl _)))) (g_pickF rfl rfl ?_) rfl rfl ?_; (focus (((rfl)); done)))); refine x_done (by kernel_rfl) (k_bk ?_)))
            refine Nx.sealS (v := .slice a vs.length cap) fun G2 hG2 hsl => ?_
            refine k_rr (vs := [_]) rfl ⟨rc_A rfl rfl rfl rfl, trivial⟩ rfl (by repeat (first | exact List.nil_sublist _ | apply List.Sublist.cons_cons)) ⟨hgl.trans hG2, .nd 82 [] 0 vs, ⟨82, [], 0, a, vs.length, cap⟩, t1, true, by rw [hso]; rfl, rep_mk (by decide) (by decide) (fun h => absurd h (by decide)) rfl (by rw [hcl]; exact hsl) (reps_mono (hle.trans hG2) hreps), rfl, by simp only [List.length_cons]; omega, fun h => (by cases h), fun _ => ⟨.inr (by rw [hR, hit, hit2]; rfl), by rw [nd_tot]; simp only [List.length_cons, List.length_nil]; omega⟩⟩
        · have hlast : ¬ (nth t.fields j).tag ≤ last := fun h => hbrk (.inl h)
          have heq : ¬ u1.out = standF (tyq qs) (nth t.fields j) := fun h => hbrk (.inr h)
          have hrow : rows vcF cs ++ [U8 ((61 : Nat) : Int), S [], I (nth t.fields j).tag, .slice (some ⟨kb, ko, none⟩) 1 kc] = rows vcF (cs ++ [⟨61, [], (nth t.fields j).tag, some ⟨kb, ko, none⟩, 1, kc⟩]) := (rows_snoc vcF cs (⟨61, [], (nth t.fields j).tag, some ⟨kb, ko, none⟩, 1, kc⟩ : VC)).symm
          have hr2 : V.reps G1 (vs ++ [.nd 61 [] (nth t.fields j).tag [u1]]) (cs ++ [⟨61, [], (nth t.fields j).tag, some ⟨kb, ko, none⟩, 1, kc⟩]) := reps_snoc hrep (reps_mono hle hreps)
          have hvl : (vs ++ [V.nd 61 [] (nth t.fields j).tag [u1]]).length = vs.length + 1 := by simp
          have htu : V.tots (vs ++ [V.nd 61 [] (nth t.fields j).tag [u1]]) = V.tots vs + (20 + u1.tot) := by simp [tots_app, V.tots, V.tot]
          cases b1 with
          | true =>
            have hit2 : rdFlds (tyq qs) (rd (tyq qs) n) t m last t' vs = none := flds_none (hbd rfl)
            have cx_tm := c_take (G := G1) (r := r) (sc := sc) (s := t1) (l := [44]) (b := true) ⟨by omega, by simp⟩
            rw [tkT, tkST] at cx_tm
            repeat' (first | (refine run (t := tb) 400 rfl ?_ ?_; (focus (repeat' ((exact trivial))))) | (refine k_op rfl ?_; first | refine v_op (g_ld rfl rfl rfl) rfl rfl ?_ | (refine v_op (g_ldRF rfl rfl (by assumption) ?_ rfl rfl) rfl rfl ?_; (focus (((omega)); done))) | refine v_op (g_ldA rfl rfl rfl rfl) rfl rfl ?_ | refine c_st1 rfl rfl rfl rfl ?_ | refine c_stA rfl rfl rfl rfl rfl rfl ?_ | refine c_bsl rfl rfl rfl rfl rfl rfl fun _ => ?_ | (refine c_apX rfl rfl rfl rfl rfl rfl rfl rfl rfl ?_ fun _ _ => ?_; (focus ((omega); done))) | (refine c_m1g rfl rfl rfl cx_wb rfl ?_; rintro _ _ rfl; dsimp only [List.cons_append, List.nil_append]) | (refine c_m1g rfl rfl rfl cx_tm rfl ?_; rintro _ _ ⟨rfl, rfl⟩; dsimp only [List.cons_append, List.nil_append])) | (refine k_tt rfl ?_ ?_; (focus (((rfl)); done))) | (refine k_ff rfl ?_ ?_; (focus (((refine decide_eq_false ?_; (assumption))); done))) | (refine k_any (s_any (id := 9) _ (fun _ h => h) mixed ?_); refine x_tks (t := tb) (fuel := 23) [0] (bts 24 1) (by kernel_rfl) (by kernel_rfl) rfl rfl (by (exact Gh.le.refl _)) (by repeat ((exact List.Sublist.refl _))) ?_ ?_; (focus (repeat' ((exact trivial)))); ((refine (x_tkg (bts 24 3) 1 rfl (by kernel_rfl) rfl (by (exact Gh.le.refl _)) (by repeat ((exact List.Sublist.refl _)))) (g_peq0 rfl rfl) rfl rfl ?_)); refine x_tks (t := tb) (fuel := 21) [2] (bts 24 7) (by kernel_rfl) (by kernel_rfl) rfl rfl (by (exact Gh.le.refl _)) (by repeat ((exact List.Sublist.refl _))) ?_ ?_; (focus (repeat' ((exact trivial)))); (try ((refine Nx.re (d := 38) (v' := Bo false) rfl (congrArg Value.bool ?_) ?_; (focus (((rfl)); done))))); refine x_tks (t := tb) (fuel := 17) [3, 4, 5, 7] (bts 24 191) (by kernel_rfl) (by kernel_rfl) rfl rfl (by (exact Gh.le.refl _)) (by repeat ((exact List.Sublist.refl _))) ?_ ?_; (focus (repeat' ((exact trivial)))); ((refine (x_tkg (bts 24 255) 6 rfl (by kernel_rfl) rfl (by (exact Gh.le.refl _)) (by repeat ((exact List.Sublist.refl _)))) (g_ldRF rfl rfl (by assumption) ?_ rfl rfl) rfl rfl ?_; (focus (((omega)); done)))); refine x_tks (t := tb) (fuel := 15) [8] (bts 24 511) (by kernel_rfl) (by kernel_rfl) rfl rfl (by (exact Gh.le.refl _)) (by repeat ((exact List.Sublist.refl _))) ?_ ?_; (focus (repeat' ((exact trivial)))); ((refine (x_tkg (bts 24 1023) 9 rfl (by kernel_rfl) rfl (by (exact Gh.le.refl _)) (by repeat ((exact List.Sublist.refl _)))) (g_pickF rfl rfl ?_) rfl rfl ?_; (focus (((rfl)); done)))); refine x_tks (t := tb) (fuel := 13) [10] (bts 24 2047) (by kernel_rfl) (by kernel_rfl) rfl rfl (by (exact Gh.le.refl _)) (by repeat ((exact List.Sublist.refl _))) ?_ ?_; (focus (repeat' ((exact trivial)))); (try ((refine Nx.re (d := 46) (v' := Bo false) rfl (congrArg Value.bool ?_) ?_; (focus (((refine decide_eq_false ?_; (assumption))); done))))); refine x_tks (t := tb) (fuel := 8) [11, 16, 17, 18, 20] (bts 24 1511423) (by kernel_rfl) (by kernel_rfl) rfl rfl (by (exact Gh.le.refl _)) (by repeat ((exact List.Sublist.refl _))) ?_ ?_; (focus (repeat' ((exact trivial)))); ((refine (x_tkg (bts 24 1515519) 12 rfl (by kernel_rfl) rfl (by (exact Gh.le.refl _)) (by repeat ((exact List.Sublist.refl _)))) (g_ld rfl rfl rfl) rfl rfl ?_)); ((refine (x_tkg (bts 24 1523711) 13 rfl (by kernel_rfl) rfl (by (exact Gh.le.refl _)) (by repeat ((exact List.Sublist.refl _)))) (g_iaddr rfl rfl ?_) rfl rfl ?_; (focus ((omega); done)))); ((refine (x_tkg (bts 24 1540095) 14 rfl (by kernel_rfl) rfl (by (exact Gh.le.refl _)) (by repeat ((exact List.Sublist.refl _)))) (g_ldR rfl rfl (by assumption) ?_) rfl rfl ?_; (focus (((simp only [List.length_append, List.length_cons, List.length_nil, List.length_take]; omega)); done)))); ((refine (x_tkg (bts 24 2064383) 19 rfl (by kernel_rfl) rfl (by (exact Gh.le.refl _)) (by repeat ((exact List.Sublist.refl _)))) (g_ld rfl rfl rfl) rfl rfl ?_)); ((refine x_all [15] (by kernel_rfl) (by decide) ⟨?_, trivial⟩; refine x_opg rfl rfl ?_; ((refine c_rt rfl rfl rfl cx_pr rfl ?_)); refine x_ks (by (exact Gh.le.refl _)) (by repeat ((exact List.Sublist.refl _))) (listed' := (bts 24 2097151)) (by kernel_rfl) ?_)); ((refine x_all [21] (by kernel_rfl) (by decide) ⟨?_, trivial⟩; refine x_opg rfl rfl ?_; ((refine c_rt rfl rfl rfl cx_of rfl ?_)); refine x_ks (by (exact Gh.le.refl _)) (by repeat ((exact List.Sublist.refl _))) (listed' := (bts 24 4194303)) (by kernel_rfl) ?_)); refine x_tks (t := tb) (fuel := 1) [22] (bts 24 8388607) (by kernel_rfl) (by kernel_rfl) rfl rfl (by (exact Gh.le.refl _)) (by repeat ((exact List.Sublist.refl _))) ?_ ?_; (focus (repeat' ((exact trivial)))); ((refine (x_tkg (bts 24 16777215) 23 rfl (by kernel_rfl) rfl (by (exact Gh.le.refl _)) (by repeat ((exact List.Sublist.refl _)))) (g_pickF rfl rfl ?_) rfl rfl ?_; (focus (((rfl)); done)))); refine x_done (by kernel_rfl) (k_bk ?_)))
            rename_i _ y1 yc _
            rw [hrow]
            refine Nx.sealS (v := .slice (some ⟨y1, 0, none⟩) (vs.length + 1) yc) fun G2 hG2 hsl => ?_
            refine k_rr (vs := [_]) rfl ⟨rc_A rfl rfl rfl rfl, trivial⟩ rfl (by repeat (first | exact List.nil_sublist _ | apply List.Sublist.cons_cons)) ⟨hgl.trans hG2, .nd 82 [] 0 (vs ++ [.nd 61 [] (nth t.fields j).tag [u1]]), ⟨82, [], 0, some ⟨y1, 0, none⟩, vs.length + 1, yc⟩, t1, true, by rw [hso]; rfl, rep_mk (by decide) (by decide) (fun h => absurd h (by decide)) hvl.symm (by rw [List.length_append, List.length_singleton, hcl]; exact hsl) (reps_mono hG2 hr2), rfl, by simp only [List.length_cons]; omega, fun h => (by cases h), fun _ => ⟨.inr (by rw [hR, hit, hit2]; rfl), by rw [nd_tot, htu]; simp only [List.length_cons, List.length_nil]; omega⟩⟩
          | false =>
            have hst := flds_step (ts := tyq qs) (vs := vs) (last := last) (m := m) (hg rfl) (by omega)
            rw [if_neg hbrk] at hst
            have cx_tm := c_take (G := G1) (r := r) (sc := sc) (s := t1) (l := [44]) (b := false) ⟨by omega, by simp⟩
            clear cx_wb
            have cx_wb := c_want (G := G1) (r := r) (sc := sc) (s := t1) (l := [125]) (b := false) ⟨by omega, by simp⟩
            cases ht3 : tkR [44] t1 false with
            | true =>
              obtain ⟨t2, rfl⟩ := tk1.1 ht3
              rw [ht3, tk1S] at cx_tm
              simp only [List.length_cons] at htl hto
              dsimp only at hst
              rw [if_pos (show (44 : UInt8).toNat = 44 from rfl)] at hst
              have hlt : t2.length < m - 1 := by omega
              repeat' (first | (refine run (t := tb) 400 rfl ?_ ?_; (focus (repeat' ((exact trivial))))) | (refine k_op rfl ?_; first | refine v_op (g_ld rfl rfl rfl) rfl rfl ?_ | (refine v_op (g_ldRF rfl rfl (by assumption) ?_ rfl rfl) rfl rfl ?_; (focus (((omega)); done))) | refine v_op (g_ldA rfl rfl rfl rfl) rfl rfl ?_ | refine c_st1 rfl rfl rfl rfl ?_ | refine c_bsl rfl rfl rfl rfl rfl rfl fun _ => ?_ | (refine c_apX rfl rfl rfl rfl rfl rfl rfl rfl rfl ?_ fun _ _ => ?_; (focus ((omega); done))) | (refine c_m1g rfl rfl rfl cx_tm rfl ?_; rintro _ _ ⟨rfl, rfl⟩; dsimp only [List.cons_append, List.nil_append])) | (refine k_ff rfl ?_ ?_; (focus ((first | rfl | (refine decide_eq_false ?_; (assumption))); done))) | (refine k_any (s_any (id := 9) _ (fun _ h => h) mixed ?_); refine x_tks (t := tb) (fuel := 23) [0] (bts 24 1) (by kernel_rfl) (by kernel_rfl) rfl rfl (by (exact Gh.le.refl _)) (by repeat ((exact List.Sublist.refl _))) ?_ ?_; (focus (repeat' ((exact trivial)))); ((refine (x_tkg (bts 24 3) 1 rfl (by kernel_rfl) rfl (by (exact Gh.le.refl _)) (by repeat ((exact List.Sublist.refl _)))) (g_peq0 rfl rfl) rfl rfl ?_)); refine x_tks (t := tb) (fuel := 21) [2] (bts 24 7) (by kernel_rfl) (by kernel_rfl) rfl rfl (by (exact Gh.le.refl _)) (by repeat ((exact List.Sublist.refl _))) ?_ ?_; (focus (repeat' ((exact trivial)))); (try ((refine Nx.re (d := 38) (v' := Bo false) rfl (congrArg Value.bool ?_) ?_; (focus (((rfl)); done))))); refine x_tks (t := tb) (fuel := 17) [3, 4, 5, 7] (bts 24 191) (by kernel_rfl) (by kernel_rfl) rfl rfl (by (exact Gh.le.refl _)) (by repeat ((exact List.Sublist.refl _))) ?_ ?_; (focus (repeat' ((exact trivial)))); ((refine (x_tkg (bts 24 255) 6 rfl (by kernel_rfl) rfl (by (exact Gh.le.refl _)) (by repeat ((exact List.Sublist.refl _)))) (g_ldRF rfl rfl (by assumption) ?_ rfl rfl) rfl rfl ?_; (focus (((omega)); done)))); refine x_tks (t := tb) (fuel := 15) [8] (bts 24 511) (by kernel_rfl) (by kernel_rfl) rfl rfl (by (exact Gh.le.refl _)) (by repeat ((exact List.Sublist.refl _))) ?_ ?_; (focus (repeat' ((exact trivial)))); ((refine (x_tkg (bts 24 1023) 9 rfl (by kernel_rfl) rfl (by (exact Gh.le.refl _)) (by repeat ((exact List.Sublist.refl _)))) (g_pickF rfl rfl ?_) rfl rfl ?_; (focus (((rfl)); done)))); refine x_tks (t := tb) (fuel := 13) [10] (bts 24 2047) (by kernel_rfl) (by kernel_rfl) rfl rfl (by (exact Gh.le.refl _)) (by repeat ((exact List.Sublist.refl _))) ?_ ?_; (focus (repeat' ((exact trivial)))); (try ((refine Nx.re (d := 46) (v' := Bo false) rfl (congrArg Value.bool ?_) ?_; (focus (((refine decide_eq_false ?_; (assumption))); done))))); refine x_tks (t := tb) (fuel := 8) [11, 16, 17, 18, 20] (bts 24 1511423) (by kernel_rfl) (by kernel_rfl) rfl rfl (by (exact Gh.le.refl _)) (by repeat ((exact List.Sublist.refl _))) ?_ ?_; (focus (repeat' ((exact trivial)))); ((refine (x_tkg (bts 24 1515519) 12 rfl (by kernel_rfl) rfl (by (exact Gh.le.refl _)) (by repeat ((exact List.Sublist.refl _)))) (g_ld rfl rfl rfl) rfl rfl ?_)); ((refine (x_tkg (bts 24 1523711) 13 rfl (by kernel_rfl) rfl (by (exact Gh.le.refl _)) (by repeat ((exact List.Sublist.refl _)))) (g_iaddr rfl rfl ?_) rfl rfl ?_; (focus ((omega); done)))); ((refine (x_tkg (bts 24 1540095) 14 rfl (by kernel_rfl) rfl (by (exact Gh.le.refl _)) (by repeat ((exact List.Sublist.refl _)))) (g_ldR rfl rfl (by assumption) ?_) rfl rfl ?_; (focus (((simp only [List.length_append, List.length_cons, List.length_nil, List.length_take]; omega)); done)))); ((refine (x_tkg (bts 24 2064383) 19 rfl (by kernel_rfl) rfl (by (exact Gh.le.refl _)) (by repeat ((exact List.Sublist.refl _)))) (g_ld rfl rfl rfl) rfl rfl ?_)); ((refine x_all [15] (by kernel_rfl) (by decide) ⟨?_, trivial⟩; refine x_opg rfl rfl ?_; ((refine c_rt rfl rfl rfl cx_pr rfl ?_)); refine x_ks (by (exact Gh.le.refl _)) (by repeat ((exact List.Sublist.refl _))) (listed' := (bts 24 2097151)) (by kernel_rfl) ?_)); ((refine x_all [21] (by kernel_rfl) (by decide) ⟨?_, trivial⟩; refine x_opg rfl rfl ?_; ((refine c_rt rfl rfl rfl cx_of rfl ?_)); refine x_ks (by (exact Gh.le.refl _)) (by repeat ((exact List.Sublist.refl _))) (listed' := (bts 24 4194303)) (by kernel_rfl) ?_)); refine x_tks (t := tb) (fuel := 1) [22] (bts 24 8388607) (by kernel_rfl) (by kernel_rfl) rfl rfl (by (exact Gh.le.refl _)) (by repeat ((exact List.Sublist.refl _))) ?_ ?_; (focus (repeat' ((exact trivial)))); ((refine (x_tkg (bts 24 16777215) 23 rfl (by kernel_rfl) rfl (by (exact Gh.le.refl _)) (by repeat ((exact List.Sublist.refl _)))) (g_pickF rfl rfl ?_) rfl rfl ?_; (focus (((rfl)); done)))); refine x_done (by kernel_rfl) (k_bk ?_)))
              rename_i _ y1 yc
              rw [hrow]
              exact k_rd (vs ++ [.nd 61 [] (nth t.fields j).tag [u1]], cs ++ [⟨61, [], (nth t.fields j).tag, some ⟨kb, ko, none⟩, 1, kc⟩], some ⟨y1, 0, none⟩, yc, t2, m - 1, (nth t.fields j).tag, G1) ⟨⟨hr2, hgl⟩, ⟨by rw [hit, hst], hlt⟩, by dsimp only; omega, by dsimp only; omega⟩ (by dsimp only; omega) (by repeat (first | exact trivial | refine ⟨rfl, ?_⟩)) rfl (by rw [hvl]; repeat (first | exact List.Sublist.refl _ | apply List.Sublist.cons_cons | apply List.Sublist.cons))
            | false =>
              rw [ht3, tkSF ht3] at cx_tm
              cases ht4 : tkR [125] t1 false with
              | true =>
                obtain ⟨t2, rfl⟩ := tk1.1 ht4
                rw [ht4, tk1S, Bool.not_true] at cx_wb
                simp only [List.length_cons] at htl hto
                dsimp only at hst
                rw [if_neg (show ¬ (125 : UInt8).toNat = 44 by decide), if_pos (show (125 : UInt8).toNat = 125 from rfl)] at hst
                have hit2 := hst
                repeat' (first | (refine run (t := tb) 400 rfl ?_ ?_; (focus (repeat' ((exact trivial))))) | (refine k_op rfl ?_; first | refine v_op (g_ld rfl rfl rfl) rfl rfl ?_ | (refine v_op (g_ldRF rfl rfl (by assumption) ?_ rfl rfl) rfl rfl ?_; (focus (((omega)); done))) | refine v_op (g_ldA rfl rfl rfl rfl) rfl rfl ?_ | refine c_st1 rfl rfl rfl rfl ?_ | refine c_stA rfl rfl rfl rfl rfl rfl ?_ | refine c_bsl rfl rfl rfl rfl rfl rfl fun _ => ?_ | (refine c_apX rfl rfl rfl rfl rfl rfl rfl rfl rfl ?_ fun _ _ => ?_; (focus ((omega); done))) | (refine c_m1g rfl rfl rfl cx_wb rfl ?_; rintro _ _ rfl; dsimp only [List.cons_append, List.nil_append]) | (refine c_m1g rfl rfl rfl cx_tm rfl ?_; rintro _ _ ⟨rfl, rfl⟩; dsimp only [List.cons_append, List.nil_append])) | (refine k_tt rfl ?_ ?_; (focus (((rfl)); done))) | (refine k_ff rfl ?_ ?_; (focus (((refine decide_eq_false ?_; (assumption))); done))) | (refine k_any (s_any (id := 9) _ (fun _ h => h) mixed ?_); refine x_tks (t := tb) (fuel := 23) [0] (bts 24 1) (by kernel_rfl) (by kernel_rfl) rfl rfl (by (exact Gh.le.refl _)) (by repeat ((exact List.Sublist.refl _))) ?_ ?_; (focus (repeat' ((exact trivial)))); ((refine (x_tkg (bts 24 3) 1 rfl (by kernel_rfl) rfl (by (exact Gh.le.refl _)) (by repeat ((exact List.Sublist.refl _)))) (g_peq0 rfl rfl) rfl rfl ?_)); refine x_tks (t := tb) (fuel := 21) [2] (bts 24 7) (by kernel_rfl) (by kernel_rfl) rfl rfl (by (exact Gh.le.refl _)) (by repeat ((exact List.Sublist.refl _))) ?_ ?_; (focus (repeat' ((exact trivial)))); (try ((refine Nx.re (d := 38) (v' := Bo false) rfl (congrArg Value.bool ?_) ?_; (focus (((rfl)); done))))); refine x_tks (t := tb) (fuel := 17) [3, 4, 5, 7] (bts 24 191) (by kernel_rfl) (by kernel_rfl) rfl rfl (by (exact Gh.le.refl _)) (by repeat ((exact List.Sublist.refl _))) ?_ ?_; (focus (repeat' ((exact trivial)))); ((refine (x_tkg (bts 24 255) 6 rfl (by kernel_rfl) rfl (by (exact Gh.le.refl _)) (by repeat ((exact List.Sublist.refl _)))) (g_ldRF rfl rfl (by assumption) ?_ rfl rfl) rfl rfl ?_; (focus (((omega)); done)))); refine x_tks (t := tb) (fuel := 15) [8] (bts 24 511) (by kernel_rfl) (by kernel_rfl) rfl rfl (by (exact Gh.le.refl _)) (by repeat ((exact List.Sublist.refl _))) ?_ ?_; (focus (repeat' ((exact trivial)))); ((refine (x_tkg (bts 24 1023) 9 rfl (by kernel_rfl) rfl (by (exact Gh.le.refl _)) (by repeat ((exact List.Sublist.refl _)))) (g_pickF rfl rfl ?_) rfl rfl ?_; (focus (((rfl)); done)))); refine x_tks (t := tb) (fuel := 13) [10] (bts 24 2047) (by kernel_rfl) (by kernel_rfl) rfl rfl (by (exact Gh.le.refl _)) (by repeat ((exact List.Sublist.refl _))) ?_ ?_; (focus (repeat' ((exact trivial)))); (try ((refine Nx.re (d := 46) (v' := Bo false) rfl (congrArg Value.bool ?_) ?_; (focus (((refine decide_eq_false ?_; (assumption))); done))))); refine x_tks (t := tb) (fuel := 8) [11, 16, 17, 18, 20] (bts 24 1511423) (by kernel_rfl) (by kernel_rfl) rfl rfl (by (exact Gh.le.refl _)) (by repeat ((exact List.Sublist.refl _))) ?_ ?_; (focus (repeat' ((exact trivial)))); ((refine (x_tkg (bts 24 1515519) 12 rfl (by kernel_rfl) rfl (by (exact Gh.le.refl _)) (by repeat ((exact List.Sublist.refl _)))) (g_ld rfl rfl rfl) rfl rfl ?_)); ((refine (x_tkg (bts 24 1523711) 13 rfl (by kernel_rfl) rfl (by (exact Gh.le.refl _)) (by repeat ((exact List.Sublist.refl _)))) (g_iaddr rfl rfl ?_) rfl rfl ?_; (focus ((omega); done)))); ((refine (x_tkg (bts 24 1540095) 14 rfl (by kernel_rfl) rfl (by (exact Gh.le.refl _)) (by repeat ((exact List.Sublist.refl _)))) (g_ldR rfl rfl (by assumption) ?_) rfl rfl ?_; (focus (((simp only [List.length_append, List.length_cons, List.length_nil, List.length_take]; omega)); done)))); ((refine (x_tkg (bts 24 2064383) 19 rfl (by kernel_rfl) rfl (by (exact Gh.le.refl _)) (by repeat ((exact List.Sublist.refl _)))) (g_ld rfl rfl rfl) rfl rfl ?_)); ((refine x_all [15] (by kernel_rfl) (by decide) ⟨?_, trivial⟩; refine x_opg rfl rfl ?_; ((refine c_rt rfl rfl rfl cx_pr rfl ?_)); refine x_ks (by (exact Gh.le.refl _)) (by repeat ((exact List.Sublist.refl _))) (listed' := (bts 24 2097151)) (by kernel_rfl) ?_)); ((refine x_all [21] (by kernel_rfl) (by decide) ⟨?_, trivial⟩; refine x_opg rfl rfl ?_; ((refine c_rt rfl rfl rfl cx_of rfl ?_)); refine x_ks (by (exact Gh.le.refl _)) (by repeat ((exact List.Sublist.refl _))) (listed' := (bts 24 4194303)) (by kernel_rfl) ?_)); refine x_tks (t := tb) (fuel := 1) [22] (bts 24 8388607) (by kernel_rfl) (by kernel_rfl) rfl rfl (by (exact Gh.le.refl _)) (by repeat ((exact List.Sublist.refl _))) ?_ ?_; (focus (repeat' ((exact trivial)))); ((refine (x_tkg (bts 24 16777215) 23 rfl (by kernel_rfl) rfl (by (exact Gh.le.refl _)) (by repeat ((exact List.Sublist.refl _)))) (g_pickF rfl rfl ?_) rfl rfl ?_; (focus (((rfl)); done)))); refine x_done (by kernel_rfl) (k_bk ?_)))
                rename_i _ y1 yc _
                rw [hrow]
                refine Nx.sealS (v := .slice (some ⟨y1, 0, none⟩) (vs.length + 1) yc) fun G2 hG2 hsl => ?_
                refine k_rr (vs := [_]) rfl ⟨rc_A rfl rfl rfl rfl, trivial⟩ rfl (by repeat (first | exact List.nil_sublist _ | apply List.Sublist.cons_cons)) ⟨hgl.trans hG2, .nd 82 [] 0 (vs ++ [.nd 61 [] (nth t.fields j).tag [u1]]), ⟨82, [], 0, some ⟨y1, 0, none⟩, vs.length + 1, yc⟩, t2, false, by rw [hso]; rfl, rep_mk (by decide) (by decide) (fun h => absurd h (by decide)) hvl.symm (by rw [List.length_append, List.length_singleton, hcl]; exact hsl) (reps_mono hG2 hr2), rfl, by simp only [List.length_cons]; omega, fun _ => ⟨rfl, by rw [hR, hit, hit2]; rfl⟩, fun h => (by cases h)⟩
              | false =>
                rw [ht4, tkSF ht4, Bool.not_false] at cx_wb
                have hit2 : rdFlds (tyq qs) (rd (tyq qs) n) t m last t' vs = none := by
                  rw [hst]
                  cases t1 with
                  | nil => rfl
                  | cons e t2 =>
                    dsimp only
                    rw [if_neg, if_neg]
                    · intro h
                      exact tk_no ht4 t2 (by rw [show e = 125 from UInt8.toNat_inj.1 h])
                    · intro h
                      exact tk_no ht3 t2 (by rw [show e = 44 from UInt8.toNat_inj.1 h])
                repeat' (first | (refine run (t := tb) 400 rfl ?_ ?_; (focus (repeat' ((exact trivial))))) | (refine k_op rfl ?_; first | refine v_op (g_ld rfl rfl rfl) rfl rfl ?_ | (refine v_op (g_ldRF rfl rfl (by assumption) ?_ rfl rfl) rfl rfl ?_; (focus (((omega)); done))) | refine v_op (g_ldA rfl rfl rfl rfl) rfl rfl ?_ | refine c_st1 rfl rfl rfl rfl ?_ | refine c_stA rfl rfl rfl rfl rfl rfl ?_ | refine c_bsl rfl rfl rfl rfl rfl rfl fun _ => ?_ | (refine c_apX rfl rfl rfl rfl rfl rfl rfl rfl rfl ?_ fun _ _ => ?_; (focus ((omega); done))) | (refine c_m1g rfl rfl rfl cx_wb rfl ?_; rintro _ _ rfl; dsimp only [List.cons_append, List.nil_append]) | (refine c_m1g rfl rfl rfl cx_tm rfl ?_; rintro _ _ ⟨rfl, rfl⟩; dsimp only [List.cons_append, List.nil_append])) | (refine k_tt rfl ?_ ?_; (focus (((rfl)); done))) | (refine k_ff rfl ?_ ?_; (focus (((refine decide_eq_false ?_; (assumption))); done))) | (refine k_any (s_any (id := 9) _ (fun _ h => h) mixed ?_); refine x_tks (t := tb) (fuel := 23) [0] (bts 24 1) (by kernel_rfl) (by kernel_rfl) rfl rfl (by (exact Gh.le.refl _)) (by repeat ((exact List.Sublist.refl _))) ?_ ?_; (focus (repeat' ((exact trivial)))); ((refine (x_tkg (bts 24 3) 1 rfl (by kernel_rfl) rfl (by (exact Gh.le.refl _)) (by repeat ((exact List.Sublist.refl _)))) (g_peq0 rfl rfl) rfl rfl ?_)); refine x_tks (t := tb) (fuel := 21) [2] (bts 24 7) (by kernel_rfl) (by kernel_rfl) rfl rfl (by (exact Gh.le.refl _)) (by repeat ((exact List.Sublist.refl _))) ?_ ?_; (focus (repeat' ((exact trivial)))); (try ((refine Nx.re (d := 38) (v' := Bo false) rfl (congrArg Value.bool ?_) ?_; (focus (((rfl)); done))))); refine x_tks (t := tb) (fuel := 17) [3, 4, 5, 7] (bts 24 191) (by kernel_rfl) (by kernel_rfl) rfl rfl (by (exact Gh.le.refl _)) (by repeat ((exact List.Sublist.refl _))) ?_ ?_; (focus (repeat' ((exact trivial)))); ((refine (x_tkg (bts 24 255) 6 rfl (by kernel_rfl) rfl (by (exact Gh.le.refl _)) (by repeat ((exact List.Sublist.refl _)))) (g_ldRF rfl rfl (by assumption) ?_ rfl rfl) rfl rfl ?_; (focus (((omega)); done)))); refine x_tks (t := tb) (fuel := 15) [8] (bts 24 511) (by kernel_rfl) (by kernel_rfl) rfl rfl (by (exact Gh.le.refl _)) (by repeat ((exact List.Sublist.refl _))) ?_ ?_; (focus (repeat' ((exact trivial)))); ((refine (x_tkg (bts 24 1023) 9 rfl (by kernel_rfl) rfl (by (exact Gh.le.refl _)) (by repeat ((exact List.Sublist.refl _)))) (g_pickF rfl rfl ?_) rfl rfl ?_; (focus (((rfl)); done)))); refine x_tks (t := tb) (fuel := 13) [10] (bts 24 2047) (by kernel_rfl) (by kernel_rfl) rfl rfl (by (exact Gh.le.refl _)) (by repeat ((exact List.Sublist.refl _))) ?_ ?_; (focus (repeat' ((exact trivial)))); (try ((refine Nx.re (d := 46) (v' := Bo false) rfl (congrArg Value.bool ?_) ?_; (focus (((refine decide_eq_false ?_; (assumption))); done))))); refine x_tks (t := tb) (fuel := 8) [11, 16, 17, 18, 20] (bts 24 1511423) (by kernel_rfl) (by kernel_rfl) rfl rfl (by (exact Gh.le.refl _)) (by repeat ((exact List.Sublist.refl _))) ?_ ?_; (focus (repeat' ((exact trivial)))); ((refine (x_tkg (bts 24 1515519) 12 rfl (by kernel_rfl) rfl (by (exact Gh.le.refl _)) (by repeat ((exact List.Sublist.refl _)))) (g_ld rfl rfl rfl) rfl rfl ?_)); ((refine (x_tkg (bts 24 1523711) 13 rfl (by kernel_rfl) rfl (by (exact Gh.le.refl _)) (by repeat ((exact List.Sublist.refl _)))) (g_iaddr rfl rfl ?_) rfl rfl ?_; (focus ((omega); done)))); ((refine (x_tkg (bts 24 1540095) 14 rfl (by kernel_rfl) rfl (by (exact Gh.le.refl _)) (by repeat ((exact List.Sublist.refl _)))) (g_ldR rfl rfl (by assumption) ?_) rfl rfl ?_; (focus (((simp only [List.length_append, List.length_cons, List.length_nil, List.length_take]; omega)); done)))); ((refine (x_tkg (bts 24 2064383) 19 rfl (by kernel_rfl) rfl (by (exact Gh.le.refl _)) (by repeat ((exact List.Sublist.refl _)))) (g_ld rfl rfl rfl) rfl rfl ?_)); ((refine x_all [15] (by kernel_rfl) (by decide) ⟨?_, trivial⟩; refine x_opg rfl rfl ?_; ((refine c_rt rfl rfl rfl cx_pr rfl ?_)); refine x_ks (by (exact Gh.le.refl _)) (by repeat ((exact List.Sublist.refl _))) (listed' := (bts 24 2097151)) (by kernel_rfl) ?_)); ((refine x_all [21] (by kernel_rfl) (by decide) ⟨?_, trivial⟩; refine x_opg rfl rfl ?_; ((refine c_rt rfl rfl rfl cx_of rfl ?_)); refine x_ks (by (exact Gh.le.refl _)) (by repeat ((exact List.Sublist.refl _))) (listed' := (bts 24 4194303)) (by kernel_rfl) ?_)); refine x_tks (t := tb) (fuel := 1) [22] (bts 24 8388607) (by kernel_rfl) (by kernel_rfl) rfl rfl (by (exact Gh.le.refl _)) (by repeat ((exact List.Sublist.refl _))) ?_ ?_; (focus (repeat' ((exact trivial)))); ((refine (x_tkg (bts 24 16777215) 23 rfl (by kernel_rfl) rfl (by (exact Gh.le.refl _)) (by repeat ((exact List.Sublist.refl _)))) (g_pickF rfl rfl ?_) rfl rfl ?_; (focus (((rfl)); done)))); refine x_done (by kernel_rfl) (k_bk ?_)))
                rename_i _ y1 yc _
                rw [hrow]
                refine Nx.sealS (v := .slice (some ⟨y1, 0, none⟩) (vs.length + 1) yc) fun G2 hG2 hsl => ?_
                refine k_rr (vs := [_]) rfl ⟨rc_A rfl rfl rfl rfl, trivial⟩ rfl (by repeat (first | exact List.nil_sublist _ | apply List.Sublist.cons_cons)) ⟨hgl.trans hG2, .nd 82 [] 0 (vs ++ [.nd 61 [] (nth t.fields j).tag [u1]]), ⟨82, [], 0, some ⟨y1, 0, none⟩, vs.length + 1, yc⟩, t1, true, by rw [hso]; rfl, rep_mk (by decide) (by decide) (fun h => absurd h (by decide)) hvl.symm (by rw [List.length_append, List.length_singleton, hcl]; exact hsl) (reps_mono hG2 hr2), rfl, by simp only [List.length_cons]; omega, fun h => (by cases h), fun _ => ⟨.inr (by rw [hR, hit, hit2]; rfl), by rw [nd_tot, htu]; simp only [List.length_cons, List.length_nil]; omega⟩⟩
end Go.E
/-! Wl -/
namespace Go.E
set_option maxRecDepth 20000
set_option maxHeartbeats 2000000
open Go.Proofs
variable {G : Gh}
theorem c_part {c : UInt8} {a b d : List UInt8} : PuG Tryz.prog 46 [Ag [S (c :: a), S b, S d]] G (· = Ag [S a, S b, S d]) := by
  refine p_enter [(0, _)] Tryz.func46 (by kernel_rfl) Tryz.ntmps46 rfl rfl (by repeat (first | exact trivial | refine ⟨rfl, ?_⟩)) fun B hB => ?_
  repeat' (first | (refine run (t := tb) 400 rfl ?_ ?_; (focus (repeat' (first | exact trivial | apply And.intro | omega | (simp only [List.length_append, List.length_cons, List.length_nil, Int.toNat_natCast]; omega))))) | (refine k_op rfl ?_; first | refine c_bx rfl rfl rfl fun _ => ?_ | refine c_al rfl rfl fun _ => ?_ | refine v_op (g_ld rfl rfl rfl) rfl rfl ?_ | refine v_op (g_ldA rfl rfl rfl rfl) rfl rfl ?_ | refine c_st1 rfl rfl rfl rfl ?_ | refine c_stA rfl rfl rfl rfl rfl rfl ?_))
  refine k_rr (vs := [_]) rfl ⟨rc_A rfl rfl rfl rfl, trivial⟩ rfl (List.nil_sublist _) ⟨rfl, rfl, ?_⟩
  rfl
theorem kdF_cons {c : UInt8} {k : List UInt8} (h : c.toNat = 91 ∨ c.toNat = 63) : sg (c :: k) = c :: sg k ∧ bs (c :: k) = bs k ∧ nm (c :: k) = nm k ∧ core (c :: k) = core k := by
  have hc : core (c :: k) = core k := by rw [core, if_pos h]
  exact ⟨sg_cons h, by unfold bs; rw [hc], by unfold nm; rw [hc], hc⟩
theorem kindIn_tail {ts : List Ty} {c : UInt8} {k : List UInt8} (hc : c.toNat = 91 ∨ c.toNat = 63) (h : kindIn ts (c :: k) = true) : kindIn ts k = true := by
  unfold kindIn at h ⊢
  simp only [Bool.and_eq_true] at h ⊢
  obtain ⟨h1, h2⟩ := h
  refine ⟨?_, ?_⟩
  · unfold kindOk at h1 ⊢
    simp only [Bool.and_eq_true, decide_eq_true_eq, List.length_cons] at h1 ⊢
    refine ⟨by omega, ?_⟩
    have := h1.2
    rw [kOk, if_pos hc] at this
    exact this
  · unfold hasK at h2 ⊢
    rw [(kdF_cons hc).2.2.2] at h2
    exact h2
theorem rdK_list {ts : List Ty} {f : List UInt8 → List UInt8 → Option (V × List UInt8)} {c : UInt8} {k s : List UInt8} (hc : c.toNat = 91) : rdK ts f (c :: k) s = rdList (f k) s := by
  unfold rdK rdList
  dsimp only
  rw [if_pos hc]
  cases s <;> rfl
theorem c_valBad {r sc : Nat} {k s : List UInt8} : FnG Tryz.prog 25 [Pt r 0, Ag [S (sg k), S (bs k), S (nm k)]] G [scO r sc s true] (fun v L' => v = zP ∧ L' = [scO r sc s true]) := by
  refine g_enter [(0, _), (1, _)] Tryz.func25 (by kernel_rfl) Tryz.ntmps25 rfl rfl (by repeat (first | exact trivial | refine ⟨rfl, ?_⟩)) fun B hB hW => ?_
  repeat' (first | (refine run (t := tb) 400 rfl ?_ ?_; (focus (repeat' ((exact trivial))))) | (refine k_op rfl ?_; first | refine c_bx rfl rfl rfl fun _ => ?_ | refine c_al rfl rfl fun _ => ?_ | refine v_op (g_ld rfl rfl rfl) rfl rfl ?_ | refine v_op (g_bld rfl rfl) rfl rfl ?_ | refine c_stA rfl rfl rfl rfl rfl rfl ?_) | (refine k_tt rfl ?_ ?_; (focus (((rfl)); done))))
  refine k_rr (vs := [_]) rfl ⟨rc_A rfl rfl rfl rfl, trivial⟩ rfl (by repeat (first | exact List.Sublist.refl _ | apply List.Sublist.cons)) ⟨rfl, rfl, rfl⟩
theorem FnG.toM {P : Program} {f : FuncId} {args : List Value} {L : List Own} {R : Value → List Own → Prop} {R' : Value → Gh → List Own → Prop} (h : FnG P f args G L R) (hr : ∀ v L', R v L' → R' v G L') : FnM P f args G L R' :=
  Fn.mono h fun v G' L' h2 => ⟨h2.1 ▸ Gh.le.refl _, h2.1 ▸ hr v L' h2.2⟩
theorem rep_zero : V.rep G (.nd 0 [] 0 []) ⟨0, [], 0, none, 0, 0⟩ := rep_leaf (by decide) (by decide)
/-- An option. -/
theorem c_valO {n r sc : Nat} {qs : List TyP} {c : UInt8} {k s : List UInt8} (hc : c = 63) (hV : ValC n sc qs) (hS : ScI G sc qs) (hk : kindIn (tyq qs) (c :: k) = true) (hs : s.length < n + 1 ∧ s.length ≤ 1000) :
    FnM Tryz.prog 25 [Pt r 0, Ag (kdF (c :: k))] G [scO r sc s false] (ValP (rd (tyq qs) (n + 1) (c :: k)) r sc s false) := by
  subst hc
  have hk2 := kindIn_tail (.inr rfl) hk
  obtain ⟨e1, e2, e3, _⟩ := kdF_cons (c := 63) (k := k) (.inr rfl)
  have hrd : rd (tyq qs) (n + 1) (63 :: k) s = match s with
      | [] => none
      | d :: s' => if d.toNat = 45 then some (.nd 63 [] 0 [], s') else if d.toNat = 43 then (rd (tyq qs) n k s').map fun x => (.nd 63 [] 0 [x.1], x.2) else none := by
    rw [rd]; unfold rdK
    dsimp only
    rw [if_neg (show ¬ (63 : UInt8).toNat = 91 by decide), if_pos (show (63 : UInt8).toNat = 63 from rfl)]
    cases s <;> rfl
  unfold kdF
  rw [e1, e2, e3]
  have cx_sign := @c_sign1 G 63 (sg k) (bs k) (nm k)
  have cx_pt := @c_part G 63 (sg k) (bs k) (nm k)
  have cx_tk := c_take (G := G) (r := r) (sc := sc) (s := s) (l := [45]) (b := false) ⟨by omega, by simp⟩
  have cx_wa := c_want (G := G) (r := r) (sc := sc) (s := s) (l := [43]) (b := false) ⟨by omega, by simp⟩
  cases ht : tkR [45] s false with
  | true =>
    obtain ⟨s1, rfl⟩ := tk1.1 ht
    rw [ht, tk1S] at cx_tk
    dsimp only at hrd
    rw [if_pos (show (45 : UInt8).toNat = 45 from rfl)] at hrd
    refine m_enter [(0, _), (1, _)] Tryz.func25 (by kernel_rfl) Tryz.ntmps25 rfl rfl (by repeat (first | exact trivial | refine ⟨rfl, ?_⟩)) fun B hB hW => ?_
    repeat' (first | (refine run (t := tb) 400 rfl ?_ ?_; (focus (repeat' ((exact trivial))))) | (refine k_op rfl ?_; first | refine c_bx rfl rfl rfl fun _ => ?_ | refine c_al rfl rfl fun _ => ?_ | refine v_op (g_ld rfl rfl rfl) rfl rfl ?_ | refine v_op (g_ldA rfl rfl rfl rfl) rfl rfl ?_ | refine v_op (g_bld rfl rfl) rfl rfl ?_ | refine c_stA rfl rfl rfl rfl rfl rfl ?_ | (refine c_rt rfl rfl rfl cx_sign rfl ?_) | (refine c_m1g rfl rfl rfl cx_tk rfl ?_; rintro _ _ ⟨rfl, rfl⟩; dsimp only [List.cons_append, List.nil_append])) | (refine k_tt rfl ?_ ?_; (focus (((rfl)); done))) | (refine k_ff rfl ?_ ?_; (focus (((rfl)); done))))
    refine k_rr (vs := [_]) rfl ⟨rc_A rfl rfl rfl rfl, trivial⟩ rfl (by repeat (first | exact List.nil_sublist _ | apply List.Sublist.cons_cons)) ⟨Gh.le.refl _, .nd 63 [] 0 [], ⟨63, [], 0, none, 0, 0⟩, s1, false, rfl, rep_leaf (by decide) (by decide), rfl, by simp only [List.length_cons]; omega, fun _ => ⟨rfl, hrd⟩, fun h => (by cases h)⟩
  | false =>
    rw [ht, tkSF ht] at cx_tk
    cases ht2 : tkR [43] s false with
    | false =>
      rw [ht2, tkSF ht2, Bool.not_false] at cx_wa
      have hno : rd (tyq qs) (n + 1) (63 :: k) s = none := by
        rw [hrd]
        cases s with
        | nil => rfl
        | cons d s' =>
          dsimp only
          rw [if_neg, if_neg]
          · intro h; exact tk_no ht2 s' (by rw [show d = 43 from UInt8.toNat_inj.1 h])
          · intro h; exact tk_no ht s' (by rw [show d = 45 from UInt8.toNat_inj.1 h])
      refine m_enter [(0, _), (1, _)] Tryz.func25 (by kernel_rfl) Tryz.ntmps25 rfl rfl (by repeat (first | exact trivial | refine ⟨rfl, ?_⟩)) fun B hB hW => ?_
      repeat' (first | (refine run (t := tb) 400 rfl ?_ ?_; (focus (repeat' ((exact trivial))))) | (refine k_op rfl ?_; first | refine c_bx rfl rfl rfl fun _ => ?_ | refine c_al rfl rfl fun _ => ?_ | refine v_op (g_ld rfl rfl rfl) rfl rfl ?_ | refine v_op (g_ldA rfl rfl rfl rfl) rfl rfl ?_ | (refine c_rt rfl rfl rfl cx_sign rfl ?_) | (refine c_rt rfl rfl rfl cx_pt rfl ?_) | (refine c_m1g rfl rfl rfl cx_tk rfl ?_; rintro _ _ ⟨rfl, rfl⟩; dsimp only [List.cons_append, List.nil_append]) | (refine c_m1g rfl rfl rfl cx_wa rfl ?_; rintro _ _ rfl; dsimp only [List.cons_append, List.nil_append])) | (refine k_tt rfl ?_ ?_; (focus (((rfl)); done))) | (refine k_ff rfl ?_ ?_; (focus (((rfl)); done))))
      refine k_op rfl ?_
      refine c_m1g rfl rfl rfl c_valBad rfl ?_
      rintro _ _ ⟨rfl, rfl⟩
      dsimp only [List.cons_append, List.nil_append]
      repeat' (first | (refine run (t := tb) 400 rfl ?_ ?_; (focus (repeat' ((exact trivial))))) | (refine k_op rfl ?_; first | refine v_op (g_bld rfl rfl) rfl rfl ?_ | refine c_stA rfl rfl rfl rfl rfl rfl ?_ | refine c_bsl rfl rfl rfl rfl rfl rfl fun _ => ?_))
      rename_i y
      refine Nx.sealC (b := y) fun G2 hG2 hsy => ?_
      have hsl : SlV G2 (.slice (some ⟨y, 0, none⟩) 1 1) 4 ([⟨0, [], 0, none, 0, 0⟩] : List VC).length (rows vcF [⟨0, [], 0, none, 0, 0⟩]) := ⟨rfl, .inr ⟨y, 0, 1, rfl, Nat.le_refl _, hsy⟩⟩
      refine k_rr (vs := [_]) rfl ⟨rc_A rfl rfl rfl rfl, trivial⟩ rfl (by repeat (first | exact List.nil_sublist _ | apply List.Sublist.cons_cons)) ⟨hG2, .nd 63 [] 0 [.nd 0 [] 0 []], ⟨63, [], 0, some ⟨y, 0, none⟩, 1, 1⟩, s, true, rfl, rep_mk (by decide) (by decide) (fun h => absurd h (by decide)) rfl hsl ⟨_, [], rfl, rep_zero, rfl⟩, rfl, Nat.le_refl _, fun h => (by cases h), fun _ => ⟨.inr hno, by simp only [V.tot, V.tots, List.length_nil]; omega⟩⟩
    | true =>
      obtain ⟨s1, rfl⟩ := tk1.1 ht2
      rw [ht2, tk1S, Bool.not_true] at cx_wa
      simp only [List.length_cons] at hs
      dsimp only at hrd
      rw [if_neg (show ¬ (43 : UInt8).toNat = 45 by decide), if_pos (show (43 : UInt8).toNat = 43 from rfl)] at hrd
      have cx_vl := hV G r k s1 false hS hk2 (by omega) (by omega)
      refine m_enter [(0, _), (1, _)] Tryz.func25 (by kernel_rfl) Tryz.ntmps25 rfl rfl (by repeat (first | exact trivial | refine ⟨rfl, ?_⟩)) fun B hB hW => ?_
      repeat' (first | (refine run (t := tb) 400 rfl ?_ ?_; (focus (repeat' ((exact trivial))))) | (refine k_op rfl ?_; first | refine c_bx rfl rfl rfl fun _ => ?_ | refine c_al rfl rfl fun _ => ?_ | refine v_op (g_ld rfl rfl rfl) rfl rfl ?_ | refine v_op (g_ldA rfl rfl rfl rfl) rfl rfl ?_ | refine v_op (g_bld rfl rfl) rfl rfl ?_ | refine c_stA rfl rfl rfl rfl rfl rfl ?_ | refine c_bsl rfl rfl rfl rfl rfl rfl fun _ => ?_ | (refine c_rt rfl rfl rfl cx_sign rfl ?_) | (refine c_rt rfl rfl rfl cx_pt rfl ?_) | (refine c_m1g rfl rfl rfl cx_tk rfl ?_; rintro _ _ ⟨rfl, rfl⟩; dsimp only [List.cons_append, List.nil_append]) | (refine c_m1g rfl rfl rfl cx_wa rfl ?_; rintro _ _ rfl; dsimp only [List.cons_append, List.nil_append]) | (refine c_m1s rfl rfl rfl cx_vl rfl ?_; rintro _ G1 _ hle ⟨u1, c1, t1, b1, rfl, hrep, rfl, hP⟩; dsimp only [List.cons_append, List.nil_append]; skip)) | (refine k_tt rfl ?_ ?_; (focus (((rfl)); done))) | (refine k_ff rfl ?_ ?_; (focus (((rfl)); done))))
      rename_i y
      refine Nx.sealC (b := y) fun G2 hG2 hsy => ?_
      have hsl : SlV G2 (.slice (some ⟨y, 0, none⟩) 1 1) 4 ([c1] : List VC).length (rows vcF [c1]) := ⟨rfl, .inr ⟨y, 0, 1, rfl, Nat.le_refl _, hsy⟩⟩
      obtain ⟨hPl, hP0, hP1⟩ := hP
      cases b1 with
      | false =>
        refine k_rr (vs := [_]) rfl ⟨rc_A rfl rfl rfl rfl, trivial⟩ rfl (by repeat (first | exact List.nil_sublist _ | apply List.Sublist.cons_cons)) ⟨hle.trans hG2, .nd 63 [] 0 [u1], ⟨63, [], 0, some ⟨y, 0, none⟩, 1, 1⟩, t1, false, rfl, rep_mk (by decide) (by decide) (fun h => absurd h (by decide)) rfl hsl ⟨_, [], rfl, rep_mono hG2 hrep, rfl⟩, rfl, by simp only [List.length_cons]; omega, fun _ => ⟨rfl, by rw [hrd, (hP0 rfl).2]; rfl⟩, fun h => (by cases h)⟩
      | true =>
        obtain ⟨hno, hto⟩ := hP1 rfl
        have hno2 : rd (tyq qs) n k s1 = none := by
          rcases hno with h | h
          · cases h
          · exact h
        refine k_rr (vs := [_]) rfl ⟨rc_A rfl rfl rfl rfl, trivial⟩ rfl (by repeat (first | exact List.nil_sublist _ | apply List.Sublist.cons_cons)) ⟨hle.trans hG2, .nd 63 [] 0 [u1], ⟨63, [], 0, some ⟨y, 0, none⟩, 1, 1⟩, t1, true, rfl, rep_mk (by decide) (by decide) (fun h => absurd h (by decide)) rfl hsl ⟨_, [], rfl, rep_mono hG2 hrep, rfl⟩, rfl, by simp only [List.length_cons]; omega, fun h => (by cases h), fun _ => ⟨.inr (by rw [hrd, hno2]; rfl), by simp only [V.tot, V.tots, List.length_nil, List.length_cons]; omega⟩⟩
end Go.E
/-! Wm -/
namespace Go.E
set_option maxRecDepth 20000
set_option maxHeartbeats 2000000
open Go.Proofs
variable {G : Gh}
theorem c_valL {n r sc : Nat} {qs : List TyP} {k s : List UInt8} (hV : ValC n sc qs) (hS : ScI G sc qs) (hk : kindIn (tyq qs) (91 :: k) = true) (hs : s.length < n + 1 ∧ s.length ≤ 1000) :
    FnM Tryz.prog 25 [Pt r 0, Ag (kdF (91 :: k))] G [scO r sc s false] (ValP (rd (tyq qs) (n + 1) (91 :: k)) r sc s false) := by
  have hk2 := kindIn_tail (.inl rfl) hk
  obtain ⟨e1, e2, e3, _⟩ := kdF_cons (c := 91) (k := k) (.inl rfl)
  have hrd : rd (tyq qs) (n + 1) (91 :: k) s = rdList (rd (tyq qs) n k) s := by rw [rd]; exact rdK_list rfl
  unfold kdF
  rw [e1, e2, e3]
  have cx_sign := @c_sign1 G 91 (sg k) (bs k) (nm k)
  have cx_pt := @c_part G 91 (sg k) (bs k) (nm k)
  have cx_li := c_list (G := G) (r := r) (b := false) hV hS hk2 (s := s) ⟨by omega, by omega⟩
  refine m_enter [(0, _), (1, _)] Tryz.func25 (by kernel_rfl) Tryz.ntmps25 rfl rfl (by repeat (first | exact trivial | refine ⟨rfl, ?_⟩)) fun B hB hW => ?_
  repeat' (first | (refine run (t := tb) 400 rfl ?_ ?_; (focus (repeat' ((exact trivial))))) | (refine k_op rfl ?_; first | refine c_bx rfl rfl rfl fun _ => ?_ | refine c_al rfl rfl fun _ => ?_ | refine v_op (g_ld rfl rfl rfl) rfl rfl ?_ | refine v_op (g_ldA rfl rfl rfl rfl) rfl rfl ?_ | refine c_stA rfl rfl rfl rfl rfl rfl ?_ | (refine c_rt rfl rfl rfl cx_sign rfl ?_) | (refine c_rt rfl rfl rfl cx_pt rfl ?_) | (refine c_m1s rfl rfl rfl cx_li rfl ?_; rintro _ G1 _ hle ⟨u1, c1, t1, b1, rfl, hrep, rfl, hP⟩; dsimp only [List.cons_append, List.nil_append]; skip)) | (refine k_tt rfl ?_ ?_; (focus (((rfl)); done))) | (refine k_ff rfl ?_ ?_; (focus (((rfl)); done))))
  obtain ⟨hPl, hP0, hP1⟩ := hP
  refine k_rr (vs := [_]) rfl ⟨rc_A rfl rfl rfl rfl, trivial⟩ rfl (by repeat (first | exact List.nil_sublist _ | apply List.Sublist.cons_cons)) ⟨hle, u1, c1, t1, b1, rfl, hrep, rfl, hPl, fun h => ⟨rfl, by rw [hrd]; exact (hP0 h).2⟩, fun h => by rw [hrd]; exact hP1 h⟩
/-- What the letters are. -/
theorem plain_kinds {ts : List Ty} {c : UInt8} {k : List UInt8} (hk : kindIn ts (c :: k) = true) (h91 : ¬ (c.toNat = 91 ∨ c.toNat = 63)) (hr : refT ts (c :: k) = none) : c :: k = [110] ∨ c :: k = [116] ∨ c :: k = [102] := by
  have hko := kindIn_ok hk
  have hcs := core_self (r := k) h91
  have hrn : refN (core (c :: k)) = none := by
    cases hx : refN (core (c :: k)) with
    | none => rfl
    | some x =>
      obtain ⟨t, ht⟩ := kind_refT hk (by rw [hx]; rfl)
      rw [hcs, hr] at ht; cases ht
  have h := bs_plain hko hrn
  have h64 : ¬ c.toNat = 64 := by
    intro h64
    rw [hcs] at hrn
    simp [refN, h64] at hrn
  have e : bs (c :: k) = c :: k := by unfold bs; rw [hcs]; simp [bsT, h64]
  rwa [e] at h
theorem rd_plain {ts : List Ty} {n : Nat} {s : List UInt8} {c : UInt8} (hc : c = 110 ∨ c = 116 ∨ c = 102) (hr : refT ts [c] = none) : rd ts (n + 1) [c] s = if c = 110 then (rdNum 999999 s).map fun x => (.nd 110 (decI x.1) 0 [], x.2) else if c = 116 then rdQuote s else rdFlag s := by
  rw [rd]; unfold rdK
  dsimp only
  rcases hc with rfl | rfl | rfl <;> simp [hr]
theorem c_valN {n r sc : Nat} {qs : List TyP} {s : List UInt8} (hr : refT (tyq qs) [110] = none) (hs : s.length ≤ 1000) :
    FnM Tryz.prog 25 [Pt r 0, Ag (kdF [110])] G [scO r sc s false] (ValP (rd (tyq qs) (n + 1) [110]) r sc s false) := by
  have hrd := rd_plain (ts := tyq qs) (n := n) (s := s) (c := 110) (.inl rfl) hr
  rw [if_pos rfl] at hrd
  have cx_sign := @c_sign0 G [110] []
  have cx_nu := c_number (G := G) (r := r) (sc := sc) (s := s) (b := false) (top := 999999) (by omega)
  have hwl := while_len isDg s
  show FnM Tryz.prog 25 [Pt r 0, Ag [S [], S [110], S []]] G [scO r sc s false] _
  refine m_enter [(0, _), (1, _)] Tryz.func25 (by kernel_rfl) Tryz.ntmps25 rfl rfl (by repeat (first | exact trivial | refine ⟨rfl, ?_⟩)) fun B hB hW => ?_
  repeat' (first | (refine run (t := tb) 400 rfl ?_ ?_; (focus (repeat' ((exact trivial))))) | (refine k_op rfl ?_; first | refine c_bx rfl rfl rfl fun _ => ?_ | refine c_al rfl rfl fun _ => ?_ | refine v_op (g_ld rfl rfl rfl) rfl rfl ?_ | refine v_op (g_ldA rfl rfl rfl rfl) rfl rfl ?_ | refine v_op (g_bld rfl rfl) rfl rfl ?_ | refine c_stA rfl rfl rfl rfl rfl rfl ?_ | (refine c_rt rfl rfl rfl cx_sign rfl ?_) | (refine c_m1g rfl rfl rfl cx_nu rfl ?_; rintro _ _ ⟨n1, rfl, ⟨hn0, hn1⟩, hnum, rfl⟩; dsimp only [List.cons_append, List.nil_append]) | (refine c_rt rfl rfl rfl (c_decimalN ?_) rfl ?_; (focus (((omega)); done)))) | (refine k_tt rfl ?_ ?_; (focus (((rfl)); done))) | (refine k_ff rfl ?_ ?_; (focus (((rfl)); done))))
  have hdl := decI_len6' hn1
  cases hm : numOf (s.takeWhile isDg) 999999 with
  | none =>
    refine k_rr (vs := [_]) rfl ⟨rc_A rfl rfl rfl rfl, trivial⟩ rfl (by repeat (first | exact List.nil_sublist _ | apply List.Sublist.cons_cons)) ⟨Gh.le.refl _, .nd 110 (decI n1) 0 [], ⟨110, decI n1, 0, none, 0, 0⟩, s.dropWhile isDg, true, rfl, rep_leaf (by decide) (by decide), rfl, by omega, fun h => (by cases h), fun _ => ⟨.inr (by rw [hrd]; unfold rdNum; rw [hm]; rfl), by simp only [V.tot, V.tots]; omega⟩⟩
  | some m =>
    obtain rfl : n1 = m := hnum m hm
    refine k_rr (vs := [_]) rfl ⟨rc_A rfl rfl rfl rfl, trivial⟩ rfl (by repeat (first | exact List.nil_sublist _ | apply List.Sublist.cons_cons)) ⟨Gh.le.refl _, .nd 110 (decI n1) 0 [], ⟨110, decI n1, 0, none, 0, 0⟩, s.dropWhile isDg, false, rfl, rep_leaf (by decide) (by decide), rfl, by omega, fun _ => ⟨rfl, by rw [hrd]; unfold rdNum; rw [hm]; rfl⟩, fun h => (by cases h)⟩
theorem c_valT {n r sc : Nat} {qs : List TyP} {s : List UInt8} (hr : refT (tyq qs) [116] = none) (hs : s.length ≤ 1000) :
    FnM Tryz.prog 25 [Pt r 0, Ag (kdF [116])] G [scO r sc s false] (ValP (rd (tyq qs) (n + 1) [116]) r sc s false) := by
  have hrd := rd_plain (ts := tyq qs) (n := n) (s := s) (c := 116) (.inr (.inl rfl)) hr
  rw [if_neg (by decide), if_pos rfl] at hrd
  have cx_sign := @c_sign0 G [116] []
  have cx_qu := c_quote (G := G) (r := r) (sc := sc) (s := s) (b := false) (by omega)
  show FnM Tryz.prog 25 [Pt r 0, Ag [S [], S [116], S []]] G [scO r sc s false] _
  refine m_enter [(0, _), (1, _)] Tryz.func25 (by kernel_rfl) Tryz.ntmps25 rfl rfl (by repeat (first | exact trivial | refine ⟨rfl, ?_⟩)) fun B hB hW => ?_
  repeat' (first | (refine run (t := tb) 400 rfl ?_ ?_; (focus (repeat' ((exact trivial))))) | (refine k_op rfl ?_; first | refine c_bx rfl rfl rfl fun _ => ?_ | refine c_al rfl rfl fun _ => ?_ | refine v_op (g_ld rfl rfl rfl) rfl rfl ?_ | refine v_op (g_ldA rfl rfl rfl rfl) rfl rfl ?_ | refine v_op (g_bld rfl rfl) rfl rfl ?_ | refine c_stA rfl rfl rfl rfl rfl rfl ?_ | (refine c_rt rfl rfl rfl cx_sign rfl ?_) | (refine c_m1g rfl rfl rfl cx_qu rfl ?_; rintro _ _ ⟨x1, t1, b1, rfl, hQ, rfl⟩; dsimp only [List.cons_append, List.nil_append])) | (refine k_tt rfl ?_ ?_; (focus (((rfl)); done))) | (refine k_ff rfl ?_ ?_; (focus (((rfl)); done))))
  obtain ⟨hQl, hQ0, hQ1⟩ := hQ
  refine k_rr (vs := [_]) rfl ⟨rc_A rfl rfl rfl rfl, trivial⟩ rfl (by repeat (first | exact List.nil_sublist _ | apply List.Sublist.cons_cons)) ⟨Gh.le.refl _, .nd 116 x1 0 [], ⟨116, x1, 0, none, 0, 0⟩, t1, b1, rfl, rep_leaf (by decide) (by decide), rfl, by omega, fun h => ⟨rfl, by rw [hrd]; exact (hQ0 h).2⟩, fun h => ⟨.inr (by rw [hrd]; rcases hQ1 h with h | h; cases h; exact h), by simp only [V.tot, V.tots]; omega⟩⟩
theorem c_valF {n r sc : Nat} {qs : List TyP} {s : List UInt8} (hr : refT (tyq qs) [102] = none) (hs : s.length ≤ 1000) :
    FnM Tryz.prog 25 [Pt r 0, Ag (kdF [102])] G [scO r sc s false] (ValP (rd (tyq qs) (n + 1) [102]) r sc s false) := by
  have hrd := rd_plain (ts := tyq qs) (n := n) (s := s) (c := 102) (.inr (.inr rfl)) hr
  rw [if_neg (by decide), if_neg (by decide)] at hrd
  unfold rdFlag at hrd
  have cx_sign := @c_sign0 G [102] []
  have cx_tk := c_take (G := G) (r := r) (sc := sc) (s := s) (l := [121, 101, 115]) (b := false) ⟨by omega, by simp⟩
  have cx_wa := c_want (G := G) (r := r) (sc := sc) (s := s) (l := [110, 111]) (b := false) ⟨by omega, by simp⟩
  have ey : ∀ l : List UInt8, tkR l s false = l.isPrefixOf s := fun l => by simp [tkR]
  have el : ∀ l : List UInt8, l.isPrefixOf s = true → s.length = l.length + (s.drop l.length).length := fun l h => by
    have := pre_out h
    have h2 := congrArg List.length this
    rwa [List.length_append] at h2
  show FnM Tryz.prog 25 [Pt r 0, Ag [S [], S [102], S []]] G [scO r sc s false] _
  cases hy : ([121, 101, 115] : List UInt8).isPrefixOf s with
  | true =>
    have hl : s.length = 3 + (s.drop 3).length := el _ hy
    unfold tkS at cx_tk
    rw [ey, hy, if_pos rfl] at cx_tk
    rw [hy, if_pos rfl] at hrd
    refine m_enter [(0, _), (1, _)] Tryz.func25 (by kernel_rfl) Tryz.ntmps25 rfl rfl (by repeat (first | exact trivial | refine ⟨rfl, ?_⟩)) fun B hB hW => ?_
    repeat' (first | (refine run (t := tb) 400 rfl ?_ ?_; (focus (repeat' ((exact trivial))))) | (refine k_op rfl ?_; first | refine c_bx rfl rfl rfl fun _ => ?_ | refine c_al rfl rfl fun _ => ?_ | refine v_op (g_ld rfl rfl rfl) rfl rfl ?_ | refine v_op (g_ldA rfl rfl rfl rfl) rfl rfl ?_ | refine v_op (g_bld rfl rfl) rfl rfl ?_ | refine c_stA rfl rfl rfl rfl rfl rfl ?_ | (refine c_rt rfl rfl rfl cx_sign rfl ?_) | (refine c_m1g rfl rfl rfl cx_tk rfl ?_; rintro _ _ ⟨rfl, rfl⟩; dsimp only [List.cons_append, List.nil_append])) | (refine k_tt rfl ?_ ?_; (focus (((rfl)); done))) | (refine k_ff rfl ?_ ?_; (focus (((rfl)); done))))
    refine k_rr (vs := [_]) rfl ⟨rc_A rfl rfl rfl rfl, trivial⟩ rfl (by repeat (first | exact List.nil_sublist _ | apply List.Sublist.cons_cons)) ⟨Gh.le.refl _, .nd 102 [121, 101, 115] 0 [], ⟨102, [121, 101, 115], 0, none, 0, 0⟩, s.drop 3, false, rfl, rep_leaf (by decide) (by decide), rfl, by omega, fun _ => ⟨rfl, hrd⟩, fun h => (by cases h)⟩
  | false =>
    have h1 : tkR [121, 101, 115] s false = false := by rw [ey, hy]
    rw [h1, tkSF h1] at cx_tk
    rw [hy, if_neg (by decide)] at hrd
    cases hno : ([110, 111] : List UInt8).isPrefixOf s with
    | true =>
      have hl : s.length = 2 + (s.drop 2).length := el _ hno
      unfold tkS at cx_wa
      rw [ey, hno, if_pos rfl] at cx_wa
      rw [hno, if_pos rfl] at hrd
      refine m_enter [(0, _), (1, _)] Tryz.func25 (by kernel_rfl) Tryz.ntmps25 rfl rfl (by repeat (first | exact trivial | refine ⟨rfl, ?_⟩)) fun B hB hW => ?_
      repeat' (first | (refine run (t := tb) 400 rfl ?_ ?_; (focus (repeat' ((exact trivial))))) | (refine k_op rfl ?_; first | refine c_bx rfl rfl rfl fun _ => ?_ | refine c_al rfl rfl fun _ => ?_ | refine v_op (g_ld rfl rfl rfl) rfl rfl ?_ | refine v_op (g_ldA rfl rfl rfl rfl) rfl rfl ?_ | refine v_op (g_bld rfl rfl) rfl rfl ?_ | refine c_stA rfl rfl rfl rfl rfl rfl ?_ | (refine c_rt rfl rfl rfl cx_sign rfl ?_) | (refine c_m1g rfl rfl rfl cx_tk rfl ?_; rintro _ _ ⟨rfl, rfl⟩; dsimp only [List.cons_append, List.nil_append]) | (refine c_m1g rfl rfl rfl cx_wa rfl ?_; rintro _ _ rfl; dsimp only [List.cons_append, List.nil_append])) | (refine k_tt rfl ?_ ?_; (focus (((rfl)); done))) | (refine k_ff rfl ?_ ?_; (focus (((rfl)); done))))
      refine k_rr (vs := [_]) rfl ⟨rc_A rfl rfl rfl rfl, trivial⟩ rfl (by repeat (first | exact List.nil_sublist _ | apply List.Sublist.cons_cons)) ⟨Gh.le.refl _, .nd 102 [110, 111] 0 [], ⟨102, [110, 111], 0, none, 0, 0⟩, s.drop 2, false, rfl, rep_leaf (by decide) (by decide), rfl, by omega, fun _ => ⟨rfl, hrd⟩, fun h => (by cases h)⟩
    | false =>
      have h2 : tkR [110, 111] s false = false := by rw [ey, hno]
      rw [h2, tkSF h2, Bool.not_false] at cx_wa
      rw [hno, if_neg (by decide)] at hrd
      refine m_enter [(0, _), (1, _)] Tryz.func25 (by kernel_rfl) Tryz.ntmps25 rfl rfl (by repeat (first | exact trivial | refine ⟨rfl, ?_⟩)) fun B hB hW => ?_
      repeat' (first | (refine run (t := tb) 400 rfl ?_ ?_; (focus (repeat' ((exact trivial))))) | (refine k_op rfl ?_; first | refine c_bx rfl rfl rfl fun _ => ?_ | refine c_al rfl rfl fun _ => ?_ | refine v_op (g_ld rfl rfl rfl) rfl rfl ?_ | refine v_op (g_ldA rfl rfl rfl rfl) rfl rfl ?_ | refine v_op (g_bld rfl rfl) rfl rfl ?_ | refine c_stA rfl rfl rfl rfl rfl rfl ?_ | (refine c_rt rfl rfl rfl cx_sign rfl ?_) | (refine c_m1g rfl rfl rfl cx_tk rfl ?_; rintro _ _ ⟨rfl, rfl⟩; dsimp only [List.cons_append, List.nil_append]) | (refine c_m1g rfl rfl rfl cx_wa rfl ?_; rintro _ _ rfl; dsimp only [List.cons_append, List.nil_append])) | (refine k_tt rfl ?_ ?_; (focus (((rfl)); done))) | (refine k_ff rfl ?_ ?_; (focus (((rfl)); done))))
      refine k_rr (vs := [_]) rfl ⟨rc_A rfl rfl rfl rfl, trivial⟩ rfl (by repeat (first | exact List.nil_sublist _ | apply List.Sublist.cons_cons)) ⟨Gh.le.refl _, .nd 102 [110, 111] 0 [], ⟨102, [110, 111], 0, none, 0, 0⟩, s, true, rfl, rep_leaf (by decide) (by decide), rfl, Nat.le_refl _, fun h => (by cases h), fun _ => ⟨.inr hrd, by simp only [V.tot, V.tots, List.length_cons, List.length_nil]; omega⟩⟩
theorem c_valA {n r sc : Nat} {qs : List TyP} {c : UInt8} {k s : List UInt8} {t : Ty} (h91 : ¬ (c.toNat = 91 ∨ c.toNat = 63)) (hV : ValC n sc qs) (hS : ScI G sc qs) (hw : SchW (tyq qs)) (hk : kindIn (tyq qs) (c :: k) = true) (hrf : refT (tyq qs) (c :: k) = some t) (hs : s.length < n + 1 ∧ s.length ≤ 1000) :
    FnM Tryz.prog 25 [Pt r 0, Ag (kdF (c :: k))] G [scO r sc s false] (ValP (rd (tyq qs) (n + 1) (c :: k)) r sc s false) := by
  have hko := kindIn_ok hk
  have hsg := sg_none (r := k) h91
  have hcs := core_self (r := k) h91
  have hrn : (refN (core (c :: k))).isSome = true := by
    rw [hcs]; unfold refT at hrf
    cases hx : refN (c :: k) with
    | none => rw [hx] at hrf; cases hrf
    | some x => rfl
  have hbs : bs (c :: k) = [64] := (bs_at hko).2 hrn
  have hnm : refN (c :: k) = some (nm (c :: k)) := by
    unfold nm; rw [hcs] at hrn ⊢
    cases hx : refN (c :: k) with
    | none => rw [hx] at hrn; cases hrn
    | some x => rfl
  have hft : findT (tyq qs) (nm (c :: k)) = some t := by unfold refT at hrf; rw [hnm] at hrf; exact hrf
  have hkv := kvF_find qs (nm (c :: k))
  rw [← findQ_ty] at hft
  rcases hfq : findQ qs (nm (c :: k)) with _ | ⟨p, t'⟩
  · rw [hfq] at hft; cases hft
  rw [hfq] at hft hkv
  dsimp only [Option.map_some] at hft hkv
  have htt : t' = t := Option.some.inj hft
  subst htt
  have hqm := findQ_mem hfq
  have htm := refT_mem hrf
  have hW := hw.ty t' htm
  have hT : TyI G p t' := hS.ty _ hqm
  obtain ⟨u, m, g1, g2, g3⟩ := hS.at'
  have hrd : rd (tyq qs) (n + 1) (c :: k) s = rdTyped (tyq qs) (rd (tyq qs) n) t' s := by
    rw [rd]; unfold rdK
    dsimp only
    rw [if_neg (fun h => h91 (.inl h)), if_neg (fun h => h91 (.inr h)), hrf]
  have cx_ot : FnM Tryz.prog 52 [Pt r 0, Pt p 0] G [scO r sc s false] (ValP (rdTyped (tyq qs) (rd (tyq qs) n) t') r sc s false) := by
    rcases hW.sort with h | h | h
    · exact c_ofR hV hS hw (fun d hd => kind_in hw htm (by omega) hd) hT hW h ⟨by omega, by omega⟩
    · exact c_ofU hV hS (fun d hd => kind_in hw htm (by omega) hd) hT hW h ⟨by omega, by omega⟩
    · exact c_ofE hT hW h ⟨by omega, by omega⟩
  have cx_sign := @c_sign0 G [64] (nm (c :: k))
  unfold kdF
  rw [hsg, hbs]
  clear hft hfq hnm hrn hcs
  
  refine m_enter [(0, _), (1, _)] Tryz.func25 (by kernel_rfl) Tryz.ntmps25 rfl rfl (by repeat (first | exact trivial | refine ⟨rfl, ?_⟩)) fun B hB hW => ?_
  repeat' (first | (refine run (t := tb) 400 rfl ?_ ?_; (focus (repeat' ((exact trivial))))) | (refine k_op rfl ?_; first | refine c_bx rfl rfl rfl fun _ => ?_ | refine c_al rfl rfl fun _ => ?_ | refine v_op (g_ld rfl rfl rfl) rfl rfl ?_ | refine v_op (g_ldA rfl rfl rfl rfl) rfl rfl ?_ | (refine c_rt rfl rfl rfl cx_sign rfl ?_)) | (refine k_ff rfl ?_ ?_; (focus (((rfl)); done))))
  rename_i x3 x4
  (refine k_any (s_any (id := 21) [.blk x3 (.cells (List.toArray [S [], S [64], S (nm (c :: k))]) tKnd (0, 0))] (by intro y hy; simp only [List.mem_cons, List.not_mem_nil, or_false] at hy ⊢; simp [hy]) mixed ?_); refine x_tks (t := tb) (fuel := 8) [0, 1, 2, 3, 8] (bts 13 271) (by kernel_rfl) (by kernel_rfl) rfl rfl (by (exact Gh.le.refl _)) (by repeat (first | exact List.nil_sublist _ | apply List.Sublist.cons_cons | apply List.Sublist.cons)) ?_ ?_; (focus (repeat' ((exact trivial)))); ((refine (x_tkg (bts 13 783) 9 rfl (by kernel_rfl) rfl (by (exact Gh.le.refl _)) (by repeat (first | exact List.nil_sublist _ | apply List.Sublist.cons_cons | apply List.Sublist.cons))) (g_ld rfl rfl rfl) rfl rfl ?_)); refine x_all [4] (by kernel_rfl) (by decide) ⟨?_, trivial⟩; refine x_opg rfl rfl ?_; ((refine v_op (g_ld rfl rfl rfl) rfl rfl ?_)); refine x_kk (by (exact Gh.le.refl _)) (by repeat (first | exact List.nil_sublist _ | apply List.Sublist.cons_cons | apply List.Sublist.cons)) (listed' := (bts 13 799)) (by kernel_rfl) ?_; refine x_tks (t := tb) (fuel := 4) [5, 6] (bts 13 895) (by kernel_rfl) (by kernel_rfl) rfl rfl (by (exact Gh.le.refl _)) (by repeat (first | exact List.nil_sublist _ | apply List.Sublist.cons_cons | apply List.Sublist.cons)) ?_ ?_; (focus (repeat' ((exact trivial)))); ((refine (x_tkg (bts 13 1023) 7 rfl (by kernel_rfl) rfl (by (exact Gh.le.refl _)) (by repeat (first | exact List.nil_sublist _ | apply List.Sublist.cons_cons | apply List.Sublist.cons))) (g_ldS rfl rfl (by assumption) rfl rfl) rfl rfl ?_)); ((refine (x_tkg (bts 13 2047) 10 rfl (by kernel_rfl) rfl (by (exact Gh.le.refl _)) (by repeat (first | exact List.nil_sublist _ | apply List.Sublist.cons_cons | apply List.Sublist.cons))) (g_lookupX rfl rfl (map_G (by assumption)) (by assumption) rfl) rfl rfl ?_)); refine x_all [11] (by kernel_rfl) (by decide) ⟨?_, trivial⟩; refine x_opg rfl rfl ?_; ((refine c_m1s rfl rfl rfl cx_ot rfl ?_; rintro _ G1 _ hle ⟨u1, c1, t1, b1, rfl, hrep, rfl, hP⟩; dsimp only [List.cons_append, List.nil_append]; skip)); refine x_kk (by (assumption)) (by repeat (first | exact List.Sublist.refl _ | apply List.Sublist.cons)) (listed' := (bts 13 4095)) (by kernel_rfl) ?_; refine x_all [12] (by kernel_rfl) (by decide) ⟨?_, trivial⟩; refine x_opg rfl rfl ?_; ((refine c_stA rfl rfl rfl rfl rfl rfl ?_)); refine x_kk (by (assumption)) (by repeat (first | exact List.Sublist.refl _ | apply List.Sublist.cons)) (listed' := (bts 13 8191)) (by kernel_rfl) ?_; refine x_done (by kernel_rfl) (k_bk ?_))
  
  all_goals repeat' ((refine run (t := tb) 400 rfl ?_ ?_; (focus (repeat' ((exact trivial))))))
  all_goals (obtain ⟨hPl, hP0, hP1⟩ := hP)
  all_goals refine k_rr (vs := [_]) rfl ⟨rc_A rfl rfl rfl rfl, trivial⟩ rfl (by repeat (first | exact List.nil_sublist _ | apply List.Sublist.cons_cons)) ⟨hle, u1, c1, t1, b1, rfl, hrep, rfl, hPl, fun h => ⟨rfl, by rw [hrd]; exact (hP0 h).2⟩, fun h => by rw [hrd]; exact hP1 h⟩
/-- The scanner reads values. -/
theorem valC_all {sc : Nat} {qs : List TyP} (hw : SchW (tyq qs)) : ∀ n, ValC n sc qs
  | 0 => fun G r k s b _ _ h _ => absurd h (Nat.not_lt_zero _)
  | n + 1 => fun G r k s b hS hk hn hs => by
    have hV := valC_all (sc := sc) hw n
    cases b with
    | true =>
      exact c_valBad.toM fun v L' ⟨h1, h2⟩ => ⟨.nd 0 [] 0 [], ⟨0, [], 0, none, 0, 0⟩, s, true, h1, rep_zero, h2, Nat.le_refl _, fun h => (by cases h), fun _ => ⟨.inl rfl, by simp only [V.tot, V.tots, List.length_nil]; omega⟩⟩
    | false =>
      match k, hk with
      | [], hk => cases hk
      | c :: k, hk =>
        by_cases h1 : c.toNat = 91
        · obtain rfl := u8_eq h1 (by decide)
          exact c_valL hV hS hk ⟨hn, hs⟩
        by_cases h2 : c.toNat = 63
        · obtain rfl := u8_eq h2 (by decide)
          exact c_valO rfl hV hS hk ⟨hn, hs⟩
        have h91 : ¬ (c.toNat = 91 ∨ c.toNat = 63) := fun h => by rcases h with h | h <;> omega
        cases hr : refT (tyq qs) (c :: k) with
        | some t => exact c_valA h91 hV hS hw hk hr ⟨hn, hs⟩
        | none =>
          rcases plain_kinds hk h91 hr with e | e | e
          · rw [e] at hr ⊢; exact c_valN hr hs
          · rw [e] at hr ⊢; exact c_valT hr hs
          · rw [e] at hr ⊢; exact c_valF hr hs
end Go.E
/-! Wn -/
namespace Go.E
set_option maxRecDepth 20000
set_option maxHeartbeats 2000000
open Go.Proofs
variable {G : Gh}
theorem valOf_of {ts : List Ty} {k s : List UInt8} {u : V} {t : List UInt8} {N : Nat} (hN : 12 ≤ N) (hl : s.length ≤ 400) (h : rd ts N k s = some (u, t)) : valOf ts k s = if t = [] ∧ V.deep u ≤ 12 then some u else none := by
  unfold valOf
  rw [if_pos hl]
  cases h12 : rd ts 12 k s with
  | none =>
    dsimp only
    rw [if_neg]
    rintro ⟨_, hd⟩
    have := rd_at _ 12 k s _ h hd
    rw [h12] at this; cases this
  | some x =>
    have h1 := rd_le (m := N) hN h12
    rw [h] at h1
    have hd := rd_deep_le _ _ _ _ h12
    obtain rfl := Option.some.inj h1
    dsimp only at hd ⊢
    cases t with
    | nil => dsimp only; rw [if_pos ⟨rfl, hd⟩]
    | cons c t => dsimp only; rw [if_neg (fun h => by cases h.1)]
theorem valOf_no {ts : List Ty} {k s : List UInt8} {N : Nat} (hN : 12 ≤ N) (hl : s.length ≤ 400) (h : rd ts N k s = none) : valOf ts k s = none := by
  unfold valOf
  rw [if_pos hl]
  cases h12 : rd ts 12 k s with
  | none => rfl
  | some x => rw [rd_le (m := N) hN h12] at h; cases h
theorem c_readI {b : Nat} {qs : List TyP} {k s : List UInt8} (hS : ScI G b qs) (hw : SchW (tyq qs)) (hk : kindIn (tyq qs) k = true) (hs : s.length ≤ 10000000) :
    FnS Tryz.prog 13 [Pt b 0, Ag (kdF k), S s] G (fun v G' => (valOf (tyq qs) k s = none ∧ v = Tu [zP, Bo false]) ∨ ∃ u c, valOf (tyq qs) k s = some u ∧ v = Tu [Ag (vcF c), Bo true] ∧ V.rep G' u c) := by
  unfold kdF
  by_cases hl : s.length ≤ 400
  case neg =>
    have hno : valOf (tyq qs) k s = none := by unfold valOf; rw [if_neg hl]
    refine b_enter [(0, _), (1, _), (2, _)] Tryz.func13 (by kernel_rfl) Tryz.ntmps13 rfl rfl (by repeat (first | exact trivial | refine ⟨rfl, ?_⟩)) fun B hok hB hW => ?_
    repeat' (first | (refine run (t := tb) 400 rfl ?_ ?_; (focus (repeat' ((exact trivial))))) | (refine k_op rfl ?_; first | refine c_bx rfl rfl rfl fun _ => ?_ | refine c_al rfl rfl fun _ => ?_ | refine v_op (g_bld rfl rfl) rfl rfl ?_ | refine c_stA rfl rfl rfl rfl rfl rfl ?_) | (refine k_tt rfl ?_ ?_; (focus (((refine decide_eq_true ?_; (omega))); done))))
    all_goals refine k_rr (vs := [_, _]) rfl ⟨rc_A rfl rfl rfl rfl, rfl, trivial⟩ rfl (List.nil_sublist _) ⟨Gh.le.refl _, rfl, ?_⟩
    all_goals exact .inl ⟨hno, rfl⟩
  obtain ⟨N, hN⟩ : ∃ N, s.length + 12 ≤ N := ⟨_, Nat.le_refl _⟩
  have hN2 : 12 ≤ N := by omega
  have hV := valC_all (sc := b) hw N
  have cy_vl : ∀ {r : Nat}, FnM Tryz.prog 25 [Pt r 0, Ag (kdF k)] G [scO r b s false] (ValP (rd (tyq qs) N k) r b s false) := fun {r} => hV G r k s false hS hk (by omega) (by omega)
  refine b_enter [(0, _), (1, _), (2, _)] Tryz.func13 (by kernel_rfl) Tryz.ntmps13 rfl rfl (by repeat (first | exact trivial | refine ⟨rfl, ?_⟩)) fun B hok hB hW => ?_
  repeat' (first | (refine run (t := tb) 400 rfl ?_ ?_; (focus (repeat' ((exact trivial))))) | (refine k_op rfl ?_; first | refine c_bx rfl rfl rfl fun _ => ?_ | refine c_al rfl rfl fun _ => ?_ | refine v_op (g_bld rfl rfl) rfl rfl ?_ | refine v_op (g_ldA rfl rfl rfl rfl) rfl rfl ?_) | (refine k_ff rfl ?_ ?_; (focus (((refine decide_eq_false ?_; (omega))); done))))
  refine k_op rfl ?_
  rename_i r
  refine c_m1s rfl rfl rfl (cy_vl (r := r)) rfl ?_
  rintro _ G1 _ hle ⟨u1, c1, t1, b1, rfl, hrep, rfl, hP⟩
  dsimp only [List.cons_append, List.nil_append]
  obtain ⟨hPl, hP0, hP1⟩ := hP
  cases b1 with
  | true =>
    have hno : valOf (tyq qs) k s = none := valOf_no hN2 hl (by rcases (hP1 rfl).1 with h | h; cases h; exact h)
    repeat' (first | (refine run (t := tb) 400 rfl ?_ ?_; (focus (repeat' ((exact trivial))))) | (refine k_op rfl ?_; first | refine c_al rfl rfl fun _ => ?_ | refine v_op (g_bld rfl rfl) rfl rfl ?_ | refine c_stA rfl rfl rfl rfl rfl rfl ?_ | refine v_op (g_ld rfl rfl rfl) rfl rfl ?_ | (refine v_op (g_pickT rfl rfl ?_) rfl rfl ?_; (focus (((rfl)); done)))) | (refine k_gt rfl rfl ?_ ?_; (focus (((rfl)); done))) | (refine k_tt rfl ?_ ?_; (focus (((rfl)); done))))
    all_goals refine k_rr (vs := [_, _]) rfl ⟨rc_A rfl rfl rfl rfl, rfl, trivial⟩ rfl (List.nil_sublist _) ⟨hle, rfl, ?_⟩
    all_goals exact .inl ⟨hno, rfl⟩
  | false =>
    have hrd := (hP0 rfl).2
    have hof := valOf_of hN2 hl hrd
    have htt := rd_tot _ _ _ _ hrd
    dsimp only at htt
    by_cases ht : t1 = []
    case neg =>
      have hno : valOf (tyq qs) k s = none := by rw [hof, if_neg (fun h => ht h.1)]
      repeat' (first | (refine run (t := tb) 400 rfl ?_ ?_; (focus (repeat' ((exact trivial))))) | (refine k_op rfl ?_; first | refine c_al rfl rfl fun _ => ?_ | refine v_op (g_bld rfl rfl) rfl rfl ?_ | refine c_stA rfl rfl rfl rfl rfl rfl ?_ | refine v_op (g_ld rfl rfl rfl) rfl rfl ?_ | (refine v_op (g_pickT rfl rfl ?_) rfl rfl ?_; (focus (((rfl)); done))) | (refine v_op (g_pickF rfl rfl ?_) rfl rfl ?_; (focus (((rfl)); done)))) | (refine k_gt rfl rfl ?_ ?_; (focus (((refine decide_eq_true ?_; (assumption))); done))) | (refine k_gf rfl rfl ?_ ?_; (focus (((rfl)); done))) | (refine k_tt rfl ?_ ?_; (focus (((rfl)); done))))
      all_goals refine k_rr (vs := [_, _]) rfl ⟨rc_A rfl rfl rfl rfl, rfl, trivial⟩ rfl (List.nil_sublist _) ⟨hle, rfl, ?_⟩
      all_goals exact .inl ⟨hno, rfl⟩
    have hnn : ¬ t1 ≠ [] := fun h => h ht
    have cx_dp := c_deep (G := G1) u1.tot (Nat.le_refl _) (by omega) hrep
    have hdt := deep_tot u1
    by_cases hd : V.deep u1 ≤ 12
    · have hyes : valOf (tyq qs) k s = some u1 := by rw [hof, if_pos ⟨ht, hd⟩]
      repeat' (first | (refine run (t := tb) 400 rfl ?_ ?_; (focus (repeat' ((exact trivial))))) | (refine k_op rfl ?_; first | refine c_al rfl rfl fun _ => ?_ | refine c_stA rfl rfl rfl rfl rfl rfl ?_ | refine v_op (g_ld rfl rfl rfl) rfl rfl ?_ | refine v_op (g_ldA rfl rfl rfl rfl) rfl rfl ?_ | (refine v_op (g_pickF rfl rfl ?_) rfl rfl ?_; (focus (((rfl)); done))) | (refine c_rt rfl rfl rfl cx_dp rfl ?_)) | (refine k_gf rfl rfl ?_ ?_; (focus ((first | rfl | (refine decide_eq_false ?_; (assumption))); done))) | (refine k_ff rfl ?_ ?_; (focus (((refine decide_eq_false ?_; (omega))); done))))
      all_goals refine k_rr (vs := [_, _]) rfl ⟨rc_A rfl rfl rfl rfl, rfl, trivial⟩ rfl (List.nil_sublist _) ⟨hle, rfl, ?_⟩
      all_goals exact .inr ⟨u1, c1, hyes, rfl, hrep⟩
    · have hno : valOf (tyq qs) k s = none := by rw [hof, if_neg (fun h => hd h.2)]
      repeat' (first | (refine run (t := tb) 400 rfl ?_ ?_; (focus (repeat' ((exact trivial))))) | (refine k_op rfl ?_; first | refine c_al rfl rfl fun _ => ?_ | refine v_op (g_bld rfl rfl) rfl rfl ?_ | refine c_stA rfl rfl rfl rfl rfl rfl ?_ | refine v_op (g_ld rfl rfl rfl) rfl rfl ?_ | refine v_op (g_ldA rfl rfl rfl rfl) rfl rfl ?_ | (refine v_op (g_pickF rfl rfl ?_) rfl rfl ?_; (focus (((rfl)); done))) | (refine c_rt rfl rfl rfl cx_dp rfl ?_)) | (refine k_gf rfl rfl ?_ ?_; (focus ((first | rfl | (refine decide_eq_false ?_; (assumption))); done))) | (refine k_tt rfl ?_ ?_; (focus (((refine decide_eq_true ?_; (omega))); done))))
      all_goals refine k_rr (vs := [_, _]) rfl ⟨rc_A rfl rfl rfl rfl, rfl, trivial⟩ rfl (List.nil_sublist _) ⟨hle, rfl, ?_⟩
      all_goals exact .inl ⟨hno, rfl⟩
theorem kindS_some2 {s k : List UInt8} (h : kindS s k = true) : ∃ ts, schemaOf s = some ts ∧ kindIn ts k = true ∧ SchW ts := by
  unfold kindS at h
  cases h1 : schemaOf s with
  | none => rw [h1] at h; cases h
  | some ts => rw [h1] at h; exact ⟨ts, rfl, h, schemaOf_w h1⟩
/-- A value of a kind of a schema, given as texts. -/
def givenV (s k v : List UInt8) : Option V := match schemaOf s with
  | some ts => if kindIn ts k = true then valOf ts k v else none
  | none => none
theorem c_given0 {s k w : List UInt8} (h : s.length ≤ 1048576 ∧ k.length ≤ 1048576 ∧ w.length ≤ 1048576) (hno : givenV s k w = none) : FnS Tryz.prog 8 [S s, S k, S w] G (fun v _ => ∃ p a b c, v = Tu [p, Ag [S a, S b, S c], zP, Bo false]) := by
  by_cases hk : kindS s k = true
  case neg =>
    have cx_bo1 : ∀ G, FnS Tryz.prog 12 [S s, S k] G (fun v _ => ∃ p a b c, v = Tu [p, Ag [S a, S b, S c], Bo false]) := fun G => by
      refine (c_both (G := G) (s := s) (k := k) (by omega) (by omega)).mono ?_
      rintro v G' L' ⟨h1, h2, ⟨_, p, a, b, c, rfl⟩ | ⟨b, qs, rfl, h4, h5, _⟩⟩
      · exact ⟨h1, h2, p, a, b, c, rfl⟩
      · exact absurd (by unfold kindS; rw [h4]; exact h5) hk
    refine b_enter [(0, _), (1, _), (2, _)] Tryz.func8 (by kernel_rfl) Tryz.ntmps8 rfl rfl (by repeat (first | exact trivial | refine ⟨rfl, ?_⟩)) fun B hok hB hW => ?_
    repeat' (first | (refine run (t := tb) 400 rfl ?_ ?_; (focus (repeat' ((exact trivial))))) | (refine k_op rfl ?_; first | refine c_al rfl rfl fun _ => ?_ | refine c_stA rfl rfl rfl rfl rfl rfl ?_ | refine v_op (g_bld rfl rfl) rfl rfl ?_ | (refine c_fns rfl rfl rfl (cx_bo1 _) rfl ?_; rintro _ G hle ⟨p1, a1, b1, c1, rfl⟩; skip)) | (refine k_tt rfl ?_ ?_; (focus (((rfl)); done))))
    all_goals refine k_rr (vs := [_, _, _, _]) rfl ⟨rfl, rc_A rfl rfl rfl rfl, rc_A rfl rfl rfl rfl, rfl, trivial⟩ rfl (List.nil_sublist _) ⟨hle, rfl, ?_⟩
    all_goals exact ⟨_, _, _, _, rfl⟩
  obtain ⟨ts, hs, hki, hw⟩ := kindS_some2 hk
  have hvo : valOf ts k w = none := by unfold givenV at hno; rw [hs] at hno; dsimp only at hno; rwa [if_pos hki] at hno
  have cx_boa : ∀ G, FnS Tryz.prog 12 [S s, S k] G (fun v G' => ∃ b qs, v = Tu [Pt b 0, Ag [S (sg k), S (bs k), S (nm k)], Bo true] ∧ tyq qs = ts ∧ ScI G' b qs) := fun G => by
    refine (c_both (G := G) (s := s) (k := k) (by omega) (by omega)).mono ?_
    rintro v G' L' ⟨h1, h2, ⟨h4, _⟩ | ⟨b, qs, rfl, h4, h5, h6⟩⟩
    · rw [h4] at hk; cases hk
    · rw [hs] at h4; exact ⟨h1, h2, b, qs, rfl, (Option.some.inj h4).symm, h6⟩
  have cx_ri0 : ∀ G b qs, tyq qs = ts → ScI G b qs → FnS Tryz.prog 13 [Pt b 0, Ag [S (sg k), S (bs k), S (nm k)], S w] G (fun v _ => v = Tu [zP, Bo false]) := fun G b qs hq hS => by
    subst hq
    refine (c_readI (G := G) (b := b) (s := w) hS hw hki (by omega)).mono ?_
    rintro v G' L' ⟨h1, h2, ⟨_, rfl⟩ | ⟨u, c, h4, _⟩⟩
    · exact ⟨h1, h2, rfl⟩
    · rw [hvo] at h4; cases h4
  refine b_enter [(0, _), (1, _), (2, _)] Tryz.func8 (by kernel_rfl) Tryz.ntmps8 rfl rfl (by repeat (first | exact trivial | refine ⟨rfl, ?_⟩)) fun B hok hB hW => ?_
  repeat' (first | (refine run (t := tb) 400 rfl ?_ ?_; (focus (repeat' ((exact trivial))))) | (refine k_op rfl ?_; first | refine c_al rfl rfl fun _ => ?_ | refine c_stA rfl rfl rfl rfl rfl rfl ?_ | refine v_op (g_ldA rfl rfl rfl rfl) rfl rfl ?_ | (refine c_fns rfl rfl rfl (cx_boa _) rfl ?_; rintro _ G hle ⟨ba, qa, rfl, hT1, hR1⟩; skip) | (refine c_fns rfl rfl rfl ((cx_ri0 _ _ _) (by (repeat ((assumption))); done) (by (repeat ((assumption))); done)) rfl ?_; rintro _ G hle rfl; skip)) | (refine k_ff rfl ?_ ?_; (focus (((rfl)); done))) | (refine k_any (s_anyD (id := 5) (tt := 7) rfl mixed ?_); refine x_tks (t := tb) (fuel := 5) [0, 3, 4] (bts 8 25) (by kernel_rfl) (by kernel_rfl) rfl rfl (by (exact Gh.le.refl _)) (by repeat (first | exact List.nil_sublist _ | apply List.Sublist.cons_cons)) ?_ ?_; (focus (repeat' ((exact trivial)))); ((refine (x_tkg (bts 8 27) 1 rfl (by kernel_rfl) rfl (by (exact Gh.le.refl _)) (by repeat (first | exact List.nil_sublist _ | apply List.Sublist.cons_cons))) (g_ldA rfl rfl rfl rfl) rfl rfl ?_)); ((refine (x_tkg (bts 8 31) 2 rfl (by kernel_rfl) rfl (by (exact Gh.le.refl _)) (by repeat (first | exact List.nil_sublist _ | apply List.Sublist.cons_cons))) (g_ldA rfl rfl rfl rfl) rfl rfl ?_)); refine x_all [5] (by kernel_rfl) (by decide) ⟨?_, trivial⟩; refine x_opg rfl rfl ?_; ((refine c_stA rfl rfl rfl rfl rfl rfl ?_)); refine x_kk (by (exact Gh.le.refl _)) (by repeat (first | exact List.nil_sublist _ | apply List.Sublist.cons_cons)) (listed' := (bts 8 63)) (by kernel_rfl) ?_; refine x_all [6] (by kernel_rfl) (by decide) ⟨?_, trivial⟩; refine x_opg rfl rfl ?_; ((refine c_stA rfl rfl rfl rfl rfl rfl ?_)); refine x_kk (by (exact Gh.le.refl _)) (by repeat (first | exact List.nil_sublist _ | apply List.Sublist.cons_cons)) (listed' := (bts 8 127)) (by kernel_rfl) ?_; refine x_tks (t := tb) (fuel := 0) [7] (bts 8 255) (by kernel_rfl) (by kernel_rfl) rfl rfl (by (exact Gh.le.refl _)) (by repeat (first | exact List.nil_sublist _ | apply List.Sublist.cons_cons)) ?_ ?_; (focus (repeat' ((exact trivial)))); refine x_done (by kernel_rfl) (k_bk ?_)))
  all_goals refine k_rr (vs := [_, _, _, _]) rfl ⟨rfl, rc_A rfl rfl rfl rfl, rc_A rfl rfl rfl rfl, rfl, trivial⟩ rfl (List.nil_sublist _) ⟨(Gh.le.trans (by assumption) hle), rfl, ?_⟩
  all_goals exact ⟨_, _, _, _, rfl⟩
theorem c_given1 {s k w : List UInt8} {u : V} {ts : List Ty} (h : s.length ≤ 1048576 ∧ k.length ≤ 1048576 ∧ w.length ≤ 1048576) (hs : schemaOf s = some ts) (hki : kindIn ts k = true) (hvo : valOf ts k w = some u) :
    FnS Tryz.prog 8 [S s, S k, S w] G (fun v G' => ∃ b qs cv, v = Tu [Pt b 0, Ag [S (sg k), S (bs k), S (nm k)], Ag (vcF cv), Bo true] ∧ tyq qs = ts ∧ ScI G' b qs ∧ V.rep G' u cv) := by
  have hw := schemaOf_w hs
  have hk : kindS s k = true := by unfold kindS; rw [hs]; exact hki
  have cx_boa : ∀ G, FnS Tryz.prog 12 [S s, S k] G (fun v G' => ∃ b qs, v = Tu [Pt b 0, Ag [S (sg k), S (bs k), S (nm k)], Bo true] ∧ tyq qs = ts ∧ ScI G' b qs) := fun G => by
    refine (c_both (G := G) (s := s) (k := k) (by omega) (by omega)).mono ?_
    rintro v G' L' ⟨h1, h2, ⟨h4, _⟩ | ⟨b, qs, rfl, h4, h5, h6⟩⟩
    · rw [h4] at hk; cases hk
    · rw [hs] at h4; exact ⟨h1, h2, b, qs, rfl, (Option.some.inj h4).symm, h6⟩
  have cx_ri1 : ∀ G b qs, tyq qs = ts → ScI G b qs → FnS Tryz.prog 13 [Pt b 0, Ag [S (sg k), S (bs k), S (nm k)], S w] G (fun v G' => ∃ cv, v = Tu [Ag (vcF cv), Bo true] ∧ V.rep G' u cv) := fun G b qs hq hS => by
    subst hq
    refine (c_readI (G := G) (b := b) (s := w) hS hw hki (by omega)).mono ?_
    rintro v G' L' ⟨h1, h2, ⟨h4, _⟩ | ⟨u', c, h4, rfl, h5⟩⟩
    · rw [hvo] at h4; cases h4
    · rw [hvo] at h4; obtain rfl := Option.some.inj h4; exact ⟨h1, h2, c, rfl, h5⟩
  
  refine b_enter [(0, _), (1, _), (2, _)] Tryz.func8 (by kernel_rfl) Tryz.ntmps8 rfl rfl (by repeat (first | exact trivial | refine ⟨rfl, ?_⟩)) fun B hok hB hW => ?_
  repeat' (first | (refine run (t := tb) 400 rfl ?_ ?_; (focus (repeat' ((exact trivial))))) | (refine k_op rfl ?_; first | refine c_al rfl rfl fun _ => ?_ | refine c_stA rfl rfl rfl rfl rfl rfl ?_ | refine v_op (g_ldA rfl rfl rfl rfl) rfl rfl ?_ | (refine c_fns rfl rfl rfl (cx_boa _) rfl ?_; rintro _ G hle ⟨ba, qa, rfl, hT1, hR1⟩; skip) | (refine c_fns rfl rfl rfl ((cx_ri1 _ _ _) (by (repeat ((assumption))); done) (by (repeat ((assumption))); done)) rfl ?_; rintro _ G hle ⟨cv, rfl, hrv⟩; skip)) | (refine k_ff rfl ?_ ?_; (focus (((rfl)); done))))
  rename_i x7 x8 Ga hla x11 x13
  dsimp only [vcF, VC.sl]
  (refine k_any (s_any (id := 5) [.blk x13 (.cells (List.toArray [U8 (cv.what : Nat), S cv.text, I cv.tag, .slice cv.a cv.n cv.c]) tVal (0, 0)), .blk x11 (.cells (List.toArray [S (sg k), S (bs k), S (nm k)]) tKnd (0, 0))] (by intro y hy; simp only [List.mem_cons, List.not_mem_nil, or_false] at hy ⊢; rcases hy with hy | hy <;> simp [hy]) mixed ?_); refine x_tks (t := tb) (fuel := 5) [0, 3, 4] (bts 8 25) (by kernel_rfl) (by kernel_rfl) rfl rfl (by (exact Gh.le.refl _)) (by repeat (first | exact List.nil_sublist _ | apply List.Sublist.cons_cons)) ?_ ?_; (focus (repeat' ((exact trivial)))); ((refine (x_tkg (bts 8 27) 1 rfl (by kernel_rfl) rfl (by (exact Gh.le.refl _)) (by repeat (first | exact List.nil_sublist _ | apply List.Sublist.cons_cons))) (g_ldA rfl rfl rfl rfl) rfl rfl ?_)); ((refine (x_tkg (bts 8 31) 2 rfl (by kernel_rfl) rfl (by (exact Gh.le.refl _)) (by repeat (first | exact List.nil_sublist _ | apply List.Sublist.cons_cons))) (g_ldA rfl rfl rfl rfl) rfl rfl ?_)); refine x_all [5] (by kernel_rfl) (by decide) ⟨?_, trivial⟩; refine x_opg rfl rfl ?_; ((refine c_stA rfl rfl rfl rfl rfl rfl ?_)); refine x_kk (by (exact Gh.le.refl _)) (by repeat (first | exact List.nil_sublist _ | apply List.Sublist.cons_cons)) (listed' := (bts 8 63)) (by kernel_rfl) ?_; refine x_all [6] (by kernel_rfl) (by decide) ⟨?_, trivial⟩; refine x_opg rfl rfl ?_; ((refine c_stA rfl rfl rfl rfl rfl rfl ?_)); refine x_kk (by (exact Gh.le.refl _)) (by repeat (first | exact List.nil_sublist _ | apply List.Sublist.cons_cons)) (listed' := (bts 8 127)) (by kernel_rfl) ?_; refine x_tks (t := tb) (fuel := 0) [7] (bts 8 255) (by kernel_rfl) (by kernel_rfl) rfl rfl (by (exact Gh.le.refl _)) (by repeat (first | exact List.nil_sublist _ | apply List.Sublist.cons_cons)) ?_ ?_; (focus (repeat' ((exact trivial)))); refine x_done (by kernel_rfl) (k_bk ?_))
  
  all_goals repeat' ((refine run (t := tb) 400 rfl ?_ ?_; (focus (repeat' ((exact trivial))))))
  all_goals refine k_rr (vs := [_, _, _, _]) rfl ⟨rfl, rc_A rfl rfl rfl rfl, rc_A rfl rfl rfl rfl, rfl, trivial⟩ rfl (List.nil_sublist _) ⟨(Gh.le.trans (by assumption) hle), rfl, ?_⟩
  all_goals exact ⟨ba, qa, cv, rfl, hT1, hR1.mono hle, hrv⟩
def sizeV (s k w : List UInt8) : Int := match givenV s k w with
  | some u => (u.size : Nat)
  | none => -1
theorem c_ValueSizeI {s k w : List UInt8} (h : s.length ≤ 1048576 ∧ k.length ≤ 1048576 ∧ w.length ≤ 1048576) : PuG Tryz.prog 5 [S s, S k, S w] G (· = I (sizeV s k w)) := by
  unfold sizeV
  cases hg : givenV s k w with
  | none =>
    have cx_gi0 := c_given0 (G := G) h hg
    refine b_enter (Post := fun v G' L' => G' = G ∧ L' = [] ∧ _) [(0, _), (1, _), (2, _)] Tryz.func5 (by kernel_rfl) Tryz.ntmps5 rfl rfl (by repeat (first | exact trivial | refine ⟨rfl, ?_⟩)) fun B hok hB hW => ?_
    repeat' (first | (refine run (t := tb) 400 rfl ?_ ?_; (focus (repeat' ((exact trivial))))) | (refine k_op rfl ?_; first | refine c_al rfl rfl fun _ => ?_ | refine c_stA rfl rfl rfl rfl rfl rfl ?_ | (refine c_fns rfl rfl rfl cx_gi0 rfl ?_; rintro _ G hle ⟨p1, a1, b1, c1, rfl⟩; skip)) | (refine k_tt rfl ?_ ?_; (focus (((rfl)); done))))
    all_goals refine Nx.base hok hB ?_
    all_goals refine k_rr (vs := [_]) rfl ⟨rfl, trivial⟩ rfl (List.nil_sublist _) ⟨rfl, rfl, ?_⟩
    all_goals rfl
  | some u =>
    obtain ⟨ts, hs, hki, hvo⟩ : ∃ ts, schemaOf s = some ts ∧ kindIn ts k = true ∧ valOf ts k w = some u := by
      unfold givenV at hg
      cases hs : schemaOf s with
      | none => rw [hs] at hg; cases hg
      | some ts =>
        rw [hs] at hg
        dsimp only at hg
        by_cases hk : kindIn ts k = true
        · rw [if_pos hk] at hg; exact ⟨ts, rfl, hk, hg⟩
        · rw [if_neg hk] at hg; cases hg
    have hto : u.tot ≤ 1000000 := by
      unfold valOf at hvo
      split at hvo
      · split at hvo
        · rename_i v hv
          obtain rfl := Option.some.inj hvo
          have := rd_tot _ _ _ _ hv
          dsimp only at this; omega
        · cases hvo
      · cases hvo
    have cx_gi1 := c_given1 (G := G) h hs hki hvo
    refine b_enter (Post := fun v G' L' => G' = G ∧ L' = [] ∧ _) [(0, _), (1, _), (2, _)] Tryz.func5 (by kernel_rfl) Tryz.ntmps5 rfl rfl (by repeat (first | exact trivial | refine ⟨rfl, ?_⟩)) fun B hok hB hW => ?_
    repeat' (first | (refine run (t := tb) 400 rfl ?_ ?_; (focus (repeat' ((exact trivial))))) | (refine k_op rfl ?_; first | refine c_al rfl rfl fun _ => ?_ | refine c_stA rfl rfl rfl rfl rfl rfl ?_ | refine v_op (g_ldA rfl rfl rfl rfl) rfl rfl ?_ | (refine c_fns rfl rfl rfl cx_gi1 rfl ?_; rintro _ G hle ⟨bg, qg, cv, rfl, hTg, hRg, hrv⟩; skip)) | (refine k_ff rfl ?_ ?_; (focus (((rfl)); done))))
    have cx_sz := c_size (G := G) u.tot (Nat.le_refl _) hto hrv
    repeat' (first | (refine run (t := tb) 400 rfl ?_ ?_; (focus (repeat' ((exact trivial))))) | (refine k_op rfl ?_; (refine c_rt rfl rfl rfl cx_sz rfl ?_)))
    refine Nx.base hok hB ?_
    refine k_rr (vs := [_]) rfl ⟨rfl, trivial⟩ rfl (List.nil_sublist _) ⟨rfl, rfl, ?_⟩
    rfl
end Go.E
