/- Contracts and plain laws that the statement rests on, part 2. Conditions: as each says. -/
import Derived.Test.YthcpkoephapecaaZ1
set_option linter.unusedVariables false
set_option linter.unusedSimpArgs false
namespace Go.E
open Go.Proofs
section
variable {n : Nat} {D : List Deferred} {E : Env} {B : Base} {G : Gh} {L : List Own} {k : List Fr} {Q : Exit → Act → World → Prop} {K : Act → World → Prop}
theorem jT [PQ Q] {ops : List Oper} {G0 : Gh} {L0 : List Own} (fuel : Nat) (is : List Nat) {E' : Env} {p' : List Prop} {fuel' : Nat} {listed : Array Bool} (listed' : Array Bool) (hn : Nx n D E' B G L (xA Try.prog ops.toArray Q (Stab B G0 L0) fuel listed'))
    (hf : Nat.beq (fuel + is.length) fuel' = true := by exact rfl) (h : takeN tb n ops is E [] = some (E', p') := by exact rfl) (hsel : Region.noSelect ops.toArray = true := by kernel_rfl) (hb : tksB ops.toArray is listed listed' = true := by kernel_rfl)
    (hG : Gh.le G0 G := by first | exact Gh.le.refl _ | assumption) (hL : L0.Sublist L := by repeat (first | exact List.Sublist.refl _ | exact List.nil_sublist _ | apply List.Sublist.cons_cons | apply List.Sublist.cons)) (hp : AllP p' := by exact trivial) : Nx n D E B G L (xA Try.prog ops.toArray Q (Stab B G0 L0) fuel' listed) := x_tks is listed' hsel hb hf h hG hL hp hn
theorem jU [PQ Q] {ops : List Oper} {G0 : Gh} {L0 : List Own} (fuel : Nat) (is : List Nat) {E' : Env} {p' : List Prop} {fuel' : Nat} {listed : Array Bool} (listed' : Array Bool) (hp : AllP p') (hn : Nx n D E' B G L (xA Try.prog ops.toArray Q (Stab B G0 L0) fuel listed'))
    (hf : Nat.beq (fuel + is.length) fuel' = true := by exact rfl) (h : takeN tb n ops is E [] = some (E', p') := by exact rfl) (hsel : Region.noSelect ops.toArray = true := by kernel_rfl) (hb : tksB ops.toArray is listed listed' = true := by kernel_rfl)
    (hG : Gh.le G0 G := by first | exact Gh.le.refl _ | assumption) (hL : L0.Sublist L := by repeat (first | exact List.Sublist.refl _ | exact List.nil_sublist _ | apply List.Sublist.cons_cons | apply List.Sublist.cons)) : Nx n D E B G L (xA Try.prog ops.toArray Q (Stab B G0 L0) fuel' listed) := x_tks is listed' hsel hb hf h hG hL hp hn
theorem jN {ops : List Oper} {G0 : Gh} {L0 : List Own} {fuel : Nat} {listed : Array Bool} (listed' : Array Bool) [PQ Q] (i : Nat) {o : Oper} {d : Nat} (hi : ops.toArray[i]? = some o)
    (k : Nx n D ((d, undef) :: E) B G L (xA Try.prog ops.toArray Q (Stab B G0 L0) fuel listed')) (hb : tkB ops.toArray listed i listed' = true := by kernel_rfl) (hgu : gdL E ops o = some false := by exact rfl) (hG : Gh.le G0 G := by first | exact Gh.le.refl _ | assumption) (hL : L0.Sublist L := by repeat (first | exact List.Sublist.refl _ | exact List.nil_sublist _ | apply List.Sublist.cons_cons | apply List.Sublist.cons)) (hd : o.dst = some d := by exact rfl) (hlt : Nat.blt d n = true := by exact rfl) :
    Nx n D E B G L (xA Try.prog ops.toArray Q (Stab B G0 L0) (fuel + 1) listed) := x_tkn listed' i hi hb hgu hG hL hd hlt k
theorem jG {ops : List Oper} {G0 : Gh} {L0 : List Own} {fuel : Nat} {listed : Array Bool} (listed' : Array Bool) [PQ Q] (i : Nat) {o : Oper} {d : Nat} {v : Value} (hi : ops.toArray[i]? = some o) (hg : Gives Try.prog n D E (Stab B G0 L0) o v)
    (k : Nx n D ((d, v) :: E) B G L (xA Try.prog ops.toArray Q (Stab B G0 L0) fuel listed')) (hb : tkB ops.toArray listed i listed' = true := by kernel_rfl) (hgu : gdL E ops o = some true := by exact rfl) (hG : Gh.le G0 G := by first | exact Gh.le.refl _ | assumption) (hL : L0.Sublist L := by repeat (first | exact List.Sublist.refl _ | exact List.nil_sublist _ | apply List.Sublist.cons_cons | apply List.Sublist.cons)) (hd : o.dst = some d := by exact rfl) (hlt : Nat.blt d n = true := by exact rfl) :
    Nx n D E B G L (xA Try.prog ops.toArray Q (Stab B G0 L0) (fuel + 1) listed) := x_tkg listed' i hi hb hgu hG hL hg hd hlt k
theorem jV {o : Oper} {d : Nat} {v : Value} (hg : Gives Try.prog n D E (St B G L) o v) (k : Nx n D ((d, v) :: E) B G L K) (hd : o.dst = some d := by exact rfl) (hlt : Nat.blt d n = true := by exact rfl) : Nx n D E B G L (ow Try.prog o Q K) := v_op hg hd hlt k
theorem jR {E' : Env} {c c' : Cu} {k k' : List Fr} {p' : List Prop} (hn : Nx n D E' B G L (cu Try.prog c' k' Q)) (h : runN tb n 400 E c k = some ⟨E', c', k', p'⟩ := by exact rfl) (hp : AllP p' := by exact trivial) : Nx n D E B G L (cu Try.prog c k Q) := run 400 h hp hn
theorem jM {E' : Env} {c c' : Cu} {k k' : List Fr} {p' : List Prop} (hn : Nx n D E' B G L (cu Try.prog c' k' Q)) (h : runN tb n 400 E c k = some ⟨E', c', k', p'⟩ := by exact rfl) (hp : AllP p' := by (repeat' (first | exact trivial | apply And.intro | omega)); done) : Nx n D E B G L (cu Try.prog c k Q) := run 400 h hp hn
theorem jE {f : FuncId} {fn : Func} {c : Code} {args : List Value} {R : Value → Prop} (E0 : Env) (hf : Try.prog.funcs[f]? = some fn) (hn : fn.ntmps = n)
    (h : ∀ B, B.W = [] → Nx n [] E0 B G [] (cu Try.prog (.code c) [] (bp Try.prog fn (RPost B (fun v G' L' => G' = G ∧ L' = [] ∧ R v))))) (hb : fn.body = some c := by exact rfl) (hok : bodyOk Try.prog f = true := by kernel_rfl) (hlen : Nat.ble args.length n = true := by exact rfl) (hE : Sub E0 (params 0 args) := by repeat' constructor) : PuG Try.prog f args G R := p_enter E0 hf hok hn hb hlen hE h
theorem jB {f : FuncId} {fn : Func} {c : Code} {args : List Value} {Post : Value → Gh → List Own → Prop} (E0 : Env) (hf : Try.prog.funcs[f]? = some fn) (hn : fn.ntmps = n)
    (h : ∀ B, BOk B → B.G = G → B.W = bks L → Nx n [] E0 B G L (cu Try.prog (.code c) [] (bp Try.prog fn (RPost B Post)))) (hb : fn.body = some c := by exact rfl) (hok : bodyOk Try.prog f = true := by kernel_rfl) (hlen : Nat.ble args.length n = true := by exact rfl) (hE : Sub E0 (params 0 args) := by repeat' constructor) : Fn Try.prog f args G L Post := b_enter E0 hf hok hn hb hlen hE h
theorem jH {f : FuncId} {fn : Func} {c : Code} {args : List Value} {R : Value → List Own → Prop} (E0 : Env) (hf : Try.prog.funcs[f]? = some fn) (hn : fn.ntmps = n)
    (h : ∀ B, B.G = G → B.W = bks L → Nx n [] E0 B G L (cu Try.prog (.code c) [] (bp Try.prog fn (RPost B (fun v G' L' => G' = G ∧ R v L'))))) (hb : fn.body = some c := by exact rfl) (hok : bodyOk Try.prog f = true := by kernel_rfl) (hlen : Nat.ble args.length n = true := by exact rfl) (hE : Sub E0 (params 0 args) := by repeat' constructor) : FnG Try.prog f args G L R := g_enter E0 hf hok hn hb hlen hE h
theorem jK {ops : Array Oper} {G0 : Gh} {L0 : List Own} {fuel : Nat} {listed : Array Bool} (listed' : Array Bool) (h : Nx n D E B G L (xA Try.prog ops Q (Stab B G0 L0) fuel listed')) (hG : Gh.le G0 G := by first | exact Gh.le.refl _ | assumption) (hL : L0.Sublist L := by repeat (first | exact List.Sublist.refl _ | exact List.nil_sublist _ | apply List.Sublist.cons_cons | apply List.Sublist.cons)) (hl : (listed == listed') = true := by kernel_rfl) : Nx n D E B G L (xK Try.prog ops Q (Stab B G0 L0) fuel listed) := x_kk hG hL hl h
theorem jS {ops : Array Oper} {G0 : Gh} {L0 : List Own} {fuel : Nat} {listed : Array Bool} (listed' : Array Bool) (h : Nx n D E B G L (xA Try.prog ops Q (Stab B G L) fuel listed')) (hG : Gh.le G0 G := by first | exact Gh.le.refl _ | assumption) (hL : L0.Sublist L := by repeat (first | exact List.Sublist.refl _ | exact List.nil_sublist _ | apply List.Sublist.cons_cons | apply List.Sublist.cons)) (hl : (listed == listed') = true := by kernel_rfl) : Nx n D E B G L (xK Try.prog ops Q (Stab B G0 L0) fuel listed) := x_ks hG hL hl h
theorem jA {ops : List Oper} {S : World → Prop} {fuel : Nat} {listed : Array Bool} (i : Nat) {o : Oper} (hi : ops.toArray[i]? = some o) (h : Nx n D E B G L (ow Try.prog o Q (xK Try.prog ops.toArray Q S fuel (listed.setIfInBounds i true)))) (hr : Region.ready .any ops.toArray listed = [i] := by kernel_rfl) (hgu : gdL E ops o = some true := by exact rfl) : Nx n D E B G L (xA Try.prog ops.toArray Q S (fuel + 1) listed) :=
  x_all [i] hr (by simp) ⟨x_opg hi hgu h, trivial⟩
theorem jZ {fn : Func} {rs : List ResultVar} {vs : List Value} {v : Value} {L' : List Own} {Post : Value → Gh → List Own → Prop} (hr : fn.results = rs.toArray) (h : ResV Try.prog (St B G L) E rs vs) (hv : oneOf vs = v) (hP : Post v G L')
    (hL : L'.Sublist L := by exact List.nil_sublist _) : Nx n [] E B G L (cu Try.prog (.exit .ret) [] (bp Try.prog fn (RPost B Post))) := k_rr hr h hv hL hP
section
variable {d : Nat} {ty : TypeId} {pos : String} {aft : Array Edge} {gd : Option (Nat × Bool)} {K2 : Act → World → Prop}
end
section
variable {d : Nat} {ty : TypeId} {pos : String} {aft : Array Edge} {gd : Option (Nat × Bool)}
end
theorem zA {α : Type _} {a : α} {l m : List α} : a :: l ++ m = a :: (l ++ m) := rfl
theorem fA {α : Type _} {l : List α} : [] ++ l = l := rfl
end
end Go.E
namespace Go.E
set_option maxRecDepth 20000
set_option maxHeartbeats 2000000
def num (n : Nat) : List UInt8 := if h : n < 128 then [u8 n] else u8 (128 + n % 128 : Nat) :: num (n / 128)
termination_by n
decreasing_by omega
def numI (n : Int) : List UInt8 := num n.toNat
def sumF (n : Int) : List UInt8 → Int
 | [] => n
 | c :: l => sumF ((n * 31 + (c.toNat : Int)) % 9973) l
def sumB (l : List UInt8) : Int := sumF 1 l
theorem drop_bt {l : List UInt8} {i : Nat} (h : i < l.length) : ∃ c : UInt8, l.drop i = c :: l.drop (i + 1) ∧ bt l i = c.toNat := by
 refine ⟨l[i], (List.getElem_cons_drop (h := h)).symm, ?_⟩
 simp [bt, List.getD, List.getElem?_eq_getElem h]
def frame (s : List UInt8) : List UInt8 := [u8 126] ++ numI s.length ++ s ++ numI (sumB s)
end Go.E
namespace Go.E
set_option maxRecDepth 20000
set_option maxHeartbeats 2000000
open Go.Proofs
variable {G : Gh}
theorem c_l6In {n lo hi : Int} : PuG Try.prog 61 [I n, I lo, I hi] G (· = Bo (decide (lo ≤ n) && decide (n ≤ hi))) := by
 refine jE [(0, _), (1, _), (2, _)] Try.func61 Try.ntmps61 fun B hB => ?_
 repeat' (first | (refine jR ?_) | (refine k_op rfl ?_; first | (refine jV (g_pickT rfl rfl rfl) ?_) | (refine jV (g_pickF rfl rfl rfl) ?_)) | refine k_g rfl rfl (fun _ => ?_) (fun _ => ?_))
 all_goals refine jZ (vs := [_]) rfl ⟨rfl, trivial⟩ rfl ⟨rfl, rfl, ?_⟩
 all_goals (rw [oneOf_one]; simp [*])
def strs (xs : List (List UInt8)) : List Value := xs.map fun x => S x
theorem strs_snoc (xs : List (List UInt8)) (x : List UInt8) : strs (xs ++ [x]) = strs xs ++ [S x] := by simp [strs]
abbrev tStr : TypeId := 9
theorem nth_mem {α : Type} [Inhabited α] {a : List α} {i : Nat} (h : i < a.length) : nth a i ∈ a := by rw [nth_eq h]; exact List.getElem_mem h
theorem mem_nth {α : Type} [Inhabited α] {a : List α} {x : α} (h : x ∈ a) : ∃ i, i < a.length ∧ nth a i = x := by
 obtain ⟨i, hi, e⟩ := List.mem_iff_getElem.1 h
 exact ⟨i, hi, by rw [nth_eq hi, e]⟩
theorem isPrefixOf_take (p s : List UInt8) : p.isPrefixOf s = decide (p.length ≤ s.length ∧ s.take p.length = p) := by
 by_cases h : p <+: s
 ·have h1 := List.isPrefixOf_iff_prefix.2 h
  rw [h1]; obtain ⟨r, rfl⟩ := h; simp
 ·have h1 : p.isPrefixOf s = false := by
   cases hb : p.isPrefixOf s with
   | false => rfl
   | true => exact absurd (List.isPrefixOf_iff_prefix.1 hb) h
  rw [h1]; symm; refine decide_eq_false fun ⟨_, h3⟩ => h ?_
  rw [← h3]; exact List.take_prefix _ _
theorem c_HasPrefix0 {s p : List UInt8} : PuG Try.prog 45 [S s, S p] G (· = Bo (p.isPrefixOf s)) := by
 rw [isPrefixOf_take]
 refine jE [(0, _), (1, _)] Try.func45 Try.ntmps45 fun B hB => ?_
 repeat' (first | refine jM ?_ | (refine k_op rfl ?_; first | (refine jV (g_pickT rfl rfl rfl) ?_) | (refine jV (g_pickF rfl rfl rfl) ?_)) | refine k_g rfl rfl (fun _ => ?_) (fun _ => ?_))
 all_goals refine jZ (vs := [_]) rfl ⟨rfl, trivial⟩ rfl ⟨rfl, rfl, ?_⟩
 all_goals (rw [oneOf_one]; simp; omega)
theorem c_HasPrefix {s p : List UInt8} : PuG Try.prog 25 [S s, S p] G (· = Bo (p.isPrefixOf s)) := by
 refine jE [(0, _), (1, _)] Try.func25 Try.ntmps25 fun B hB => ?_
 repeat' (first | (refine jR ?_) | (refine k_op rfl ?_; (refine c_rt rfl rfl rfl c_HasPrefix0 rfl ?_)))
 all_goals refine jZ (vs := [_]) rfl ⟨rfl, trivial⟩ rfl ⟨rfl, rfl, ?_⟩
 all_goals rfl
end Go.E
namespace Go.E
set_option maxRecDepth 20000
set_option maxHeartbeats 2000000
def isLow (c : UInt8) : Bool := decide (97 ≤ c.toNat ∧ c.toNat ≤ 122)
def isNm (s : List UInt8) : Bool := s.all isLow && decide (1 ≤ s.length ∧ s.length ≤ 3)
def kOk : List UInt8 → Bool
 | [] => false
 | c :: r => if c.toNat = 91 ∨ c.toNat = 63 then kOk r
  else if c.toNat = 64 then decide (((bt (c :: r) r.length : Nat) : Int) = 59) && isNm (r.take (r.length - 1))
  else decide (r = []) && (decide (c.toNat = 110) || decide (c.toNat = 116) || decide (c.toNat = 102))
def kindOk (s : List UInt8) : Bool := decide (s.length ≤ 12) && kOk s
def core : List UInt8 → List UInt8
 | [] => []
 | c :: r => if c.toNat = 91 ∨ c.toNat = 63 then core r else c :: r
theorem isNm_no {s : List UInt8} {i : Nat} (h : i < s.length) (h2 : ¬ (97 ≤ bt s i ∧ bt s i ≤ 122)) : isNm s = false := by
 have e : bt s i = (s[i]).toNat := by simp [bt, List.getD, List.getElem?_eq_getElem h]
 have : s.all isLow = false := by
  rw [List.all_eq_false]
  exact ⟨s[i], List.getElem_mem h, by rw [e] at h2; simpa [isLow] using h2⟩
 rw [isNm, this, Bool.false_and]
theorem isNm_all {s : List UInt8} (h : ∀ i, i < s.length → 97 ≤ bt s i ∧ bt s i ≤ 122) : isNm s = decide (1 ≤ s.length ∧ s.length ≤ 3) := by
 have : s.all isLow = true := by
  rw [List.all_eq_true]
  intro c hc
  obtain ⟨i, hi, rfl⟩ := List.mem_iff_getElem.1 hc
  have e : bt s i = (s[i]).toNat := by simp [bt, List.getD, List.getElem?_eq_getElem hi]
  have := h i hi
  rw [e] at this
  simpa [isLow] using this
 rw [isNm, this, Bool.true_and]
def dec (n : Nat) : List UInt8 := if h : n < 10 then [u8 (48 + n : Nat)] else dec (n / 10) ++ [u8 (48 + n % 10 : Nat)]
termination_by n
decreasing_by omega
def decI (n : Int) : List UInt8 := dec n.toNat
theorem decI_lo {n : Int} (h : n < 10) (h0 : 0 ≤ n) : decI n = [u8 (48 + n)] := by
 unfold decI; rw [dec, dif_pos (by omega)]; congr 1; congr 1; omega
theorem decI_hi {n : Int} (h : ¬ n < 10) : decI n = decI (n / 10) ++ [u8 (48 + n % 10)] := by
 unfold decI; rw [dec, dif_neg (by omega)]
 have e1 : n.toNat / 10 = (n / 10).toNat := by omega
 have e2 : ((48 + n.toNat % 10 : Nat) : Int) = 48 + n % 10 := by omega
 rw [e1, e2]
theorem dec_len (n : Nat) : ∀ k, n < 10 ^ (k + 1) → (dec n).length ≤ k + 1 := by
 intro k
 induction k generalizing n with
 | zero => intro h; rw [dec, dif_pos (by simpa using h)]; simp
 | succ k ih =>
  intro h
  by_cases h1 : n < 10
  ·rw [dec, dif_pos h1]; simp
  ·rw [dec, dif_neg h1]
   have := ih (n / 10) (Nat.div_lt_of_lt_mul (by rw [Nat.pow_succ] at h; omega))
   simp; omega
theorem decI_len {n : Int} (h : n ≤ 9223372036854775807) : (decI n).length ≤ 19 := dec_len _ 18 (by omega)
end Go.E
namespace Go.E
set_option maxRecDepth 20000
set_option maxHeartbeats 2000000
open Go.Proofs
variable {G : Gh}
theorem c_l2Name {s : List UInt8} (h : s.length ≤ 9000000000000000000) : PuG Try.prog 48 [S s] G (· = Bo (isNm s)) := by
 refine jE [(0, _)] Try.func48 Try.ntmps48 fun B hB => ?_
 repeat' (refine jR ?_)
 refine k_loop (ι := Nat) (fun i => i ≤ s.length ∧ ∀ k, k < i → 97 ≤ bt s k ∧ bt s k ≤ 122) (fun i => [(0, S s), (3, I i)]) (fun _ => G) (fun i => []) (fun i => s.length - i) 0 ?_ (by repeat' constructor) rfl sRr (fun i Hi => ?_)
 ·exact ⟨by omega, fun k hk => absurd hk (by omega)⟩
 by_cases hi : i < s.length
 ·repeat' (first | refine jM ?_ | (refine k_op rfl ?_; first | (refine jV (g_pickT rfl rfl rfl) ?_) | (refine jV (g_pickF rfl rfl rfl) ?_)) | refine k_g rfl rfl (fun _ => ?_) (fun _ => ?_) | (refine k_tt rfl (by first | rfl | (refine decide_eq_true ?_; (omega))) ?_) | refine k_if rfl (fun _ => ?_) (fun _ => ?_))
  ·rename_i hc
   refine jZ (vs := [_]) rfl ⟨rfl, trivial⟩ rfl ⟨rfl, rfl, ?_⟩
   have hc : ((bt s i : Nat) : Int) < 97 := hc
   rw [oneOf_one, isNm_no hi (by omega)]
  ·rename_i _ hc
   refine jZ (vs := [_]) rfl ⟨rfl, trivial⟩ rfl ⟨rfl, rfl, ?_⟩
   have hc : (122 : Int) < ((bt s i : Nat) : Int) := hc
   rw [oneOf_one, isNm_no hi (by omega)]
  ·rename_i h1 h2
   have h1 : ¬ ((bt s i : Nat) : Int) < 97 := h1
   have h2 : ¬ (122 : Int) < ((bt s i : Nat) : Int) := h2
   refine k_rd (i + 1) ⟨by omega, fun k hk => ?_⟩ (by omega) (by repeat' constructor) rfl sRr
   rcases Nat.lt_or_ge k i with h3 | h3
   ·exact Hi.2 k h3
   ·have : k = i := by omega
    subst this; omega
 ·repeat' (first | (refine jR ?_) | (refine k_op rfl ?_; (refine c_rt rfl rfl rfl c_l6In rfl ?_)) | (refine k_ff rfl (dFf (by omega)) ?_))
  refine jZ (vs := [_]) rfl ⟨rfl, trivial⟩ rfl ⟨rfl, rfl, ?_⟩
  rw [oneOf_one, isNm_all fun k hk => Hi.2 k (by omega)]
  refine congrArg Bo ?_
  rw [Bool.decide_and]
  exact congr (congrArg and (decide_eq_decide.2 (by omega))) (decide_eq_decide.2 (by omega))
theorem bt_c0 (c : UInt8) (r : List UInt8) : bt (c :: r) 0 = c.toNat := by simp [bt, List.getD]
theorem c_l2Ref {c : UInt8} {r : List UInt8} (h : r ≠ []) (hl : r.length ≤ 1000000) : PuG Try.prog 29 [S (c :: r)] G (· = Tu [S (if c.toNat = 64 then r.take (r.length - 1) else []), Bo (decide (c.toNat = 64))]) := by
 have hp := List.length_pos_iff.2 h
 have e0 := bt_c0 c r
 refine jE [(0, _)] Try.func29 Try.ntmps29 fun B hB => ?_
 repeat' (first | (refine run (t := tb) 400 rfl ?_ ?_; (focus (repeat' (first | exact trivial | apply And.intro | omega | (simp only [List.length_append, List.length_cons, List.length_nil, Int.toNat_natCast]; omega))))) | refine k_if rfl (fun _ => ?_) (fun _ => ?_))
 ·rename_i hc
  refine jZ (vs := [_, _]) rfl ⟨rfl, rfl, trivial⟩ rfl ⟨rfl, rfl, ?_⟩
  have hc : ((bt (c :: r) 0 : Nat) : Int) ≠ 64 := hc
  have hc : ¬ c.toNat = 64 := by omega
  rw [oneOf_two, if_neg hc, decide_eq_false hc]
 ·rename_i hc
  refine jZ (vs := [_, _]) rfl ⟨rfl, rfl, trivial⟩ rfl ⟨rfl, rfl, ?_⟩
  have hc : ¬ ((bt (c :: r) 0 : Nat) : Int) ≠ 64 := hc
  have hc : c.toNat = 64 := by omega
  have e : ((((c :: r).length : Nat) : Int) - 1).toNat = (r.length - 1) + 1 := by simp only [List.length_cons]; omega
  rw [oneOf_two, if_pos hc, decide_eq_true hc, e, List.take_succ_cons]; rfl
theorem c_KindOkS {s : List UInt8} : PuG Try.prog 28 [S s] G (· = Bo (kindOk s)) := by
 induction s with
 | nil =>
  refine jE [(0, _)] Try.func28 Try.ntmps28 fun B hB => ?_
  repeat' (first | (refine jR ?_) | (refine k_op rfl ?_; (refine jV (g_pickF rfl rfl rfl) ?_)) | (refine k_gf rfl rfl rfl ?_) | (refine k_tt rfl rfl ?_))
  all_goals refine jZ (vs := [_]) rfl ⟨rfl, trivial⟩ rfl ⟨rfl, rfl, ?_⟩
  all_goals rfl
 | cons c r ih =>
  have e0 : bt (c :: r) (Int.toNat 0) = c.toNat := bt_c0 c r
  by_cases hl : (c :: r).length ≤ 12
  ·have hl2 : r.length ≤ 12 := by simp at hl; omega
   rw [kindOk, decide_eq_true hl, Bool.true_and, kOk]
   rw [kindOk, decide_eq_true hl2, Bool.true_and] at ih
   have hcons : (c :: r).length = r.length + 1 := rfl
   by_cases h1 : c.toNat = 91
   ·rw [if_pos (.inl h1)]
    refine jE [(0, _)] Try.func28 Try.ntmps28 fun B hB => ?_
    repeat' (first | refine jM ?_ | (refine k_op rfl ?_; first | (refine jV (g_pickF rfl rfl rfl) ?_) | (refine c_rt rfl rfl rfl ih rfl ?_)) | (refine k_gf rfl rfl (dFf (by omega)) ?_) | (refine k_tt rfl (dTt (by omega)) ?_) | (refine k_ff rfl rfl ?_))
    refine jZ (vs := [_]) rfl ⟨rfl, trivial⟩ rfl ⟨rfl, rfl, ?_⟩
    rfl
   by_cases h2 : c.toNat = 63
   ·rw [if_pos (.inr h2)]
    refine jE [(0, _)] Try.func28 Try.ntmps28 fun B hB => ?_
    repeat' (first | refine jM ?_ | (refine k_op rfl ?_; first | (refine jV (g_pickF rfl rfl rfl) ?_) | (refine c_rt rfl rfl rfl ih rfl ?_)) | (refine k_gf rfl rfl (dFf (by omega)) ?_) | (refine k_tt rfl (dTt (by omega)) ?_) | (refine k_ff rfl (by first | rfl | (refine decide_eq_false ?_; (omega))) ?_))
    refine jZ (vs := [_]) rfl ⟨rfl, trivial⟩ rfl ⟨rfl, rfl, ?_⟩
    rfl
   rw [if_neg (by omega)]
   by_cases h3 : c.toNat = 64
   ·rw [if_pos h3]
    have h5 : ((((c :: r).length : Nat) : Int) - 1).toNat = r.length := by omega
    by_cases h4 : ((bt (c :: r) r.length : Nat) : Int) = 59
    ·have h6 : ((bt (c :: r) ((((c :: r).length : Nat) : Int) - 1).toNat : Nat) : Int) = 59 := by rw [h5]; exact h4
     have hp : 0 < r.length := by
      rcases Nat.eq_zero_or_pos r.length with h0 | h0
      ·have : r = [] := List.length_eq_zero_iff.1 h0
       subst this
       have : ((bt [c] (Int.toNat 0) : Nat) : Int) = 59 := h4
       omega
      ·exact h0
     have e1 : ((((c :: r).length : Nat) : Int) - 1).toNat = (r.length - 1) + 1 := by omega
     refine jE [(0, _)] Try.func28 Try.ntmps28 fun B hB => ?_
     repeat' (first | refine jM ?_ | (refine k_op rfl ?_; first | (refine jV (g_pickT rfl rfl rfl) ?_) | (refine jV (g_pickF rfl rfl rfl) ?_) | (refine c_rt rfl rfl rfl (c_l2Name ?_) rfl ?_; (focus ((simp; omega); done)))) | (refine k_gt rfl rfl (dTt ‹_›) ?_) | (refine k_gf rfl rfl (dFf (by omega)) ?_) | (refine k_tt rfl (dTt (by omega)) ?_) | (refine k_ff rfl (by first | rfl | (refine decide_eq_false ?_; (omega))) ?_))
     refine jZ (vs := [_]) rfl ⟨rfl, trivial⟩ rfl ⟨rfl, rfl, ?_⟩
     rw [oneOf_one, decide_eq_true h4, Bool.true_and, e1, List.take_succ_cons]; rfl
    ·have h6 : ¬ ((bt (c :: r) ((((c :: r).length : Nat) : Int) - 1).toNat : Nat) : Int) = 59 := by rw [h5]; exact h4
     refine jE [(0, _)] Try.func28 Try.ntmps28 fun B hB => ?_
     repeat' (first | refine jM ?_ | (refine k_op rfl ?_; (refine jV (g_pickF rfl rfl rfl) ?_)) | (refine k_gf rfl rfl (by refine decide_eq_false ?_; first | assumption | omega) ?_) | (refine k_tt rfl (dTt (by omega)) ?_) | (refine k_ff rfl (by first | rfl | (refine decide_eq_false ?_; (omega))) ?_))
     refine jZ (vs := [_]) rfl ⟨rfl, trivial⟩ rfl ⟨rfl, rfl, ?_⟩
     rw [oneOf_one, decide_eq_false h4, Bool.false_and]
   ·rw [if_neg h3]
    have n1 : ∀ x : UInt8, (c :: r = [x]) = (c.toNat = x.toNat ∧ r = []) := fun x => by
     rw [List.cons.injEq]; exact propext ⟨fun h => ⟨by rw [h.1], h.2⟩, fun h => ⟨UInt8.toNat_inj.1 h.1, h.2⟩⟩
    refine jE [(0, _)] Try.func28 Try.ntmps28 fun B hB => ?_
    repeat' (first | refine jM ?_ | (refine k_op rfl ?_; first | (refine jV (g_pickT rfl rfl rfl) ?_) | (refine jV (g_pickF rfl rfl rfl) ?_)) | (refine k_gt rfl rfl rfl ?_) | (refine k_gf rfl rfl (dFf (by omega)) ?_) | refine k_g rfl rfl (fun _ => ?_) (fun _ => ?_) | (refine k_ff rfl (by first | rfl | (refine decide_eq_false ?_; (omega))) ?_))
    all_goals refine jZ (vs := [_]) rfl ⟨rfl, trivial⟩ rfl ⟨rfl, rfl, ?_⟩
    all_goals rw [oneOf_one]
    ·rename_i h; rw [n1] at h; rw [decide_eq_true h.2, decide_eq_true (p := c.toNat = 110) h.1]; rfl
    ·rename_i h; rw [n1] at h; rw [decide_eq_true h.2, decide_eq_true (p := c.toNat = 116) h.1]; simp
    ·rename_i ha hb
     refine congrArg Bo ?_
     rw [n1] at ha hb
     simp only [n1]
     by_cases hr : r = []
     ·have hx : ¬ c.toNat = 110 := fun h => ha ⟨h, hr⟩
      have hy : ¬ c.toNat = 116 := fun h => hb ⟨h, hr⟩
      simp [hr, hx, hy]
     ·simp [hr]
  ·rw [kindOk, decide_eq_false hl, Bool.false_and]
   refine jE [(0, _)] Try.func28 Try.ntmps28 fun B hB => ?_
   repeat' (first | (refine jR ?_) | (refine k_op rfl ?_; (refine jV (g_pickT rfl rfl rfl) ?_)) | (refine k_gt rfl rfl (dTt (by omega)) ?_) | (refine k_tt rfl rfl ?_))
   all_goals refine jZ (vs := [_]) rfl ⟨rfl, trivial⟩ rfl ⟨rfl, rfl, ?_⟩
   all_goals rfl
theorem c_l2Core {s : List UInt8} (h : kOk s = true) : PuG Try.prog 30 [S s] G (· = S (core s)) := by
 refine jE [(0, _)] Try.func30 Try.ntmps30 fun B hB => ?_
 repeat' (refine jR ?_)
 refine k_loop (ι := List UInt8) (fun t => kOk t = true ∧ core t = core s) (fun t => [(0, S t)]) (fun _ => G) (fun t => []) (fun t => t.length) s ?_ (by repeat' constructor) rfl sRr (fun t Ht => ?_)
 ·exact ⟨h, rfl⟩
 match t, Ht with
 | c :: r, Ht =>
  have e0 : bt (c :: r) (Int.toNat 0) = c.toNat := bt_c0 c r
  have hcons : (c :: r).length = r.length + 1 := rfl
  by_cases h1 : c.toNat = 91 ∨ c.toNat = 63
  ·have hk : kOk r = true := by have := Ht.1; rw [kOk, if_pos h1] at this; exact this
   have hc : core r = core s := by rw [← Ht.2, core, if_pos h1]
   rcases h1 with h1 | h1
   all_goals repeat' (first | refine jM ?_ | (refine k_op rfl ?_; first | (refine jV (g_pickT rfl rfl rfl) ?_) | (refine jV (g_pickF rfl rfl rfl) ?_)) | (refine k_gt rfl rfl (dTt (by omega)) ?_) | (refine k_gf rfl rfl (dFf (by omega)) ?_) | (refine k_tt rfl (by first | rfl | (refine decide_eq_true ?_; (omega))) ?_))
   all_goals exact k_rd r ⟨hk, hc⟩ (by omega) (by repeat' constructor) rfl sRr
  ·repeat' (first | refine jM ?_ | (refine k_op rfl ?_; (refine jV (g_pickF rfl rfl rfl) ?_)) | (refine k_gf rfl rfl (dFf (by omega)) ?_) | (refine k_ff rfl (dFf (by omega)) ?_))
   refine jZ (vs := [_]) rfl ⟨rfl, trivial⟩ rfl ⟨rfl, rfl, ?_⟩
   rw [oneOf_one, ← Ht.2, core, if_neg h1]
theorem c_l6Dec' : ∀ (k : Nat) {n : Int}, n.toNat ≤ k → 0 ≤ n ∧ n ≤ 9223372036854775807 → PuG Try.prog 32 [I n] G (· = S (decI n)) := by
 intro k
 induction k with
 | zero =>
  intro n hk hn
  have h1 : n < 10 := by omega
  refine jE [(0, _)] Try.func32 Try.ntmps32 fun B hB => ?_
  repeat' (first | refine jM ?_ | (refine k_op rfl ?_; first | refine c_bsl rfl rfl rfl rfl rfl rfl fun _ => ?_ | refine jV (g_bsB rfl rfl (by (repeat (first | exact BL.nil | apply BL.cons)); done)) ?_) | (refine k_tt rfl (dTt ‹_›) ?_) | (refine k_ff rfl (dFf (by omega)) ?_))
  refine jZ (vs := [_]) rfl ⟨rfl, trivial⟩ rfl ⟨rfl, rfl, ?_⟩
  rw [oneOf_one, decI_lo h1 hn.1]
 | succ k ih =>
  intro n hk hn
  have hl := decI_len (n := n / 10) (by omega)
  by_cases h1 : n < 10
  ·refine jE [(0, _)] Try.func32 Try.ntmps32 fun B hB => ?_
   repeat' (first | refine jM ?_ | (refine k_op rfl ?_; first | refine c_bsl rfl rfl rfl rfl rfl rfl fun _ => ?_ | refine jV (g_bsB rfl rfl (by (repeat (first | exact BL.nil | apply BL.cons)); done)) ?_) | (refine k_tt rfl (dTt ‹_›) ?_) | (refine k_ff rfl (dFf (by omega)) ?_))
   refine jZ (vs := [_]) rfl ⟨rfl, trivial⟩ rfl ⟨rfl, rfl, ?_⟩
   rw [oneOf_one, decI_lo h1 hn.1]
  ·refine jE [(0, _)] Try.func32 Try.ntmps32 fun B hB => ?_
   repeat' (first | (refine jR ?_) | (refine k_ff rfl (by refine decide_eq_false ?_; first | assumption | omega) ?_) | (refine k_any (s_any (id := 7) _ (fun _ h => h) mixed ?_); refine jU 5 [0, 1, 3, 4, 5, 6] (bts 11 123) ?_ ?_; (focus (repeat' (first | exact trivial | apply And.intro | omega))); refine x_all [2, 7] (by kernel_rfl) (by decide) ⟨?_, ?_, trivial⟩; (focus (refine x_opg rfl rfl ?_; ((refine c_rt rfl rfl rfl (ih ?_ ?_) rfl ?_; (focus ((omega); done)); (focus ((omega); done)))); refine jS (bts 11 127) ?_; refine jA 7 rfl ?_; (refine c_bsl rfl rfl rfl rfl rfl rfl fun _ => ?_); refine jS (bts 11 255) ?_; ((refine jG (bts 11 511) 8 rfl (g_bsB rfl rfl (by (repeat (first | exact BL.nil | apply BL.cons)); done)) ?_)); refine jU 0 [9, 10] (bts 11 2047) ?_ ?_; (focus (repeat' (first | exact trivial | apply And.intro | (simp only [List.length_append, List.length_cons, List.length_nil, Int.toNat_natCast]; omega)))); refine x_done (by kernel_rfl) (k_bk ?_))); rotate_left 1; (focus (refine x_opg rfl rfl ?_; (refine c_bsl rfl rfl rfl rfl rfl rfl fun _ => ?_); refine jS (bts 11 251) ?_; ((refine jG (bts 11 507) 8 rfl (g_bsB rfl rfl (by (repeat (first | exact BL.nil | apply BL.cons)); done)) ?_)); refine jA 2 rfl ?_; ((refine c_rt rfl rfl rfl (ih ?_ ?_) rfl ?_; (focus ((omega); done)); (focus ((omega); done)))); refine jS (bts 11 511) ?_; refine jU 0 [9, 10] (bts 11 2047) ?_ ?_; (focus (repeat' (first | exact trivial | apply And.intro | (simp only [List.length_append, List.length_cons, List.length_nil, Int.toNat_natCast]; omega)))); refine x_done (by kernel_rfl) (k_bk ?_))); rotate_left 1))
   all_goals refine jZ (vs := [_]) rfl ⟨rfl, trivial⟩ rfl ⟨rfl, rfl, ?_⟩
   all_goals rw [oneOf_one, decI_hi (n := n) h1]
theorem c_l6Dec {n : Int} (hn : 0 ≤ n ∧ n ≤ 9223372036854775807) : PuG Try.prog 32 [I n] G (· = S (decI n)) := c_l6Dec' n.toNat (Nat.le_refl _) hn
def plainOf (s : List UInt8) : List UInt8 := if s = [110] then [48] else if s = [116] then [39, 39] else if s = [102] then [110, 111] else []
theorem c_l3Plain {s : List UInt8} : PuG Try.prog 70 [S s] G (· = S (plainOf s)) := by
 refine jE [(0, _)] Try.func70 Try.ntmps70 fun B hB => ?_
 repeat' (first | (refine jR ?_) | refine k_if rfl (fun _ => ?_) (fun _ => ?_))
 all_goals refine jZ (vs := [_]) rfl ⟨rfl, trivial⟩ rfl ⟨rfl, rfl, ?_⟩
 all_goals (rw [oneOf_one, plainOf]; simp [*])
def txN (x : Nat) : Prop := x = 32 ∨ (48 ≤ x ∧ x ≤ 57) ∨ (97 ≤ x ∧ x ≤ 122)
instance (x : Nat) : Decidable (txN x) := inferInstanceAs (Decidable (_ ∨ _))
def TxP (s : List UInt8) : Prop := (2 ≤ s.length ∧ s.length ≤ 14) ∧ bt s 0 = 39 ∧ bt s (s.length - 1) = 39 ∧ ∀ i, i < s.length - 1 → i = 0 ∨ txN (bt s i)
instance (s : List UInt8) : Decidable (TxP s) := inferInstanceAs (Decidable (_ ∧ _ ∧ _ ∧ _))
def isTx (s : List UInt8) : Bool := decide (TxP s)
theorem c_l3Text {s : List UInt8} (h : s.length ≤ 100000000) : PuG Try.prog 66 [S s] G (· = Bo (isTx s)) := by
 by_cases h1 : 2 ≤ s.length ∧ s.length ≤ 14
 case neg =>
  have e : isTx s = false := decide_eq_false fun x => h1 x.1
  rw [e]
  refine jE [(0, _)] Try.func66 Try.ntmps66 fun B hB => ?_
  repeat' (first | (refine jR ?_) | (refine k_op rfl ?_; first | (refine jV (g_pickT rfl rfl rfl) ?_) | (refine jV (g_pickF rfl rfl rfl) ?_)) | (refine k_gt rfl rfl (by first | rfl | (refine decide_eq_true ?_; (omega))) ?_) | refine k_g rfl rfl (fun _ => ?_) (fun _ => ?_) | (refine k_tt rfl rfl ?_))
  all_goals refine jZ (vs := [_]) rfl ⟨rfl, trivial⟩ rfl ⟨rfl, rfl, ?_⟩
  all_goals rfl
 by_cases h2 : bt s 0 = 39
 case neg =>
  have e : isTx s = false := decide_eq_false fun x => h2 x.2.1
  have h3 : ¬ bt s (Int.toNat 0) = 39 := h2
  rw [e]
  refine jE [(0, _)] Try.func66 Try.ntmps66 fun B hB => ?_
  repeat' (first | refine jM ?_ | (refine k_op rfl ?_; first | (refine jV (g_pickT rfl rfl rfl) ?_) | (refine jV (g_pickF rfl rfl rfl) ?_)) | (refine k_gt rfl rfl (dTt (by omega)) ?_) | (refine k_gf rfl rfl (dFf (by omega)) ?_) | (refine k_tt rfl rfl ?_))
  all_goals refine jZ (vs := [_]) rfl ⟨rfl, trivial⟩ rfl ⟨rfl, rfl, ?_⟩
  all_goals rfl
 have h3 : bt s (Int.toNat 0) = 39 := h2
 have h4 : (((s.length : Nat) : Int) - 1).toNat = s.length - 1 := by omega
 by_cases h5 : bt s (s.length - 1) = 39
 case neg =>
  have e : isTx s = false := decide_eq_false fun x => h5 x.2.2.1
  have h6 : ¬ bt s (((s.length : Nat) : Int) - 1).toNat = 39 := by rw [h4]; exact h5
  rw [e]
  refine jE [(0, _)] Try.func66 Try.ntmps66 fun B hB => ?_
  repeat' (first | refine jM ?_ | (refine k_op rfl ?_; (refine jV (g_pickF rfl rfl rfl) ?_)) | (refine k_gf rfl rfl (dFf (by omega)) ?_) | (refine k_tt rfl (dTt (by omega)) ?_))
  all_goals refine jZ (vs := [_]) rfl ⟨rfl, trivial⟩ rfl ⟨rfl, rfl, ?_⟩
  all_goals rfl
 have h6 : bt s (((s.length : Nat) : Int) - 1).toNat = 39 := by rw [h4]; exact h5
 refine jE [(0, _)] Try.func66 Try.ntmps66 fun B hB => ?_
 repeat' (first | refine jM ?_ | (refine k_op rfl ?_; (refine jV (g_pickF rfl rfl rfl) ?_)) | (refine k_gf rfl rfl (dFf (by omega)) ?_) | (refine k_ff rfl (dFf (by omega)) ?_))
 refine k_loop (ι := Nat) (fun i => (1 ≤ i ∧ i ≤ s.length - 1) ∧ ∀ k, k < i → k = 0 ∨ txN (bt s k)) (fun i => [(0, S s), (3, I i)]) (fun _ => G) (fun i => []) (fun i => s.length - i) 1 ?_ (by repeat' constructor) rfl sRr (fun i Hi => ?_)
 ·exact ⟨⟨Nat.le_refl _, by omega⟩, fun k hk => .inl (by omega)⟩
 by_cases hi : i < s.length - 1
 ·by_cases ht : txN (bt s i)
  ·have ht2 : txN (bt s ((i : Int).toNat)) := ht
   unfold txN at ht2
   repeat' (first | refine jM ?_ | (refine k_op rfl ?_; first | (refine jV (g_pickT rfl rfl rfl) ?_) | (refine jV (g_pickF rfl rfl rfl) ?_)) | (refine k_gf rfl rfl (by first | rfl | (refine decide_eq_false ?_; (omega))) ?_) | refine k_g rfl rfl (fun _ => ?_) (fun _ => ?_) | (refine k_tt rfl (dTt (by omega)) ?_) | (refine k_ff rfl (by first | rfl | (refine decide_eq_false ?_; (omega))) ?_))
   all_goals refine k_rd (i + 1) ⟨⟨by omega, by omega⟩, fun k hk => ?_⟩ (by omega) (by repeat' constructor) rfl sRr
   all_goals (rcases Nat.lt_or_ge k i with h7 | h7; · exact Hi.2 k h7)
   all_goals (have : k = i := by omega)
   all_goals (subst this; exact .inr ht)
  ·have ht2 : ¬ txN (bt s ((i : Int).toNat)) := ht
   unfold txN at ht2
   have e : isTx s = false := decide_eq_false fun x => (x.2.2.2 i hi).elim (fun h8 => by omega) ht
   rw [e]
   repeat' (first | refine jM ?_ | (refine k_op rfl ?_; first | (refine jV (g_pickT rfl rfl rfl) ?_) | (refine jV (g_pickF rfl rfl rfl) ?_)) | (refine k_gt rfl rfl (by first | rfl | (refine decide_eq_true ?_; (omega))) ?_) | refine k_g rfl rfl (fun _ => ?_) (fun _ => ?_) | (refine k_tt rfl (by first | rfl | (refine decide_eq_true ?_; (omega))) ?_))
   all_goals refine jZ (vs := [_]) rfl ⟨rfl, trivial⟩ rfl ⟨rfl, rfl, ?_⟩
   all_goals rfl
 ·have e : isTx s = true := decide_eq_true ⟨h1, h2, h5, fun k hk => Hi.2 k (by omega)⟩
  rw [e]
  repeat' (first | refine jM ?_ | (refine k_ff rfl (dFf (by omega)) ?_))
  refine jZ (vs := [_]) rfl ⟨rfl, trivial⟩ rfl ⟨rfl, rfl, ?_⟩
  rfl
def cutA (k : Nat) (acc : List UInt8) : List UInt8 → List (List UInt8)
 | [] => [acc]
 | c :: r => if c.toNat = k then acc :: cutA k [] r else cutA k (acc ++ [c]) r
def cut (k : Nat) (s : List UInt8) : List (List UInt8) := cutA k [] s
theorem c_l3Cut {s : List UInt8} {k : Nat} (h : s.length ≤ 100000000) : FnG Try.prog 41 [S s, U8 k] G [] (fun v L' => L' = [.acc v tStr 1 (cut k s).length (strs (cut k s))] ∧ Shp v (cut k s).length) := by
 refine jH [(0, _), (1, _)] Try.func41 Try.ntmps41 fun B hB hW => ?_
 repeat' (first | (refine jR ?_) | (refine k_op rfl ?_; (refine c_bsl rfl rfl rfl rfl rfl rfl fun _ => ?_)))
 rename_i x
 refine Nx.blkAcc (m := 0) (sz := 1) .here rfl ?_
 refine k_loop (ι := Value × List (List UInt8) × Nat × Nat) (fun i => (i.2.2.1 ≤ i.2.2.2 ∧ i.2.2.2 ≤ s.length ∧ i.2.1.length ≤ i.2.2.2) ∧ i.2.1 ++ cutA k ((s.take i.2.2.2).drop i.2.2.1) (s.drop i.2.2.2) = cut k s) (fun i => [(0, S s), (1, U8 k), (5, i.1), (6, I i.2.2.1), (7, I i.2.2.2)]) (fun _ => G) (fun i => [.acc i.1 tStr 1 i.2.1.length (strs i.2.1)]) (fun i => s.length - i.2.2.2) (.slice (some ⟨x, 0, none⟩) 0 0, [], 0, 0) ?_ (by repeat' constructor) rfl sRr (fun i Hi => ?_)
 ·exact ⟨⟨Nat.le_refl _, Nat.zero_le _, Nat.zero_le _⟩, rfl⟩
 obtain ⟨u, xs, fr, i⟩ := i
 dsimp only at Hi ⊢
 by_cases hi : i < s.length
 ·obtain ⟨c, hc1, hc2⟩ := drop_bt hi
  have hn : s.drop i ≠ [] := by rw [hc1]; simp
  have ht : (s.take (i + 1)).drop fr = (s.take i).drop fr ++ [c] := by
   have e : s[i] = c := by have := List.getElem_cons_drop (h := hi); rw [hc1] at this; exact (List.cons.inj this).1
   rw [List.take_succ_eq_append_getElem hi, e, List.drop_append_of_le_length (by simp; omega)]
  have hcut := Hi.2
  rw [hc1, cutA] at hcut
  by_cases hk : c.toNat = k
  ·have hk2 : bt s i = k := by omega
   rw [if_pos hk] at hcut
   repeat' (first | refine jM ?_ | (refine k_op rfl ?_; first | refine c_bsl rfl rfl rfl rfl rfl rfl fun _ => ?_ | (refine c_apB rfl rfl rfl rfl rfl rfl rfl rfl (by omega) fun _ => ?_)) | (refine k_tt rfl ?_ ?_; (focus ((first | (refine decide_eq_true ?_; (omega)) | (simp [*]; done)); done))))
   refine k_rd (_, xs ++ [(s.take i).drop fr], i + 1, i + 1) ⟨⟨by dsimp only; omega, by dsimp only; omega, by simp; omega⟩, ?_⟩ (by dsimp only; omega) (by repeat' constructor) rfl (by dsimp only; simp only [strs_snoc, List.length_append, List.length_cons, List.length_nil, Nat.zero_add]; repeat (first | exact List.nil_sublist _ | apply List.Sublist.cons_cons))
   have e0 : (s.take (i + 1)).drop (i + 1) = [] := by simp
   dsimp only; rw [e0, ← hcut]; simp
  ·have hk2 : ¬ bt s i = k := by omega
   rw [if_neg hk] at hcut
   repeat' (first | refine jM ?_ | (refine k_tt rfl (dTt (by omega)) ?_) | (refine k_ff rfl ?_ ?_; (focus ((simp; omega); done))))
   refine k_rd (u, xs, fr, i + 1) ⟨⟨by dsimp only; omega, by dsimp only; omega, by dsimp only; omega⟩, ?_⟩ (by dsimp only; omega) (by repeat' constructor) rfl sRr
   dsimp only; rw [ht]; exact hcut
 ·have e : cut k s = xs ++ [s.drop fr] := by
   have ei : i = s.length := by omega
   rw [← Hi.2, ei, List.take_length, List.drop_length]; rfl
  repeat' (first | refine jM ?_ | (refine k_op rfl ?_; first | refine c_bsl rfl rfl rfl rfl rfl rfl fun _ => ?_ | (refine c_apB rfl rfl rfl rfl rfl rfl rfl rfl (by omega) fun _ => ?_)) | (refine k_ff rfl (dFf (by omega)) ?_))
  refine Nx.shp (.head _) fun hsh => k_rr (vs := [_]) rfl ⟨rfl, trivial⟩ rfl (List.Sublist.cons_cons _ (List.nil_sublist _)) ⟨rfl, ?_, ?_⟩
  ·rw [e, strs_snoc, List.length_append]; rfl
  ·rw [e, List.length_append]; exact hsh
def digF (n : Int) : List UInt8 → Option Int
 | [] => some n
 | c :: r => if 48 ≤ c.toNat ∧ c.toNat ≤ 57 then digF (10 * n + ((c.toNat : Int) - 48)) r else none
def numOf (s : List UInt8) (top : Int) : Option Int :=
 if s.length ≤ 6 then
  match digF 0 s with
  | some n => if s = decI n ∧ n ≤ top then some n else none
  | none => none
 else none
theorem pow6 (i : Nat) (hi : i ≤ 5) : (10 : Int) ^ (i + 1) = 10 * 10 ^ i ∧ (10 : Int) ^ i ≤ 100000 ∧ (0 : Int) < 10 ^ i := by
 refine ⟨by rw [Int.pow_succ, Int.mul_comm], ?_⟩
 rcases (show i = 0 ∨ i = 1 ∨ i = 2 ∨ i = 3 ∨ i = 4 ∨ i = 5 by omega) with rfl | rfl | rfl | rfl | rfl | rfl <;> decide
theorem c_l3Num {s : List UInt8} {top : Int} (h : s.length ≤ 100000000) : PuG Try.prog 42 [S s, I top] G (fun v => ∃ n, v = Tu [I n, Bo (numOf s top).isSome] ∧ (∀ m, numOf s top = some m → n = m)) := by
 refine jE [(0, _), (1, _)] Try.func42 Try.ntmps42 fun B hB => ?_
 repeat' (refine jR ?_)
 refine k_loop (ι := Nat × Int) (fun i => (i.1 ≤ s.length ∧ i.1 ≤ 6) ∧ (0 ≤ i.2 ∧ i.2 + 1 ≤ 10 ^ i.1) ∧ digF i.2 (s.drop i.1) = digF 0 s) (fun i => [(0, S s), (1, I top), (6, I i.2), (7, I i.1)]) (fun _ => G) (fun i => []) (fun i => s.length - i.1) (0, 0) ?_ (by repeat' constructor) rfl sRr (fun i Hi => ?_)
 ·exact ⟨⟨by dsimp only; omega, by dsimp only; omega⟩, ⟨by dsimp only; omega, by dsimp only; decide⟩, rfl⟩
 obtain ⟨i, n⟩ := i
 dsimp only at Hi ⊢
 by_cases hi : i < s.length
 ·obtain ⟨c, hc1, hc2⟩ := drop_bt hi
  have hc3 : bt s ((i : Int).toNat) = c.toNat := hc2
  have hd := Hi.2.2
  rw [hc1, digF] at hd
  by_cases h5 : i ≤ 5
  ·have hp := pow6 i h5
   by_cases hdig : 48 ≤ c.toNat ∧ c.toNat ≤ 57
   ·rw [if_pos hdig] at hd
    repeat' (first | refine jM ?_ | (refine k_op rfl ?_; (refine jV (g_pickF rfl rfl rfl) ?_)) | (refine k_gf rfl rfl (dFf (by omega)) ?_) | (refine k_tt rfl (dTt (by omega)) ?_) | (refine k_ff rfl (dFf (by omega)) ?_))
    refine k_rd (i + 1, 10 * n + ((c.toNat : Int) - 48)) ⟨⟨by dsimp only; omega, by dsimp only; omega⟩, ⟨by dsimp only; omega, by dsimp only; rw [hp.1]; omega⟩, hd⟩ (by dsimp only; omega) ?_ rfl sRr
    rw [← hc2]; repeat (first | exact trivial | refine ⟨rfl, ?_⟩)
   ·rw [if_neg hdig] at hd
    have hno : numOf s top = none := by unfold numOf; rw [← hd]; split <;> rfl
    repeat' (first | refine jM ?_ | (refine k_op rfl ?_; first | (refine jV (g_pickT rfl rfl rfl) ?_) | (refine jV (g_pickF rfl rfl rfl) ?_)) | (refine k_gt rfl rfl (by first | rfl | (refine decide_eq_true ?_; (omega))) ?_) | refine k_g rfl rfl (fun _ => ?_) (fun _ => ?_) | (refine k_tt rfl (by first | rfl | (refine decide_eq_true ?_; (omega))) ?_))
    all_goals refine jZ (vs := [_, _]) rfl ⟨rfl, rfl, trivial⟩ rfl ⟨rfl, rfl, ?_⟩
    all_goals exact ⟨_, by rw [hno]; rfl, fun m hm => by rw [hno] at hm; cases hm⟩
  ·have hno : numOf s top = none := by unfold numOf; rw [if_neg (by omega)]
   have e6 : i = 6 := by omega
   subst e6
   repeat' (first | refine jM ?_ | (refine k_op rfl ?_; first | (refine jV (g_pickT rfl rfl rfl) ?_) | (refine jV (g_pickF rfl rfl rfl) ?_)) | (refine k_gt rfl rfl rfl ?_) | refine k_g rfl rfl (fun _ => ?_) (fun _ => ?_) | (refine k_tt rfl (by first | rfl | (refine decide_eq_true ?_; (omega))) ?_))
   all_goals refine jZ (vs := [_, _]) rfl ⟨rfl, rfl, trivial⟩ rfl ⟨rfl, rfl, ?_⟩
   all_goals exact ⟨_, by rw [hno]; rfl, fun m hm => by rw [hno] at hm; cases hm⟩
 ·have ei : i = s.length := by omega
  have hd := Hi.2.2
  rw [ei, List.drop_length, digF] at hd
  have hp : n ≤ 9223372036854775807 := by
   rcases Nat.lt_or_ge i 6 with h1 | h1
   ·have := pow6 i (by omega); omega
   ·have e6 : i = 6 := by omega
    subst e6
    have := Hi.2.1.2
    have e : (10 : Int) ^ 6 = 1000000 := by decide
    omega
  have hno : numOf s top = if s = decI n ∧ n ≤ top then some n else none := by unfold numOf; rw [if_pos (by omega), ← hd]
  repeat' (first | (refine jR ?_) | (refine k_op rfl ?_; first | (refine jV (g_pickT rfl rfl rfl) ?_) | (refine jV (g_pickF rfl rfl rfl) ?_) | (refine c_rt rfl rfl rfl (c_l6Dec (by omega)) rfl ?_)) | refine k_g rfl rfl (fun _ => ?_) (fun _ => ?_) | (refine k_ff rfl (dFf (by omega)) ?_))
  ·rename_i hs
   refine jZ (vs := [_, _]) rfl ⟨rfl, rfl, trivial⟩ rfl ⟨rfl, rfl, ?_⟩
   refine ⟨n, ?_, fun m hm => ?_⟩
   ·rw [hno, oneOf_two]
    by_cases ht : n ≤ top
    ·rw [if_pos ⟨hs, ht⟩, decide_eq_true ht]; rfl
    ·rw [if_neg (fun h => ht h.2), decide_eq_false ht]; rfl
   ·rw [hno] at hm
    split at hm
    ·exact Option.some.inj hm
    ·cases hm
  ·rename_i hs
   refine jZ (vs := [_, _]) rfl ⟨rfl, rfl, trivial⟩ rfl ⟨rfl, rfl, ?_⟩
   refine ⟨n, by rw [hno, if_neg (fun h => hs h.1)]; rfl, fun m hm => ?_⟩
   rw [hno, if_neg (fun h => hs h.1)] at hm; cases hm
def standOk (k s : List UInt8) : Bool :=
 if k = [110] then (numOf s 999999).isSome && decide (s ≠ [48])
 else if k = [116] then isTx s && decide (s ≠ [39, 39])
 else if k = [102] then decide (s = [121, 101, 115])
 else false
theorem c_l3Stand {k s : List UInt8} (h : s.length ≤ 100000000) : PuG Try.prog 69 [S k, S s] G (· = Bo (standOk k s)) := by
 by_cases h1 : k = [110]
 ·have e : standOk k s = ((numOf s 999999).isSome && decide (s ≠ [48])) := by rw [standOk, if_pos h1]
  rw [e]
  refine jE [(0, _), (1, _)] Try.func69 Try.ntmps69 fun B hB => ?_
  repeat' (first | (refine jR ?_) | (refine k_op rfl ?_; first | (refine jV (g_pickT rfl rfl rfl) ?_) | (refine jV (g_pickF rfl rfl rfl) ?_) | (refine c_pu rfl rfl rfl (c_l3Num (by omega)) rfl ?_; rintro _ ⟨n, rfl, hnum⟩)) | refine k_gb rfl rfl (fun _ => ?_) (fun _ => ?_) | (refine k_tt rfl (dTt ‹_›) ?_))
  all_goals refine jZ (vs := [_]) rfl ⟨rfl, trivial⟩ rfl ⟨rfl, rfl, ?_⟩
  all_goals (rw [oneOf_one]; simp [*])
 by_cases h2 : k = [116]
 ·have e : standOk k s = (isTx s && decide (s ≠ [39, 39])) := by rw [standOk, if_neg h1, if_pos h2]
  rw [e]
  refine jE [(0, _), (1, _)] Try.func69 Try.ntmps69 fun B hB => ?_
  repeat' (first | (refine jR ?_) | (refine k_op rfl ?_; first | (refine jV (g_pickT rfl rfl rfl) ?_) | (refine jV (g_pickF rfl rfl rfl) ?_) | (refine c_rt rfl rfl rfl (c_l3Text ‹_›) rfl ?_)) | refine k_g rfl rfl (fun _ => ?_) (fun _ => ?_) | (refine k_tt rfl (dTt ‹_›) ?_) | (refine k_ff rfl (dFf ‹_›) ?_))
  all_goals refine jZ (vs := [_]) rfl ⟨rfl, trivial⟩ rfl ⟨rfl, rfl, ?_⟩
  all_goals (rw [oneOf_one]; simp [*, isTx])
 by_cases h3 : k = [102]
 ·have e : standOk k s = decide (s = [121, 101, 115]) := by rw [standOk, if_neg h1, if_neg h2, if_pos h3]
  rw [e]
  refine jE [(0, _), (1, _)] Try.func69 Try.ntmps69 fun B hB => ?_
  repeat' (first | (refine jR ?_) | (refine k_tt rfl (dTt ‹_›) ?_) | (refine k_ff rfl (dFf ‹_›) ?_))
  all_goals refine jZ (vs := [_]) rfl ⟨rfl, trivial⟩ rfl ⟨rfl, rfl, ?_⟩
  all_goals rfl
 ·have e : standOk k s = false := by rw [standOk, if_neg h1, if_neg h2, if_neg h3]
  rw [e]
  refine jE [(0, _), (1, _)] Try.func69 Try.ntmps69 fun B hB => ?_
  repeat' (first | (refine jR ?_) | (refine k_ff rfl (dFf ‹_›) ?_))
  all_goals refine jZ (vs := [_]) rfl ⟨rfl, trivial⟩ rfl ⟨rfl, rfl, ?_⟩
  all_goals rfl
structure Fld where
 tag : Int
 name : List UInt8
 kind : List UInt8
 stand : List UInt8
deriving Inhabited
def fldF (f : Fld) : List Value := [I f.tag, S f.name, S f.kind, S f.stand]
instance : RowF fldF 4 := ⟨fun _ => rfl⟩
def fldOf (s : List UInt8) (k : Nat) : Option Fld :=
 match cut 58 s with
 | [a, b] => if k = 69 then
   match numOf a 200 with
   | some n => if 1 ≤ n ∧ isNm b = true then some ⟨n, b, [], []⟩ else none
   | none => none
  else none
 | [a, b, c] => if k = 69 then none else
   match numOf a 200 with
   | some n => if 1 ≤ n ∧ isNm b = true then
     match cut 61 c with
     | [d] => if kindOk d = true then some ⟨n, b, d, []⟩ else none
     | [d, e] => if k = 82 ∧ standOk d e = true then some ⟨n, b, d, e⟩ else none
     | _ => none
    else none
   | none => none
 | _ => none
theorem cut_lens {k : Nat} : ∀ {s acc : List UInt8} {x : List UInt8}, x ∈ cutA k acc s → x.length ≤ acc.length + s.length
 | [], acc, x, h => by simp [cutA] at h; subst h; simp
 | c :: r, acc, x, h => by
  unfold cutA at h
  split at h
  ·rcases List.mem_cons.1 h with rfl | h
   ·simp
   ·have := cut_lens h; simp at this ⊢; omega
  ·have := cut_lens h; simp at this ⊢; omega
theorem cut_len {k : Nat} {s x : List UInt8} (h : x ∈ cut k s) : x.length ≤ s.length := by have := cut_lens h; simpa using this
theorem cutA_pos {k : Nat} : ∀ {s acc : List UInt8}, 0 < (cutA k acc s).length
 | [], acc => by simp [cutA]
 | c :: r, acc => by
  unfold cutA
  split
  ·simp
  ·exact cutA_pos
theorem cut_pos {k : Nat} {s : List UInt8} : 0 < (cut k s).length := cutA_pos
theorem cut_length_le {k : Nat} : ∀ {s acc : List UInt8}, (cutA k acc s).length ≤ s.length + 1
 | [], acc => by simp [cutA]
 | c :: r, acc => by
  unfold cutA
  split
  ·have := cut_length_le (k := k) (s := r) (acc := []); simp; omega
  ·have := cut_length_le (k := k) (s := r) (acc := acc ++ [c]); simp; omega
theorem cut_count {k : Nat} {s : List UInt8} : (cut k s).length ≤ s.length + 1 := cut_length_le
end Go.E
namespace Go.E
set_option maxRecDepth 20000
set_option maxHeartbeats 2000000
def cut1 (k : Nat) : List UInt8 → List UInt8 × List UInt8 × Bool
 | [] => ([], [], false)
 | c :: r => if c.toNat = k then ([], r, true) else (c :: (cut1 k r).1, (cut1 k r).2.1, (cut1 k r).2.2)
theorem bt_succ (c : UInt8) (r : List UInt8) (i : Nat) : bt (c :: r) (i + 1) = bt r i := by simp [bt, List.getD]
theorem bt_zero (c : UInt8) (r : List UInt8) : bt (c :: r) 0 = c.toNat := by simp [bt, List.getD]
theorem cut1_no {k : Nat} : ∀ {s : List UInt8}, (∀ j, j < s.length → bt s j ≠ k) → cut1 k s = (s, [], false)
 | [], _ => rfl
 | c :: r, h => by
  have h0 := h 0 (by simp)
  rw [bt_zero] at h0
  have ih := cut1_no (k := k) (s := r) fun j hj => by have := h (j + 1) (by simpa using hj); rwa [bt_succ] at this
  rw [cut1, if_neg h0, ih]
theorem cut1_at {k : Nat} : ∀ {s : List UInt8} {i : Nat}, i < s.length → (∀ j, j < i → bt s j ≠ k) → bt s i = k → cut1 k s = (s.take i, s.drop (i + 1), true)
 | [], i, h, _, _ => by simp at h
 | c :: r, 0, _, _, h => by rw [bt_zero] at h; rw [cut1, if_pos h]; rfl
 | c :: r, i + 1, hl, h, hi => by
  have h0 := h 0 (by omega)
  rw [bt_zero] at h0
  rw [bt_succ] at hi
  have ih := cut1_at (k := k) (s := r) (i := i) (by simpa using hl) (fun j hj => by have := h (j + 1) (by omega); rwa [bt_succ] at this) hi
  rw [cut1, if_neg h0, ih]; rfl
structure Ty where
 sort : Nat
 name : List UInt8
 fields : List Fld
deriving Inhabited
def fresh (f : Fld) (fs : List Fld) : Bool := fs.all fun g => decide (g.tag < f.tag ∧ g.name ≠ f.name)
def fieldsOf (k : Nat) : List (List UInt8) → List Fld → Option (List Fld)
 | [], fs => some fs
 | x :: xs, fs => match fldOf x k with
  | none => none
  | some f => if fresh f fs = true then fieldsOf k xs (fs ++ [f]) else none
def sortOk (k : Nat) : Prop := k = 82 ∨ k = 85 ∨ k = 69
instance (k : Nat) : Decidable (sortOk k) := inferInstanceAs (Decidable (_ ∨ _ ∨ _))
def tyOf : List UInt8 → Option Ty
 | [] => none
 | c :: r => match cut1 61 r with
  | (name, rest, true) => if isNm name = true ∧ sortOk c.toNat then
    if rest = [] then (if c.toNat = 82 then some ⟨82, name, []⟩ else none)
    else match fieldsOf c.toNat (cut 44 rest) [] with
     | some fs => if fs.length ≤ 8 then some ⟨c.toNat, name, fs⟩ else none
     | none => none
   else none
  | _ => none
def refN : List UInt8 → Option (List UInt8)
 | [] => none
 | c :: r => if c.toNat = 64 then some (r.take (r.length - 1)) else none
def findT (ts : List Ty) (name : List UInt8) : Option Ty := ts.find? fun t => decide (t.name = name)
def refT (ts : List Ty) (k : List UInt8) : Option Ty := (refN k).bind (findT ts)
def kind0 (t : Ty) : List UInt8 := (t.fields.headD default).kind
def endsN (ts : List Ty) : Nat → Ty → Bool
 | 0, _ => false
 | n + 1, t => if t.sort ≠ 85 then true else match refT ts (kind0 t) with
  | none => true
  | some u => endsN ts n u
def hasK (ts : List Ty) (k : List UInt8) : Bool := match refN (core k) with
 | none => true
 | some n => (findT ts n).isSome
def NamesAt (ts : List Ty) (i : Nat) : Prop := ∀ k, k < i → (nth ts k).name ≠ (nth ts i).name
def KindsOk (ts : List Ty) (t : Ty) : Prop := t.sort = 69 ∨ ∀ j, j < t.fields.length → hasK ts (nth t.fields j).kind = true
def ValidT (ts : List Ty) : Prop := (∀ i, i < ts.length → NamesAt ts i ∧ KindsOk ts (nth ts i)) ∧ ∀ i, i < ts.length → endsN ts (ts.length + 1) (nth ts i) = true
instance (ts : List Ty) (i : Nat) : Decidable (NamesAt ts i) := inferInstanceAs (Decidable (∀ k, k < i → _))
instance (ts : List Ty) (t : Ty) : Decidable (KindsOk ts t) := inferInstanceAs (Decidable (_ ∨ ∀ j, j < t.fields.length → _))
instance (ts : List Ty) : Decidable (ValidT ts) := inferInstanceAs (Decidable ((∀ i, i < ts.length → _) ∧ ∀ i, i < ts.length → _))
def typesOf : List (List UInt8) → Option (List Ty)
 | [] => some []
 | x :: xs => match tyOf x with
  | none => none
  | some t => (typesOf xs).map (t :: ·)
def schemaOf (s : List UInt8) : Option (List Ty) :=
 if s.length ≤ 400 ∧ (cut 10 s).length ≤ 9 ∧ (cut 10 s).getLastD [] = [] then
  match typesOf (cut 10 s).dropLast with
  | some ts => if ValidT ts then some ts else none
  | none => none
 else none
structure FldW (k : Nat) (f : Fld) : Prop where
 tag : 1 ≤ f.tag ∧ f.tag ≤ 200
 name : isNm f.name = true
 kind : k ≠ 69 → kindOk f.kind = true
 enm : k = 69 → f.kind = [] ∧ f.stand = []
 stand : f.stand ≠ [] → k = 82 ∧ standOk f.kind f.stand = true
theorem numOf_le {s : List UInt8} {top n : Int} (h : numOf s top = some n) : n ≤ top ∧ s = decI n ∧ s.length ≤ 6 := by
 unfold numOf at h
 split at h
 ·split at h
  ·split at h
   ·rename_i h1 _ _ _ h2; simp only [Option.some.injEq] at h; subst h; exact ⟨h2.2, h2.1, h1⟩
   ·cases h
  ·cases h
 ·cases h
theorem standOk_kind {k s : List UInt8} (h : standOk k s = true) : kindOk k = true := by
 unfold standOk at h
 split at h
 ·subst_vars; decide
 ·split at h
  ·subst_vars; decide
  ·split at h
   ·subst_vars; decide
   ·cases h
theorem fldOf_w {s : List UInt8} {k : Nat} {f : Fld} (h : fldOf s k = some f) : FldW k f := by
 unfold fldOf at h
 split at h
 ·split at h
  ·rename_i hk
   split at h
   ·rename_i n hn
    split at h
    ·rename_i hg
     simp only [Option.some.injEq] at h; subst h
     exact ⟨⟨hg.1, (numOf_le hn).1⟩, hg.2, fun h => absurd hk h, fun _ => ⟨rfl, rfl⟩, fun h => absurd rfl h⟩
    ·cases h
   ·cases h
  ·cases h
 ·split at h
  ·cases h
  ·rename_i hk
   split at h
   ·rename_i n hn
    split at h
    ·rename_i hg
     split at h
     ·split at h
      ·rename_i hd
       simp only [Option.some.injEq] at h; subst h
       exact ⟨⟨hg.1, (numOf_le hn).1⟩, hg.2, fun _ => hd, fun h => absurd h hk, fun h => absurd rfl h⟩
      ·cases h
     ·split at h
      ·rename_i hd
       simp only [Option.some.injEq] at h; subst h
       exact ⟨⟨hg.1, (numOf_le hn).1⟩, hg.2, fun _ => standOk_kind hd.2, fun h => absurd h hk, fun _ => hd⟩
      ·cases h
     ·cases h
    ·cases h
   ·cases h
 ·cases h
structure TyW (t : Ty) : Prop where
 sort : sortOk t.sort
 name : isNm t.name = true
 ne : t.sort ≠ 82 → t.fields ≠ []
 len : t.fields.length ≤ 8
 fld : ∀ f ∈ t.fields, FldW t.sort f
 asc : t.fields.Pairwise fun g f => g.tag < f.tag ∧ g.name ≠ f.name
theorem fieldsOf_w {k : Nat} : ∀ {xs : List (List UInt8)} {fs gs : List Fld}, fieldsOf k xs fs = some gs → (∀ f ∈ fs, FldW k f) → fs.Pairwise (fun g f => g.tag < f.tag ∧ g.name ≠ f.name) →
  (∀ f ∈ gs, FldW k f) ∧ gs.Pairwise (fun g f => g.tag < f.tag ∧ g.name ≠ f.name) ∧ gs.length = fs.length + xs.length
 | [], fs, gs, h, h1, h2 => by
  simp only [fieldsOf, Option.some.injEq] at h; subst h; exact ⟨h1, h2, by simp⟩
 | x :: xs, fs, gs, h, h1, h2 => by
  unfold fieldsOf at h
  split at h
  ·cases h
  ·rename_i f hf
   split at h
   ·rename_i hfr
    simp only [fresh, List.all_eq_true, decide_eq_true_eq] at hfr
    have := fieldsOf_w h (fun g hg => by
     rcases List.mem_append.1 hg with hg | hg
     ·exact h1 g hg
     ·simp only [List.mem_singleton] at hg; subst hg; exact fldOf_w hf) (List.pairwise_append.2 ⟨h2, by simp, fun a ha b hb => by
      simp only [List.mem_singleton] at hb; subst hb; exact hfr a ha⟩)
    refine ⟨this.1, this.2.1, ?_⟩
    rw [this.2.2]; simp; omega
   ·cases h
theorem tyOf_w {s : List UInt8} {t : Ty} (h : tyOf s = some t) : TyW t := by
 unfold tyOf at h
 split at h
 ·cases h
 ·split at h
  ·split at h
   ·rename_i hn
    split at h
    ·split at h
     ·simp only [Option.some.injEq] at h; subst h
      exact ⟨.inl rfl, hn.1, fun h => absurd rfl h, by simp, by simp, by simp⟩
     ·cases h
    ·split at h
     ·rename_i fs hfs
      split at h
      ·rename_i hl
       simp only [Option.some.injEq] at h; subst h
       have hw := fieldsOf_w hfs (by simp) (by simp)
       refine ⟨hn.2, hn.1, fun _ h0 => ?_, hl, hw.1, hw.2.1⟩
       have := hw.2.2
       dsimp only at h0
       rw [h0] at this
       have := cut_pos (k := 44) (s := ‹List UInt8›)
       simp at *; omega
      ·cases h
     ·cases h
   ·cases h
  ·cases h
theorem typesOf_w : ∀ {xs : List (List UInt8)} {ts : List Ty}, typesOf xs = some ts → (∀ t ∈ ts, TyW t) ∧ ts.length = xs.length
 | [], ts, h => by simp only [typesOf, Option.some.injEq] at h; subst h; simp
 | x :: xs, ts, h => by
  unfold typesOf at h
  split at h
  ·cases h
  ·rename_i t ht
   cases hr : typesOf xs with
   | none => rw [hr] at h; cases h
   | some us =>
    rw [hr] at h
    simp only [Option.map_some, Option.some.injEq] at h; subst h
    have := typesOf_w hr
    exact ⟨fun u hu => by rcases List.mem_cons.1 hu with rfl | hu; exact tyOf_w ht; exact this.1 u hu, by simp [this.2]⟩
structure SchW (ts : List Ty) : Prop where
 ty : ∀ t ∈ ts, TyW t
 len : ts.length ≤ 8
 valid : ValidT ts
theorem schemaOf_w {s : List UInt8} {ts : List Ty} (h : schemaOf s = some ts) : SchW ts := by
 unfold schemaOf at h
 split at h
 ·rename_i hc
  split at h
  ·rename_i us hus
   split at h
   ·rename_i hv
    simp only [Option.some.injEq] at h; subst h
    have := typesOf_w hus
    exact ⟨this.1, by rw [this.2, List.length_dropLast]; omega, hv⟩
   ·cases h
  ·cases h
 ·cases h
def kindIn (ts : List Ty) (k : List UInt8) : Bool := kindOk k && hasK ts k
theorem findT_mem {ts : List Ty} {n : List UInt8} {t : Ty} (h : findT ts n = some t) : t ∈ ts := List.mem_of_find?_eq_some h
theorem refT_mem {ts : List Ty} {k : List UInt8} {t : Ty} (h : refT ts k = some t) : t ∈ ts := by
 unfold refT at h
 cases hr : refN k with
 | none => rw [hr] at h; cases h
 | some n => rw [hr] at h; exact findT_mem h
def noB (k : Nat) (s : List UInt8) : Prop := ∀ c ∈ s, c.toNat ≠ k
def joinB (c : UInt8) : List (List UInt8) → List UInt8
 | [] => []
 | [x] => x
 | x :: y :: r => x ++ c :: joinB c (y :: r)
theorem joinB_cons (c : UInt8) (x : List UInt8) {xs : List (List UInt8)} (h : xs ≠ []) : joinB c (x :: xs) = x ++ c :: joinB c xs := by
 cases xs with
 | nil => exact absurd rfl h
 | cons y r => rfl
theorem cutA_spec {c : UInt8} : ∀ {s acc : List UInt8}, noB c.toNat acc → joinB c (cutA c.toNat acc s) = acc ++ s ∧ ∀ x ∈ cutA c.toNat acc s, noB c.toNat x
 | [], acc, h => by simp [cutA, joinB]; exact h
 | d :: r, acc, h => by
  unfold cutA
  split
  ·rename_i hd
   have hd : d = c := UInt8.toNat_inj.1 hd
   subst hd
   have ih := cutA_spec (c := d) (s := r) (acc := []) (by intro x hx; cases hx)
   have hp : cutA d.toNat [] r ≠ [] := fun e => by have := cutA_pos (k := d.toNat) (s := r) (acc := []); rw [e] at this; simp at this
   refine ⟨by rw [joinB_cons d acc hp, ih.1]; rfl, fun x hx => ?_⟩
   rcases List.mem_cons.1 hx with rfl | hx
   ·exact h
   ·exact ih.2 x hx
  ·rename_i hd
   have ih := cutA_spec (c := c) (s := r) (acc := acc ++ [d]) (by
    intro x hx
    rcases List.mem_append.1 hx with hx | hx
    ·exact h x hx
    ·simp only [List.mem_singleton] at hx; subst hx; exact hd)
   exact ⟨by rw [ih.1]; simp, ih.2⟩
theorem cut_join (c : UInt8) (s : List UInt8) : joinB c (cut c.toNat s) = s := by have := (cutA_spec (c := c) (s := s) (acc := []) (by intro x hx; cases hx)).1; simpa [cut] using this
theorem cutA_pre {k : Nat} : ∀ {s acc t : List UInt8}, noB k s → cutA k acc (s ++ t) = cutA k (acc ++ s) t
 | [], acc, t, _ => by simp
 | d :: r, acc, t, h => by
  rw [List.cons_append, cutA, if_neg (h d (by simp)), cutA_pre (fun c hc => h c (by simp [hc]))]; simp
theorem cut_no {k : Nat} {s : List UInt8} (h : noB k s) : cut k s = [s] := by
 have := cutA_pre (k := k) (s := s) (acc := []) (t := []) h
 simpa [cut, cutA] using this
theorem cut_app {k : Nat} {s t : List UInt8} {c : UInt8} (h : noB k s) (hc : c.toNat = k) : cut k (s ++ c :: t) = s :: cut k t := by
 unfold cut
 rw [cutA_pre h, cutA, if_pos hc]; rfl
theorem join_cut {c : UInt8} : ∀ {xs : List (List UInt8)}, xs ≠ [] → (∀ x ∈ xs, noB c.toNat x) → cut c.toNat (joinB c xs) = xs
 | [], h, _ => absurd rfl h
 | [x], _, h => cut_no (h x (by simp))
 | x :: y :: r, _, h => by
  rw [joinB, cut_app (h x (by simp)) rfl, join_cut (by simp) fun z hz => h z (by simp at hz ⊢; exact .inr hz)]
def sg (s : List UInt8) : List UInt8 := s.take (s.length - (core s).length)
def bsT : List UInt8 → List UInt8
 | [] => []
 | c :: r => if c.toNat = 64 then [64] else c :: r
def bs (s : List UInt8) : List UInt8 := bsT (core s)
def nm (s : List UInt8) : List UInt8 := (refN (core s)).getD []
def tag0 (t : Ty) : Int := (t.fields.headD default).tag
def standN (ts : List Ty) : Nat → List UInt8 → List UInt8
 | 0, _ => []
 | _ + 1, [] => []
 | n + 1, c :: r => if c.toNat = 91 then [91, 93] else if c.toNat = 63 then [45] else
   match refT ts (c :: r) with
   | none => plainOf (c :: r)
   | some t => if t.sort = 82 then [123, 125] else if t.sort = 69 then 35 :: decI (tag0 t) else 60 :: (decI (tag0 t) ++ 61 :: (standN ts n (kind0 t) ++ [62]))
def standK (ts : List Ty) (k : List UInt8) : List UInt8 := standN ts (ts.length + 2) k
def standF (ts : List Ty) (f : Fld) : List UInt8 := if f.stand = [] then standK ts f.kind else f.stand
def fldT (fs : List Fld) (tag : Int) : Option Fld := fs.find? fun f => decide (f.tag = tag)
structure AskW (ts us : List Ty) (m : List Pr) : Prop where
 nd : m.Nodup
 mem : ∀ p ∈ m, (∃ t ∈ ts, t.name = p.1) ∧ ∃ u ∈ us, u.name = p.2
theorem AskW.nil {ts us : List Ty} : AskW ts us [] := ⟨List.nodup_nil, by simp⟩
theorem nodup_le {α : Type} [DecidableEq α] : ∀ {l l' : List α}, l.Nodup → (∀ x ∈ l, x ∈ l') → l.length ≤ l'.length
 | [], _, _, _ => Nat.zero_le _
 | a :: l, l', hn, hs => by
  rw [List.nodup_cons] at hn
  have ha := hs a (.head _)
  have := nodup_le (l := l) (l' := l'.erase a) hn.2 fun x hx => by
   have hx' := hs x (.tail _ hx)
   exact (List.mem_erase_of_ne (fun e => hn.1 (by rw [← e]; exact hx))).2 hx'
  rw [List.length_erase_of_mem ha] at this
  have hp : 0 < l'.length := List.length_pos_of_mem ha
  simp only [List.length_cons]; omega
theorem AskW.len {ts us : List Ty} {m : List Pr} (h : AskW ts us m) : m.length ≤ ts.length * us.length := by
 have h1 : m.length ≤ (ts.flatMap fun t => us.map fun u => (t.name, u.name)).length := nodup_le h.nd fun p hp => by
  obtain ⟨⟨t, ht, e1⟩, u, hu, e2⟩ := h.mem p hp
  exact List.mem_flatMap.2 ⟨t, ht, List.mem_map.2 ⟨u, hu, by rw [e1, e2]⟩⟩
 have h2 : ∀ ts : List Ty, (ts.flatMap fun t => us.map fun u => (t.name, u.name)).length = ts.length * us.length := fun ts => by
  induction ts with
  | nil => simp
  | cons t ts ih => rw [List.flatMap_cons, List.length_append, ih, List.length_map, List.length_cons, Nat.succ_mul, Nat.add_comm]
 rw [h2] at h1; exact h1
theorem kind_refT {ts : List Ty} {k : List UInt8} (h : kindIn ts k = true) (hr : (refN (core k)).isSome = true) : ∃ t, refT ts (core k) = some t := by
 unfold kindIn hasK at h
 unfold refT
 cases hc : refN (core k) with
 | none => rw [hc] at hr; cases hr
 | some n =>
  rw [hc] at h
  simp only [Bool.and_eq_true] at h
  obtain ⟨_, h⟩ := h
  exact Option.isSome_iff_exists.1 h
inductive V where
 | nd (what : Nat) (text : List UInt8) (tag : Int) (kids : List V)
instance : Inhabited V := ⟨.nd 0 [] 0 []⟩
def V.what : V → Nat | .nd w _ _ _ => w
def V.text : V → List UInt8 | .nd _ x _ _ => x
def V.tag : V → Int | .nd _ _ t _ => t
def V.kids : V → List V | .nd _ _ _ ks => ks
def outW (w : Nat) (x : List UInt8) (t : Int) (e : Bool) (j : List UInt8) : List UInt8 :=
 if w = 116 then 39 :: (x ++ [39]) else if w = 91 then 91 :: (j ++ [93]) else if w = 63 then (if e = true then [45] else 43 :: j)
 else if w = 61 then decI t ++ 61 :: j else if w = 82 then 123 :: (j ++ [125]) else if w = 85 then 60 :: (decI t ++ 61 :: (j ++ [62])) else if w = 69 then 35 :: decI t else x
mutual
def V.out : V → List UInt8
 | .nd w x t ks => outW w x t ks.isEmpty (joinB 44 (V.outs ks))
def V.outs : List V → List (List UInt8)
 | [] => []
 | v :: r => V.out v :: V.outs r
end
mutual
def V.deep : V → Nat
 | .nd w _ _ ks => if w = 61 then V.deeps ks else V.deeps ks + 1
def V.deeps : List V → Nat
 | [] => 0
 | v :: r => max (V.deep v) (V.deeps r)
end
def leafW (w : Nat) (e : Bool) : Bool := (decide (w = 110) || decide (w = 116) || decide (w = 102) || decide (w = 69)) || (decide (w = 63) && e)
mutual
def V.size : V → Nat
 | .nd w _ _ ks => if leafW w ks.isEmpty = true then 1 else V.sizes ks
def V.sizes : List V → Nat
 | [] => 0
 | v :: r => V.size v + V.sizes r
end
theorem V.outs_map : ∀ ks : List V, V.outs ks = ks.map V.out
 | [] => rfl
 | v :: r => by rw [V.outs, V.outs_map r]; rfl
def isDg (c : UInt8) : Bool := decide (48 ≤ c.toNat ∧ c.toNat ≤ 57)
def rdNum (top : Int) (s : List UInt8) : Option (Int × List UInt8) := (numOf (s.takeWhile isDg) top).map fun n => (n, s.dropWhile isDg)
def rdItems (f : List UInt8 → Option (V × List UInt8)) : Nat → List UInt8 → List V → Option (List V × List UInt8)
 | 0, _, _ => none
 | m + 1, s, acc => match f s with
  | none => none
  | some (v, r) => match r with
   | [] => none
   | c :: r' => if c.toNat = 44 then rdItems f m r' (acc ++ [v]) else if c.toNat = 93 then some (acc ++ [v], r') else none
def rdField (f : List UInt8 → List UInt8 → Option (V × List UInt8)) (t : Ty) (s : List UInt8) : Option ((Fld × V) × List UInt8) :=
 match rdNum 200 s with
 | none => none
 | some (n, r) => match fldT t.fields n with
  | none => none
  | some d => match r with
   | [] => none
   | c :: r' => if c.toNat = 61 then (f d.kind r').map fun x => ((d, x.1), x.2) else none
def rdFlds (ts : List Ty) (f : List UInt8 → List UInt8 → Option (V × List UInt8)) (t : Ty) : Nat → Int → List UInt8 → List V → Option (List V × List UInt8)
 | 0, _, _, _ => none
 | m + 1, last, s, acc => match rdField f t s with
  | none => none
  | some ((d, v), r) => if d.tag ≤ last ∨ v.out = standF ts d then none else match r with
   | [] => none
   | c :: r' => if c.toNat = 44 then rdFlds ts f t m d.tag r' (acc ++ [.nd 61 [] d.tag [v]]) else if c.toNat = 125 then some (acc ++ [.nd 61 [] d.tag [v]], r') else none
def rdTyped (ts : List Ty) (f : List UInt8 → List UInt8 → Option (V × List UInt8)) (t : Ty) : List UInt8 → Option (V × List UInt8)
 | [] => none
 | c :: s => if t.sort = 82 then
   (if c.toNat = 123 then (match s with
    | [] => none
    | c' :: r => if c'.toNat = 125 then some (.nd 82 [] 0 [], r) else (rdFlds ts f t (s.length + 1) 0 s []).map fun x => (.nd 82 [] 0 x.1, x.2)) else none)
  else if t.sort = 69 then
   (if c.toNat = 35 then (match rdNum 200 s with
    | none => none
    | some (n, r) => if (fldT t.fields n).isSome = true then some (.nd 69 [] n [], r) else none) else none)
  else if c.toNat = 60 then (match rdField f t s with
    | none => none
    | some ((d, v), r) => match r with
     | [] => none
     | c' :: r' => if c'.toNat = 62 then some (.nd 85 [] d.tag [v], r') else none)
   else none
def rdQuote : List UInt8 → Option (V × List UInt8)
 | [] => none
 | c :: s => if c.toNat = 39 then (match cut1 39 s with
   | (x, r, true) => if isTx (39 :: (x ++ [39])) = true then some (.nd 116 x 0 [], r) else none
   | _ => none) else none
def rdFlag (s : List UInt8) : Option (V × List UInt8) :=
 if [121, 101, 115].isPrefixOf s = true then some (.nd 102 [121, 101, 115] 0 [], s.drop 3) else if [110, 111].isPrefixOf s = true then some (.nd 102 [110, 111] 0 [], s.drop 2) else none
def rdK (ts : List Ty) (f : List UInt8 → List UInt8 → Option (V × List UInt8)) : List UInt8 → List UInt8 → Option (V × List UInt8)
 | [], _ => none
 | c :: k, s =>
  if c.toNat = 91 then (match s with
   | [] => none
   | d :: s' => if d.toNat = 91 then (match s' with
     | [] => none
     | e :: r => if e.toNat = 93 then some (.nd 91 [] 0 [], r) else (rdItems (f k) 20 s' []).map fun x => (.nd 91 [] 0 x.1, x.2)) else none)
  else if c.toNat = 63 then (match s with
   | [] => none
   | d :: s' => if d.toNat = 45 then some (.nd 63 [] 0 [], s') else if d.toNat = 43 then (f k s').map fun x => (.nd 63 [] 0 [x.1], x.2) else none)
  else match refT ts (c :: k) with
   | some t => rdTyped ts f t s
   | none => if c.toNat = 110 then (rdNum 999999 s).map fun x => (.nd 110 (decI x.1) 0 [], x.2) else if c.toNat = 116 then rdQuote s else if c.toNat = 102 then rdFlag s else none
def rd (ts : List Ty) : Nat → List UInt8 → List UInt8 → Option (V × List UInt8)
 | 0, _, _ => none
 | n + 1, k, s => rdK ts (rd ts n) k s
def valOf (ts : List Ty) (k s : List UInt8) : Option V := if s.length ≤ 400 then (match rd ts 12 k s with
 | some (v, []) => some v
 | _ => none) else none
theorem V.deep_mem : ∀ {ks : List V} {v : V}, v ∈ ks → V.deep v ≤ V.deeps ks
 | [], _, h => by cases h
 | u :: ks, v, h => by
  rw [V.deeps]
  rcases List.mem_cons.1 h with rfl | h
  ·exact Nat.le_max_left _ _
  ·exact Nat.le_trans (V.deep_mem h) (Nat.le_max_right _ _)
theorem V.deeps_le : ∀ {ks : List V} {n : Nat}, (∀ v ∈ ks, V.deep v ≤ n) → V.deeps ks ≤ n
 | [], _, _ => by rw [V.deeps]; exact Nat.zero_le _
 | u :: ks, n, h => by
  rw [V.deeps]
  exact Nat.max_le.2 ⟨h u (.head _), V.deeps_le fun v hv => h v (.tail _ hv)⟩
theorem deep_nd {w : Nat} {x : List UInt8} {t : Int} {ks : List V} (h : ¬ w = 61) : V.deep (.nd w x t ks) = V.deeps ks + 1 := by rw [V.deep, if_neg h]
theorem deep_fld {t : Int} {v : V} : V.deep (.nd 61 [] t [v]) = V.deep v := by rw [V.deep, if_pos rfl, V.deeps, V.deeps, Nat.max_zero]
theorem rdItems_all {f : List UInt8 → Option (V × List UInt8)} {p : V → Prop} (h : ∀ s x, f s = some x → p x.1) : ∀ (m : Nat) (s : List UInt8) (acc : List V) {x : List V × List UInt8}, rdItems f m s acc = some x → (∀ v ∈ acc, p v) → ∀ v ∈ x.1, p v
 | 0, _, _, _, e, _ => by cases e
 | m + 1, s, acc, x, e, ha => by
  unfold rdItems at e
  cases hf : f s with
  | none => rw [hf] at e; cases e
  | some y =>
   rw [hf] at e
   have hy := h s y hf
   obtain ⟨v, r⟩ := y
   have ha' : ∀ u ∈ acc ++ [v], p u := fun u hu => by
    rcases List.mem_append.1 hu with hu | hu
    ·exact ha u hu
    ·simp only [List.mem_singleton] at hu; subst hu; exact hy
   cases r with
   | nil => cases e
   | cons c r =>
    dsimp only at e
    split at e
    ·exact rdItems_all h m r _ e ha'
    ·split at e
     ·simp only [Option.some.injEq] at e; subst e; exact ha'
     ·cases e
theorem rdItems_loc {f g : List UInt8 → Option (V × List UInt8)} : ∀ (m : Nat) (s : List UInt8) (acc : List V) {x : List V × List UInt8}, rdItems f m s acc = some x → (∀ s y, f s = some y → y.1 ∈ x.1 → g s = some y) → rdItems g m s acc = some x ∧ ∀ v ∈ acc, v ∈ x.1
 | 0, _, _, _, e, _ => by cases e
 | m + 1, s, acc, x, e, h => by
  unfold rdItems at e ⊢
  cases hf : f s with
  | none => rw [hf] at e; cases e
  | some y =>
   rw [hf] at e
   have hy := h s y hf
   obtain ⟨v, r⟩ := y
   cases r with
   | nil => cases e
   | cons c r =>
    dsimp only at e hy
    split at e
    ·rename_i hc
     obtain ⟨h1, h2⟩ := rdItems_loc m r _ e h
     rw [hy (h2 v (by simp))]
     dsimp only
     rw [if_pos hc]
     exact ⟨h1, fun u hu => h2 u (List.mem_append_left _ hu)⟩
    ·rename_i hc
     split at e
     ·rename_i hc2
      simp only [Option.some.injEq] at e; subst e
      rw [hy (by simp)]
      dsimp only
      rw [if_neg hc, if_pos hc2]
      exact ⟨rfl, fun u hu => List.mem_append_left _ hu⟩
     ·cases e
theorem rdField_inv {f : List UInt8 → List UInt8 → Option (V × List UInt8)} {t : Ty} {s : List UInt8} {x : (Fld × V) × List UInt8} (e : rdField f t s = some x) : x.1.1 ∈ t.fields ∧ ∃ s', f x.1.1.kind s' = some (x.1.2, x.2) := by
 unfold rdField at e
 cases hn : rdNum 200 s with
 | none => rw [hn] at e; cases e
 | some y =>
  rw [hn] at e
  obtain ⟨n, r⟩ := y
  dsimp only at e
  cases hd : fldT t.fields n with
  | none => rw [hd] at e; cases e
  | some d =>
   rw [hd] at e
   cases r with
   | nil => cases e
   | cons c r' =>
    dsimp only at e
    by_cases hc : c.toNat = 61
    ·rw [if_pos hc] at e
     cases hf : f d.kind r' with
     | none => rw [hf] at e; cases e
     | some y =>
      rw [hf] at e
      simp only [Option.map_some, Option.some.injEq] at e
      subst e
      exact ⟨List.mem_of_find?_eq_some hd, r', hf⟩
    ·rw [if_neg hc] at e; cases e
theorem rdField_loc {f g : List UInt8 → List UInt8 → Option (V × List UInt8)} {t : Ty} {s : List UInt8} {x : (Fld × V) × List UInt8} (e : rdField f t s = some x) (h : ∀ k s y, f k s = some y → y.1 = x.1.2 → g k s = some y) : rdField g t s = some x := by
 unfold rdField at e ⊢
 cases hn : rdNum 200 s with
 | none => rw [hn] at e; cases e
 | some y =>
  rw [hn] at e
  obtain ⟨n, r⟩ := y
  dsimp only at e ⊢
  cases hd : fldT t.fields n with
  | none => rw [hd] at e; cases e
  | some d =>
   rw [hd] at e
   cases r with
   | nil => cases e
   | cons c r' =>
    dsimp only at e ⊢
    by_cases hc : c.toNat = 61
    ·rw [if_pos hc] at e ⊢
     cases hf : f d.kind r' with
     | none => rw [hf] at e; cases e
     | some y =>
      rw [hf] at e
      simp only [Option.map_some, Option.some.injEq] at e
      subst e
      rw [h _ _ _ hf rfl]; rfl
    ·rw [if_neg hc] at e; cases e
theorem rdFlds_all {ts : List Ty} {f : List UInt8 → List UInt8 → Option (V × List UInt8)} {t : Ty} {p : V → Prop} (h : ∀ k s x, f k s = some x → ∀ n, p (.nd 61 [] n [x.1])) : ∀ (m : Nat) (last : Int) (s : List UInt8) (acc : List V) {x : List V × List UInt8}, rdFlds ts f t m last s acc = some x → (∀ v ∈ acc, p v) → ∀ v ∈ x.1, p v
 | 0, _, _, _, _, e, _ => by cases e
 | m + 1, last, s, acc, x, e, ha => by
  unfold rdFlds at e
  cases hf : rdField f t s with
  | none => rw [hf] at e; cases e
  | some y =>
   rw [hf] at e
   obtain ⟨_, s', hs'⟩ := rdField_inv hf
   have hy := h _ s' _ hs'
   obtain ⟨⟨d, v⟩, r⟩ := y
   dsimp only at e hy
   have ha' : ∀ u ∈ acc ++ [V.nd 61 [] d.tag [v]], p u := fun u hu => by
    rcases List.mem_append.1 hu with hu | hu
    ·exact ha u hu
    ·simp only [List.mem_singleton] at hu; subst hu; exact hy d.tag
   split at e
   ·cases e
   ·cases r with
    | nil => cases e
    | cons c r =>
     dsimp only at e
     split at e
     ·exact rdFlds_all h m _ r _ e ha'
     ·split at e
      ·simp only [Option.some.injEq] at e; subst e; exact ha'
      ·cases e
theorem rdFlds_loc {ts : List Ty} {f g : List UInt8 → List UInt8 → Option (V × List UInt8)} {t : Ty} : ∀ (m : Nat) (last : Int) (s : List UInt8) (acc : List V) {x : List V × List UInt8}, rdFlds ts f t m last s acc = some x → (∀ k s y, f k s = some y → (∃ n, V.nd 61 [] n [y.1] ∈ x.1) → g k s = some y) → rdFlds ts g t m last s acc = some x ∧ ∀ v ∈ acc, v ∈ x.1
 | 0, _, _, _, _, e, _ => by cases e
 | m + 1, last, s, acc, x, e, h => by
  unfold rdFlds at e ⊢
  cases hf : rdField f t s with
  | none => rw [hf] at e; cases e
  | some y =>
   rw [hf] at e
   obtain ⟨⟨d, v⟩, r⟩ := y
   dsimp only at e
   split at e
   ·cases e
   ·rename_i hd
    cases r with
    | nil => cases e
    | cons c r =>
     dsimp only at e
     split at e
     ·rename_i hc
      obtain ⟨h1, h2⟩ := rdFlds_loc m _ r _ e h
      have hg := rdField_loc (g := g) hf (fun k s y hy e2 => h k s y hy ⟨d.tag, by rw [e2]; exact h2 _ (by simp)⟩)
      rw [hg]
      dsimp only
      rw [if_neg hd, if_pos hc]
      exact ⟨h1, fun u hu => h2 u (List.mem_append_left _ hu)⟩
     ·rename_i hc
      split at e
      ·rename_i hc2
       simp only [Option.some.injEq] at e; subst e
       have hg := rdField_loc (g := g) hf (fun k s y hy e2 => h k s y hy ⟨d.tag, by rw [e2]; simp⟩)
       rw [hg]
       dsimp only
       rw [if_neg hd, if_neg hc, if_pos hc2]
       exact ⟨rfl, fun u hu => List.mem_append_left _ hu⟩
      ·cases e
theorem rdK_loc {ts : List Ty} {f g : List UInt8 → List UInt8 → Option (V × List UInt8)} : ∀ (k s : List UInt8) {x : V × List UInt8}, rdK ts f k s = some x → ∃ w tx tg ks, x.1 = .nd w tx tg ks ∧ ¬ w = 61 ∧ ((∀ k s y, f k s = some y → V.deep y.1 ≤ V.deeps ks → g k s = some y) → rdK ts g k s = some x) ∧ ∀ n, (∀ k s y, f k s = some y → V.deep y.1 ≤ n) → V.deeps ks ≤ n
 | [], _, _, e => by cases e
 | c :: k, s, x, e => by
  unfold rdK at e ⊢
  dsimp only at e ⊢
  have leaf : ∀ {w : Nat} {tx : List UInt8} {tg : Int} {q : Prop}, x.1 = .nd w tx tg [] → ¬ w = 61 → q → ∃ w tx tg ks, x.1 = .nd w tx tg ks ∧ ¬ w = 61 ∧ ((∀ k s y, f k s = some y → V.deep y.1 ≤ V.deeps ks → g k s = some y) → q) ∧ ∀ n, (∀ k s y, f k s = some y → V.deep y.1 ≤ n) → V.deeps ks ≤ n :=
   fun h1 h2 h3 => ⟨_, _, _, [], h1, h2, fun _ => h3, fun n _ => by rw [V.deeps]; exact Nat.zero_le n⟩
  by_cases h91 : c.toNat = 91
  ·simp only [if_pos h91] at e ⊢
   cases s with
   | nil => cases e
   | cons d s' =>
    dsimp only at e ⊢
    by_cases hd : d.toNat = 91
    ·simp only [if_pos hd] at e ⊢
     cases s' with
     | nil => cases e
     | cons e' r =>
      dsimp only at e ⊢
      by_cases he : e'.toNat = 93
      ·simp only [if_pos he] at e ⊢
       have e2 := e
       simp only [Option.some.injEq] at e2; subst e2
       exact leaf rfl (by decide) rfl
      ·simp only [if_neg he] at e ⊢
       cases hf : rdItems (f k) 20 (e' :: r) [] with
       | none => rw [hf] at e; cases e
       | some y =>
        rw [hf] at e
        simp only [Option.map_some, Option.some.injEq] at e; subst e
        refine ⟨91, [], 0, y.1, rfl, by decide, fun h => ?_, fun n h => ?_⟩
        ·rw [(rdItems_loc (g := g k) _ _ _ hf fun s u hu hm => h k s u hu (V.deep_mem hm)).1]; rfl
        ·exact V.deeps_le fun v hv => rdItems_all (p := fun v => V.deep v ≤ n) (fun s u hu => h k s u hu) _ _ _ hf (by simp) v hv
    ·simp only [if_neg hd] at e; cases e
  ·simp only [if_neg h91] at e ⊢
   by_cases h63 : c.toNat = 63
   ·simp only [if_pos h63] at e ⊢
    cases s with
    | nil => cases e
    | cons d s' =>
     dsimp only at e ⊢
     by_cases hd : d.toNat = 45
     ·simp only [if_pos hd] at e ⊢
      have e2 := e
      simp only [Option.some.injEq] at e2; subst e2
      exact leaf rfl (by decide) rfl
     ·simp only [if_neg hd] at e ⊢
      by_cases hd2 : d.toNat = 43
      ·simp only [if_pos hd2] at e ⊢
       cases hf : f k s' with
       | none => rw [hf] at e; cases e
       | some y =>
        rw [hf] at e
        simp only [Option.map_some, Option.some.injEq] at e; subst e
        refine ⟨63, [], 0, [y.1], rfl, by decide, fun h => ?_, fun n h => ?_⟩
        ·rw [h k s' y hf (V.deep_mem (by simp))]; rfl
        ·exact V.deeps_le fun v hv => by simp only [List.mem_singleton] at hv; subst hv; exact h k s' y hf
      ·simp only [if_neg hd2] at e; cases e
   ·simp only [if_neg h63] at e ⊢
    cases hr : refT ts (c :: k) with
    | none =>
     rw [hr] at e
     dsimp only at e ⊢
     by_cases h1 : c.toNat = 110
     ·simp only [if_pos h1] at e ⊢
      cases hn : rdNum 999999 s with
      | none => rw [hn] at e; cases e
      | some y =>
       rw [hn] at e
       have e2 := e
       simp only [Option.map_some, Option.some.injEq] at e2; subst e2
       exact leaf rfl (by decide) rfl
     ·simp only [if_neg h1] at e ⊢
      by_cases h2 : c.toNat = 116
      ·simp only [if_pos h2] at e ⊢
       refine leaf (w := 116) (tx := x.1.text) (tg := 0) ?_ (by decide) e
       unfold rdQuote at e
       split at e
       ·cases e
       ·split at e
        ·split at e
         ·split at e
          ·simp only [Option.some.injEq] at e; subst e; rfl
          ·cases e
         ·cases e
        ·cases e
      ·simp only [if_neg h2] at e ⊢
       by_cases h3 : c.toNat = 102
       ·simp only [if_pos h3] at e ⊢
        refine leaf (w := 102) (tx := x.1.text) (tg := 0) ?_ (by decide) e
        unfold rdFlag at e
        split at e
        ·simp only [Option.some.injEq] at e; subst e; rfl
        ·split at e
         ·simp only [Option.some.injEq] at e; subst e; rfl
         ·cases e
       ·simp only [if_neg h3] at e; cases e
    | some t =>
     rw [hr] at e
     dsimp only at e ⊢
     unfold rdTyped at e ⊢
     cases s with
     | nil => cases e
     | cons d s =>
      dsimp only at e ⊢
      by_cases h82 : t.sort = 82
      ·simp only [if_pos h82] at e ⊢
       by_cases hd : d.toNat = 123
       ·simp only [if_pos hd] at e ⊢
        cases s with
        | nil => cases e
        | cons d' r =>
         dsimp only at e ⊢
         by_cases hd' : d'.toNat = 125
         ·simp only [if_pos hd'] at e ⊢
          have e2 := e
          simp only [Option.some.injEq] at e2; subst e2
          exact leaf rfl (by decide) rfl
         ·simp only [if_neg hd'] at e ⊢
          cases hf : rdFlds ts f t ((d' :: r).length + 1) 0 (d' :: r) [] with
          | none => rw [hf] at e; cases e
          | some y =>
           rw [hf] at e
           simp only [Option.map_some, Option.some.injEq] at e; subst e
           refine ⟨82, [], 0, y.1, rfl, by decide, fun h => ?_, fun n h => ?_⟩
           ·rw [(rdFlds_loc (g := g) _ _ _ _ hf fun k s u hu hm => h k s u hu (by obtain ⟨n, hm⟩ := hm; have := V.deep_mem hm; rwa [deep_fld] at this)).1]; rfl
           ·exact V.deeps_le fun v hv => rdFlds_all (p := fun v => V.deep v ≤ n) (fun k s u hu m => by rw [deep_fld]; exact h k s u hu) _ _ _ _ hf (by simp) v hv
       ·simp only [if_neg hd] at e; cases e
      ·simp only [if_neg h82] at e ⊢
       by_cases h69 : t.sort = 69
       ·simp only [if_pos h69] at e ⊢
        refine leaf (w := 69) (tx := []) (tg := x.1.tag) ?_ (by decide) e
        split at e
        ·split at e
         ·cases e
         ·split at e
          ·simp only [Option.some.injEq] at e; subst e; rfl
          ·cases e
        ·cases e
       ·simp only [if_neg h69] at e ⊢
        by_cases hd : d.toNat = 60
        ·simp only [if_pos hd] at e ⊢
         cases hf : rdField f t s with
         | none => rw [hf] at e; cases e
         | some y =>
          rw [hf] at e
          obtain ⟨⟨fd, v⟩, r⟩ := y
          cases r with
          | nil => cases e
          | cons c' r =>
           dsimp only at e
           by_cases hc' : c'.toNat = 62
           ·simp only [if_pos hc', Option.some.injEq] at e; subst e
            refine ⟨85, [], fd.tag, [v], rfl, by decide, fun h => ?_, fun n h => ?_⟩
            ·rw [rdField_loc (g := g) hf fun k s u hu e2 => h k s u hu (by rw [e2]; exact V.deep_mem (by simp))]
             dsimp only
             rw [if_pos hc']
            ·obtain ⟨_, s', hs'⟩ := rdField_inv hf
             exact V.deeps_le fun u hu => by simp only [List.mem_singleton] at hu; subst hu; exact h _ _ _ hs'
           ·simp only [if_neg hc'] at e; cases e
        ·simp only [if_neg hd] at e; cases e
theorem rd_deep_le {ts : List Ty} : ∀ (n : Nat) (k s : List UInt8) (x : V × List UInt8), rd ts n k s = some x → V.deep x.1 ≤ n
 | 0, _, _, _, e => by cases e
 | n + 1, k, s, x, e => by
  obtain ⟨w, tx, tg, ks, h1, h2, _, h4⟩ := rdK_loc (g := rd ts n) k s e
  rw [h1, deep_nd h2]
  have := h4 n fun k s y hy => rd_deep_le n k s y hy
  omega
theorem u8_eq {c : UInt8} {n : Nat} (h : c.toNat = n) (hn : n < 256) : c = UInt8.ofNat n := by
 apply UInt8.toNat_inj.1; rw [h, UInt8.toNat_ofNat']; omega
theorem rdNum_out {top : Int} {s r : List UInt8} {n : Int} (h : rdNum top s = some (n, r)) : s = decI n ++ r := by
 unfold rdNum at h
 cases hn : numOf (s.takeWhile isDg) top with
 | none => rw [hn] at h; cases h
 | some q =>
  rw [hn] at h
  simp only [Option.map_some, Option.some.injEq, Prod.mk.injEq] at h
  obtain ⟨rfl, rfl⟩ := h
  rw [← (numOf_le hn).2.1, List.takeWhile_append_dropWhile]
theorem rdItems_out {f : List UInt8 → Option (V × List UInt8)} (h : ∀ s y, f s = some y → s = y.1.out ++ y.2) : ∀ (m : Nat) (s : List UInt8) (acc : List V) {x : List V × List UInt8}, rdItems f m s acc = some x → ∃ vs, vs ≠ [] ∧ x.1 = acc ++ vs ∧ s = joinB 44 (vs.map V.out) ++ 93 :: x.2
 | 0, _, _, _, e => by cases e
 | m + 1, s, acc, x, e => by
  unfold rdItems at e
  cases hf : f s with
  | none => rw [hf] at e; cases e
  | some y =>
   rw [hf] at e
   have hy := h s y hf
   obtain ⟨v, r⟩ := y
   cases r with
   | nil => cases e
   | cons c r =>
    dsimp only at e hy
    split at e
    ·rename_i hc
     obtain ⟨vs, h1, h2, h3⟩ := rdItems_out h m r _ e
     have hc2 := u8_eq hc (by decide)
     refine ⟨v :: vs, by simp, by rw [h2]; simp, ?_⟩
     rw [hy, h3, List.map_cons, joinB_cons _ _ (by simpa using h1), hc2]
     simp
    ·split at e
     ·rename_i hc2
      have hc3 := u8_eq hc2 (by decide)
      simp only [Option.some.injEq] at e; subst e
      exact ⟨[v], by simp, rfl, by rw [hy, hc3]; rfl⟩
     ·cases e
theorem out_fld {t : Int} {v : V} : V.out (.nd 61 [] t [v]) = decI t ++ 61 :: v.out := by
 rw [V.out, V.outs, V.outs]; simp [outW, joinB]
theorem rdField_out {f : List UInt8 → List UInt8 → Option (V × List UInt8)} (h : ∀ k s y, f k s = some y → s = y.1.out ++ y.2) {t : Ty} {s : List UInt8} {x : (Fld × V) × List UInt8} (e : rdField f t s = some x) : s = decI x.1.1.tag ++ 61 :: (x.1.2.out ++ x.2) := by
 unfold rdField at e
 cases hn : rdNum 200 s with
 | none => rw [hn] at e; cases e
 | some y =>
  rw [hn] at e
  obtain ⟨n, r⟩ := y
  have h1 := rdNum_out hn
  dsimp only at e
  cases hd : fldT t.fields n with
  | none => rw [hd] at e; cases e
  | some d =>
   rw [hd] at e
   have h2 : d.tag = n := by have := List.find?_some hd; simpa using this
   cases r with
   | nil => cases e
   | cons c r' =>
    dsimp only at e
    by_cases hc : c.toNat = 61
    ·rw [if_pos hc] at e
     cases hf : f d.kind r' with
     | none => rw [hf] at e; cases e
     | some y =>
      rw [hf] at e
      simp only [Option.map_some, Option.some.injEq] at e
      subst e
      have h3 := h _ _ _ hf
      dsimp only
      rw [h1, h2, h3, u8_eq hc (by decide)]; rfl
    ·rw [if_neg hc] at e; cases e
theorem rdFlds_out {ts : List Ty} {f : List UInt8 → List UInt8 → Option (V × List UInt8)} (h : ∀ k s y, f k s = some y → s = y.1.out ++ y.2) {t : Ty} : ∀ (m : Nat) (last : Int) (s : List UInt8) (acc : List V) {x : List V × List UInt8}, rdFlds ts f t m last s acc = some x → ∃ vs, vs ≠ [] ∧ x.1 = acc ++ vs ∧ s = joinB 44 (vs.map V.out) ++ 125 :: x.2
 | 0, _, _, _, _, e => by cases e
 | m + 1, last, s, acc, x, e => by
  unfold rdFlds at e
  cases hf : rdField f t s with
  | none => rw [hf] at e; cases e
  | some y =>
   rw [hf] at e
   have hy := rdField_out h hf
   obtain ⟨⟨d, v⟩, r⟩ := y
   dsimp only at e hy
   split at e
   ·cases e
   ·cases r with
    | nil => cases e
    | cons c r =>
     dsimp only at e
     split at e
     ·rename_i hc
      obtain ⟨vs, h1, h2, h3⟩ := rdFlds_out h m _ r _ e
      have hc2 := u8_eq hc (by decide)
      refine ⟨V.nd 61 [] d.tag [v] :: vs, by simp, by rw [h2]; simp, ?_⟩
      rw [hy, h3, List.map_cons, joinB_cons _ _ (by simpa using h1), hc2, out_fld]
      simp
     ·split at e
      ·rename_i hc2
       have hc3 := u8_eq hc2 (by decide)
       simp only [Option.some.injEq] at e; subst e
       exact ⟨[V.nd 61 [] d.tag [v]], by simp, rfl, by rw [hy, hc3]; simp [joinB, out_fld]⟩
      ·cases e
theorem cut1_join {k : Nat} {c : UInt8} (hc : c.toNat = k) : ∀ {s x r : List UInt8}, cut1 k s = (x, r, true) → s = x ++ c :: r
 | [], _, _, h => by cases h
 | d :: s, x, r, h => by
  unfold cut1 at h
  split at h
  ·rename_i hd
   simp only [Prod.mk.injEq, and_true] at h
   obtain ⟨rfl, rfl⟩ := h
   have : d = c := UInt8.toNat_inj.1 (by rw [hd, hc])
   rw [this]; rfl
  ·simp only [Prod.mk.injEq] at h
   obtain ⟨h1, h2, h3⟩ := h
   have ih := cut1_join hc (s := s) (x := (cut1 k s).1) (r := (cut1 k s).2.1) (by rw [← h3])
   rw [← h1, ← h2, List.cons_append, ← ih]
theorem pre_out {p s : List UInt8} (h : p.isPrefixOf s = true) : s = p ++ s.drop p.length := by
 rw [List.isPrefixOf_iff_prefix] at h
 obtain ⟨t, rfl⟩ := h
 simp
theorem rdQuote_out {s : List UInt8} {x : V × List UInt8} (e : rdQuote s = some x) : s = x.1.out ++ x.2 := by
 unfold rdQuote at e
 cases s with
 | nil => cases e
 | cons c s =>
  dsimp only at e
  by_cases hc : c.toNat = 39
  ·rw [if_pos hc] at e
   rcases hq : cut1 39 s with ⟨y, r, b⟩
   rw [hq] at e
   cases b with
   | false => cases e
   | true =>
    dsimp only at e
    split at e
    ·simp only [Option.some.injEq] at e; subst e
     have h1 := cut1_join (c := 39) rfl hq
     rw [h1, u8_eq hc (by decide)]
     simp [V.out, outW]
    ·cases e
  ·rw [if_neg hc] at e; cases e
theorem rdFlag_out {s : List UInt8} {x : V × List UInt8} (e : rdFlag s = some x) : s = x.1.out ++ x.2 := by
 unfold rdFlag at e
 split at e
 ·rename_i h
  simp only [Option.some.injEq] at e; subst e
  have := pre_out h
  simpa [V.out, outW] using this
 ·split at e
  ·rename_i h
   simp only [Option.some.injEq] at e; subst e
   have := pre_out h
   simpa [V.out, outW] using this
  ·cases e
theorem out_list {ks : List V} {r : List UInt8} : V.out (.nd 91 [] 0 ks) ++ r = 91 :: (joinB 44 (ks.map V.out) ++ 93 :: r) := by
 rw [V.out, V.outs_map]; simp [outW]
theorem out_rec {ks : List V} {r : List UInt8} : V.out (.nd 82 [] 0 ks) ++ r = 123 :: (joinB 44 (ks.map V.out) ++ 125 :: r) := by
 rw [V.out, V.outs_map]; simp [outW]
theorem out_opt {v : V} {r : List UInt8} : V.out (.nd 63 [] 0 [v]) ++ r = 43 :: (v.out ++ r) := by
 rw [V.out, V.outs_map]; simp [outW, joinB]
theorem out_uni {v : V} {n : Int} {r : List UInt8} : V.out (.nd 85 [] n [v]) ++ r = 60 :: (decI n ++ 61 :: (v.out ++ 62 :: r)) := by
 rw [V.out, V.outs_map]; simp [outW, joinB]
theorem rdK_out {ts : List Ty} {f : List UInt8 → List UInt8 → Option (V × List UInt8)} (h : ∀ k s y, f k s = some y → s = y.1.out ++ y.2) : ∀ (k s : List UInt8) {x : V × List UInt8}, rdK ts f k s = some x → s = x.1.out ++ x.2
 | [], _, _, e => by cases e
 | c :: k, s, x, e => by
  unfold rdK at e
  dsimp only at e
  by_cases h91 : c.toNat = 91
  ·simp only [if_pos h91] at e
   cases s with
   | nil => cases e
   | cons d s' =>
    dsimp only at e
    by_cases hd : d.toNat = 91
    ·simp only [if_pos hd] at e
     cases s' with
     | nil => cases e
     | cons e' r =>
      dsimp only at e
      by_cases he : e'.toNat = 93
      ·simp only [if_pos he, Option.some.injEq] at e; subst e
       rw [out_list, u8_eq hd (by decide), u8_eq he (by decide)]; rfl
      ·simp only [if_neg he] at e
       cases hf : rdItems (f k) 20 (e' :: r) [] with
       | none => rw [hf] at e; cases e
       | some y =>
        rw [hf] at e
        simp only [Option.map_some, Option.some.injEq] at e; subst e
        obtain ⟨vs, _, h2, h3⟩ := rdItems_out (h k) _ _ _ hf
        rw [out_list, h2, h3, u8_eq hd (by decide)]; rfl
    ·simp only [if_neg hd] at e; cases e
  ·simp only [if_neg h91] at e
   by_cases h63 : c.toNat = 63
   ·simp only [if_pos h63] at e
    cases s with
    | nil => cases e
    | cons d s' =>
     dsimp only at e
     by_cases hd : d.toNat = 45
     ·simp only [if_pos hd, Option.some.injEq] at e; subst e
      rw [u8_eq hd (by decide)]; simp [V.out, outW]
     ·simp only [if_neg hd] at e
      by_cases hd2 : d.toNat = 43
      ·simp only [if_pos hd2] at e
       cases hf : f k s' with
       | none => rw [hf] at e; cases e
       | some y =>
        rw [hf] at e
        simp only [Option.map_some, Option.some.injEq] at e; subst e
        rw [out_opt, ← h k s' y hf, u8_eq hd2 (by decide)]; rfl
      ·simp only [if_neg hd2] at e; cases e
   ·simp only [if_neg h63] at e
    cases hr : refT ts (c :: k) with
    | none =>
     rw [hr] at e
     dsimp only at e
     by_cases h1 : c.toNat = 110
     ·simp only [if_pos h1] at e
      cases hn : rdNum 999999 s with
      | none => rw [hn] at e; cases e
      | some y =>
       rw [hn] at e
       simp only [Option.map_some, Option.some.injEq] at e; subst e
       rw [rdNum_out hn]; simp [V.out, outW]
     ·simp only [if_neg h1] at e
      by_cases h2 : c.toNat = 116
      ·simp only [if_pos h2] at e; exact rdQuote_out e
      ·simp only [if_neg h2] at e
       by_cases h3 : c.toNat = 102
       ·simp only [if_pos h3] at e; exact rdFlag_out e
       ·simp only [if_neg h3] at e; cases e
    | some t =>
     rw [hr] at e
     dsimp only at e
     unfold rdTyped at e
     cases s with
     | nil => cases e
     | cons d s =>
      dsimp only at e
      by_cases h82 : t.sort = 82
      ·simp only [if_pos h82] at e
       by_cases hd : d.toNat = 123
       ·simp only [if_pos hd] at e
        cases s with
        | nil => cases e
        | cons d' r =>
         dsimp only at e
         by_cases hd' : d'.toNat = 125
         ·simp only [if_pos hd', Option.some.injEq] at e; subst e
          rw [out_rec, u8_eq hd (by decide), u8_eq hd' (by decide)]; rfl
         ·simp only [if_neg hd'] at e
          cases hf : rdFlds ts f t ((d' :: r).length + 1) 0 (d' :: r) [] with
          | none => rw [hf] at e; cases e
          | some y =>
           rw [hf] at e
           simp only [Option.map_some, Option.some.injEq] at e; subst e
           obtain ⟨vs, _, h2, h3⟩ := rdFlds_out h _ _ _ _ hf
           rw [out_rec, h2, h3, u8_eq hd (by decide)]; rfl
       ·simp only [if_neg hd] at e; cases e
      ·simp only [if_neg h82] at e
       by_cases h69 : t.sort = 69
       ·simp only [if_pos h69] at e
        by_cases hd : d.toNat = 35
        ·simp only [if_pos hd] at e
         cases hn : rdNum 200 s with
         | none => rw [hn] at e; cases e
         | some y =>
          rw [hn] at e
          obtain ⟨n, r⟩ := y
          dsimp only at e
          split at e
          ·simp only [Option.some.injEq] at e; subst e
           rw [rdNum_out hn, u8_eq hd (by decide)]; simp [V.out, outW]
          ·cases e
        ·simp only [if_neg hd] at e; cases e
       ·simp only [if_neg h69] at e
        by_cases hd : d.toNat = 60
        ·simp only [if_pos hd] at e
         cases hf : rdField f t s with
         | none => rw [hf] at e; cases e
         | some y =>
          rw [hf] at e
          have h3 := rdField_out h hf
          obtain ⟨⟨fd, v⟩, r⟩ := y
          cases r with
          | nil => cases e
          | cons c' r =>
           dsimp only at e h3
           by_cases hc' : c'.toNat = 62
           ·simp only [if_pos hc', Option.some.injEq] at e; subst e
            rw [out_uni, h3, u8_eq hd (by decide), u8_eq hc' (by decide)]; rfl
           ·simp only [if_neg hc'] at e; cases e
        ·simp only [if_neg hd] at e; cases e
theorem rd_out {ts : List Ty} : ∀ (n : Nat) (k s : List UInt8) (x : V × List UInt8), rd ts n k s = some x → s = x.1.out ++ x.2
 | 0, _, _, _, e => by cases e
 | n + 1, k, s, x, e => rdK_out (fun k s y hy => rd_out n k s y hy) k s e
theorem valOf_out {ts : List Ty} {k s : List UInt8} {v : V} (h : valOf ts k s = some v) : v.out = s ∧ s.length ≤ 400 ∧ V.deep v ≤ 12 := by
 unfold valOf at h
 split at h
 ·rename_i hl
  split at h
  ·rename_i w hw
   simp only [Option.some.injEq] at h; subst h
   have h1 := rd_out _ _ _ _ hw
   have h2 := rd_deep_le _ _ _ _ hw
   simp only [List.append_nil] at h1
   exact ⟨h1.symm, hl, h2⟩
  ·cases h
 ·cases h
end Go.E
namespace Go.E
set_option maxRecDepth 20000
set_option maxHeartbeats 2000000
inductive RdK (ts : List Ty) (f : List UInt8 → List UInt8 → Option (V × List UInt8)) : List UInt8 → List UInt8 → V → List UInt8 → Prop
 | lst0 (k r : List UInt8) : RdK ts f (91 :: k) (91 :: 93 :: r) (.nd 91 [] 0 []) r
 | lst (k s r : List UInt8) (vs : List V) : rdItems (f k) 20 s [] = some (vs, r) → RdK ts f (91 :: k) (91 :: s) (.nd 91 [] 0 vs) r
 | non (k r : List UInt8) : RdK ts f (63 :: k) (45 :: r) (.nd 63 [] 0 []) r
 | opt (k s r : List UInt8) (v : V) : f k s = some (v, r) → RdK ts f (63 :: k) (43 :: s) (.nd 63 [] 0 [v]) r
 | num (k s r : List UInt8) (n : Int) : refT ts (110 :: k) = none → rdNum 999999 s = some (n, r) → RdK ts f (110 :: k) s (.nd 110 (decI n) 0 []) r
 | txt (k s r : List UInt8) (v : V) : refT ts (116 :: k) = none → rdQuote s = some (v, r) → RdK ts f (116 :: k) s v r
 | flg (k s r : List UInt8) (v : V) : refT ts (102 :: k) = none → rdFlag s = some (v, r) → RdK ts f (102 :: k) s v r
 | recd0 (k r : List UInt8) (t : Ty) : refT ts k = some t → t.sort = 82 → RdK ts f k (123 :: 125 :: r) (.nd 82 [] 0 []) r
 | recd (k s r : List UInt8) (t : Ty) (vs : List V) : refT ts k = some t → t.sort = 82 → rdFlds ts f t (s.length + 1) 0 s [] = some (vs, r) → RdK ts f k (123 :: s) (.nd 82 [] 0 vs) r
 | enm (k s r : List UInt8) (t : Ty) (n : Int) : refT ts k = some t → t.sort = 69 → rdNum 200 s = some (n, r) → (fldT t.fields n).isSome = true → RdK ts f k (35 :: s) (.nd 69 [] n []) r
 | uni (k s r : List UInt8) (t : Ty) (d : Fld) (v : V) : refT ts k = some t → t.sort ≠ 82 → t.sort ≠ 69 → rdField f t s = some ((d, v), 62 :: r) → RdK ts f k (60 :: s) (.nd 85 [] d.tag [v]) r
theorem rdK_inv {ts : List Ty} {f : List UInt8 → List UInt8 → Option (V × List UInt8)} : ∀ (k s : List UInt8) {x : V × List UInt8}, rdK ts f k s = some x → RdK ts f k s x.1 x.2
 | [], _, _, e => by cases e
 | c :: k, s, x, e => by
  unfold rdK at e
  dsimp only at e
  by_cases h91 : c.toNat = 91
  ·simp only [if_pos h91] at e
   obtain rfl := u8_eq h91 (by decide)
   cases s with
   | nil => cases e
   | cons d s' =>
    dsimp only at e
    by_cases hd : d.toNat = 91
    ·simp only [if_pos hd] at e
     obtain rfl := u8_eq hd (by decide)
     cases s' with
     | nil => cases e
     | cons e' r =>
      dsimp only at e
      by_cases he : e'.toNat = 93
      ·simp only [if_pos he, Option.some.injEq] at e; subst e
       obtain rfl := u8_eq he (by decide)
       exact .lst0 _ _
      ·simp only [if_neg he] at e
       cases hf : rdItems (f k) 20 (e' :: r) [] with
       | none => rw [hf] at e; cases e
       | some y =>
        rw [hf] at e
        simp only [Option.map_some, Option.some.injEq] at e; subst e
        exact .lst _ _ _ _ hf
    ·simp only [if_neg hd] at e; cases e
  ·simp only [if_neg h91] at e
   by_cases h63 : c.toNat = 63
   ·simp only [if_pos h63] at e
    obtain rfl := u8_eq h63 (by decide)
    cases s with
    | nil => cases e
    | cons d s' =>
     dsimp only at e
     by_cases hd : d.toNat = 45
     ·simp only [if_pos hd, Option.some.injEq] at e; subst e
      obtain rfl := u8_eq hd (by decide)
      exact .non _ _
     ·simp only [if_neg hd] at e
      by_cases hd2 : d.toNat = 43
      ·simp only [if_pos hd2] at e
       obtain rfl := u8_eq hd2 (by decide)
       cases hf : f k s' with
       | none => rw [hf] at e; cases e
       | some y =>
        rw [hf] at e
        simp only [Option.map_some, Option.some.injEq] at e; subst e
        exact .opt _ _ _ _ hf
      ·simp only [if_neg hd2] at e; cases e
   ·simp only [if_neg h63] at e
    cases hr : refT ts (c :: k) with
    | none =>
     rw [hr] at e
     dsimp only at e
     by_cases h1 : c.toNat = 110
     ·simp only [if_pos h1] at e
      obtain rfl := u8_eq h1 (by decide)
      cases hn : rdNum 999999 s with
      | none => rw [hn] at e; cases e
      | some y =>
       rw [hn] at e
       simp only [Option.map_some, Option.some.injEq] at e; subst e
       exact .num _ _ _ _ hr hn
     ·simp only [if_neg h1] at e
      by_cases h2 : c.toNat = 116
      ·simp only [if_pos h2] at e
       obtain rfl := u8_eq h2 (by decide)
       exact .txt _ _ _ _ hr e
      ·simp only [if_neg h2] at e
       by_cases h3 : c.toNat = 102
       ·simp only [if_pos h3] at e
        obtain rfl := u8_eq h3 (by decide)
        exact .flg _ _ _ _ hr e
       ·simp only [if_neg h3] at e; cases e
    | some t =>
     rw [hr] at e
     dsimp only at e
     unfold rdTyped at e
     cases s with
     | nil => cases e
     | cons d s =>
      dsimp only at e
      by_cases h82 : t.sort = 82
      ·simp only [if_pos h82] at e
       by_cases hd : d.toNat = 123
       ·simp only [if_pos hd] at e
        obtain rfl := u8_eq hd (by decide)
        cases s with
        | nil => cases e
        | cons d' r =>
         dsimp only at e
         by_cases hd' : d'.toNat = 125
         ·simp only [if_pos hd', Option.some.injEq] at e; subst e
          obtain rfl := u8_eq hd' (by decide)
          exact .recd0 _ _ t hr h82
         ·simp only [if_neg hd'] at e
          cases hf : rdFlds ts f t ((d' :: r).length + 1) 0 (d' :: r) [] with
          | none => rw [hf] at e; cases e
          | some y =>
           rw [hf] at e
           simp only [Option.map_some, Option.some.injEq] at e; subst e
           exact .recd _ _ _ t _ hr h82 hf
       ·simp only [if_neg hd] at e; cases e
      ·simp only [if_neg h82] at e
       by_cases h69 : t.sort = 69
       ·simp only [if_pos h69] at e
        by_cases hd : d.toNat = 35
        ·simp only [if_pos hd] at e
         obtain rfl := u8_eq hd (by decide)
         cases hn : rdNum 200 s with
         | none => rw [hn] at e; cases e
         | some y =>
          rw [hn] at e
          obtain ⟨n, r⟩ := y
          dsimp only at e
          split at e
          ·rename_i hs
           simp only [Option.some.injEq] at e; subst e
           exact .enm _ _ _ t _ hr h69 hn hs
          ·cases e
        ·simp only [if_neg hd] at e; cases e
       ·simp only [if_neg h69] at e
        by_cases hd : d.toNat = 60
        ·simp only [if_pos hd] at e
         obtain rfl := u8_eq hd (by decide)
         cases hf : rdField f t s with
         | none => rw [hf] at e; cases e
         | some y =>
          rw [hf] at e
          obtain ⟨⟨fd, v⟩, r⟩ := y
          cases r with
          | nil => cases e
          | cons c' r =>
           dsimp only at e
           by_cases hc' : c'.toNat = 62
           ·simp only [if_pos hc', Option.some.injEq] at e; subst e
            obtain rfl := u8_eq hc' (by decide)
            exact .uni _ _ _ t _ _ hr h82 h69 hf
           ·simp only [if_neg hc'] at e; cases e
        ·simp only [if_neg hd] at e; cases e
mutual
def V.tot : V → Nat
 | .nd _ x _ ks => 20 + x.length + V.tots ks
def V.tots : List V → Nat
 | [] => 0
 | v :: r => V.tot v + V.tots r
end
theorem tots_app : ∀ (a b : List V), V.tots (a ++ b) = V.tots a + V.tots b
 | [], b => by simp [V.tots]
 | v :: a, b => by simp only [List.cons_append, V.tots, tots_app a b]; omega
theorem tot_pos (v : V) : 20 ≤ v.tot := by obtain ⟨w, x, t, ks⟩ := v; rw [V.tot]; omega
theorem tots_mem : ∀ {ks : List V} {v : V}, v ∈ ks → V.tot v ≤ V.tots ks
 | u :: ks, v, h => by
  rw [V.tots]
  rcases List.mem_cons.1 h with rfl | h
  ·omega
  ·have := tots_mem h; omega
theorem tots_len : ∀ (ks : List V), 20 * ks.length ≤ V.tots ks
 | [] => by simp [V.tots]
 | u :: ks => by rw [V.tots, List.length_cons]; have := tots_len ks; have := tot_pos u; omega
theorem decI_pos (n : Int) : 1 ≤ (decI n).length := by
 by_cases h : n < 10
 ·by_cases h0 : 0 ≤ n
  ·rw [decI_lo h h0]; simp
  ·have : n.toNat = (0 : Int).toNat := by omega
   have e : decI n = decI 0 := by unfold decI; rw [this]
   rw [e, decI_lo (by decide) (by decide)]; simp
 ·rw [decI_hi h]; simp
theorem rdNum_tot {top : Int} {s r : List UInt8} {n : Int} (h : rdNum top s = some (n, r)) : (decI n).length + r.length = s.length ∧ 1 ≤ (decI n).length := by
 have := rdNum_out h
 exact ⟨by rw [this]; simp, decI_pos n⟩
theorem rdItems_tot {f : List UInt8 → Option (V × List UInt8)} (h : ∀ s y, f s = some y → y.1.tot + 100 * y.2.length ≤ 100 * s.length) : ∀ (m : Nat) (s : List UInt8) (acc : List V) {x : List V × List UInt8}, rdItems f m s acc = some x → V.tots x.1 + 100 * (x.2.length + 1) ≤ V.tots acc + 100 * s.length
 | 0, _, _, _, e => by cases e
 | m + 1, s, acc, x, e => by
  unfold rdItems at e
  cases hf : f s with
  | none => rw [hf] at e; cases e
  | some y =>
   rw [hf] at e
   have hy := h s y hf
   obtain ⟨v, r⟩ := y
   cases r with
   | nil => cases e
   | cons c r =>
    dsimp only at e hy
    have e2 : V.tots (acc ++ [v]) = V.tots acc + v.tot := by simp [tots_app, V.tots]
    rw [List.length_cons] at hy
    split at e
    ·have := rdItems_tot h m r _ e
     omega
    ·split at e
     ·simp only [Option.some.injEq] at e; subst e
      dsimp only; omega
     ·cases e
theorem rdField_tot {f : List UInt8 → List UInt8 → Option (V × List UInt8)} (h : ∀ k s y, f k s = some y → y.1.tot + 100 * y.2.length ≤ 100 * s.length) {t : Ty} {s : List UInt8} {x : (Fld × V) × List UInt8} (e : rdField f t s = some x) : x.1.2.tot + 100 * x.2.length + 200 ≤ 100 * s.length := by
 unfold rdField at e
 cases hn : rdNum 200 s with
 | none => rw [hn] at e; cases e
 | some y =>
  rw [hn] at e
  obtain ⟨n, r⟩ := y
  obtain ⟨h1, h2⟩ := rdNum_tot hn
  dsimp only at e
  cases hd : fldT t.fields n with
  | none => rw [hd] at e; cases e
  | some d =>
   rw [hd] at e
   cases r with
   | nil => cases e
   | cons c r' =>
    dsimp only at e
    rw [List.length_cons] at h1
    by_cases hc : c.toNat = 61
    ·rw [if_pos hc] at e
     cases hf : f d.kind r' with
     | none => rw [hf] at e; cases e
     | some y =>
      rw [hf] at e
      simp only [Option.map_some, Option.some.injEq] at e
      subst e
      have h3 := h _ _ _ hf
      dsimp only
      omega
    ·rw [if_neg hc] at e; cases e
theorem rdFlds_tot {ts : List Ty} {f : List UInt8 → List UInt8 → Option (V × List UInt8)} (h : ∀ k s y, f k s = some y → y.1.tot + 100 * y.2.length ≤ 100 * s.length) {t : Ty} : ∀ (m : Nat) (last : Int) (s : List UInt8) (acc : List V) {x : List V × List UInt8}, rdFlds ts f t m last s acc = some x → V.tots x.1 + 100 * (x.2.length + 1) ≤ V.tots acc + 100 * s.length
 | 0, _, _, _, _, e => by cases e
 | m + 1, last, s, acc, x, e => by
  unfold rdFlds at e
  cases hf : rdField f t s with
  | none => rw [hf] at e; cases e
  | some y =>
   rw [hf] at e
   have hy := rdField_tot h hf
   obtain ⟨⟨d, v⟩, r⟩ := y
   dsimp only at e hy
   split at e
   ·cases e
   ·cases r with
    | nil => cases e
    | cons c r =>
     dsimp only at e
     have e2 : V.tots (acc ++ [V.nd 61 [] d.tag [v]]) = V.tots acc + (20 + v.tot) := by simp [tots_app, V.tots, V.tot]
     rw [List.length_cons] at hy
     split at e
     ·have := rdFlds_tot h m _ r _ e
      omega
     ·split at e
      ·simp only [Option.some.injEq] at e; subst e
       dsimp only; omega
      ·cases e
theorem rd_tot {ts : List Ty} : ∀ (n : Nat) (k s : List UInt8) (x : V × List UInt8), rd ts n k s = some x → x.1.tot + 100 * x.2.length ≤ 100 * s.length
 | 0, _, _, _, e => by cases e
 | n + 1, k, s, x, e => by
  have ih : ∀ k s y, rd ts n k s = some y → y.1.tot + 100 * y.2.length ≤ 100 * s.length := fun k s y hy => rd_tot n k s y hy
  have h := rdK_inv k s (x := x) e
  obtain ⟨v, r⟩ := x
  dsimp only at h ⊢
  cases h with
  | lst0 => simp only [V.tot, V.tots, List.length_cons, List.length_nil]; omega
  | lst k s r vs h =>
   have := rdItems_tot (ih k) _ _ _ h
   simp only [V.tot, V.tots, List.length_cons, List.length_nil] at this ⊢; omega
  | non => simp only [V.tot, V.tots, List.length_cons, List.length_nil]; omega
  | opt k s r v h =>
   have := ih _ _ _ h
   simp only [V.tot, V.tots, List.length_cons, List.length_nil] at this ⊢; omega
  | num k s r n _ h =>
   have := rdNum_tot h
   simp only [V.tot, V.tots]; omega
  | txt k s r v _ h =>
   have e1 := rdQuote_out h
   have h2 : v.out.length = 2 + v.text.length ∧ v.tot = 20 + v.text.length := by
    unfold rdQuote at h
    split at h
    ·cases h
    ·split at h
     ·split at h
      ·split at h
       ·simp only [Option.some.injEq, Prod.mk.injEq] at h
        obtain ⟨rfl, _⟩ := h
        simp [V.out, outW, V.text, V.tot, V.tots]; omega
       ·cases h
      ·cases h
     ·cases h
   rw [e1]
   simp only [List.length_append]
   omega
  | flg k s r v _ h =>
   have e1 := rdFlag_out h
   have h2 : 2 ≤ v.out.length ∧ v.tot ≤ 23 := by
    unfold rdFlag at h
    split at h
    ·simp only [Option.some.injEq, Prod.mk.injEq] at h
     obtain ⟨rfl, _⟩ := h
     simp [V.out, outW, V.tot, V.tots]
    ·split at h
     ·simp only [Option.some.injEq, Prod.mk.injEq] at h
      obtain ⟨rfl, _⟩ := h
      simp [V.out, outW, V.tot, V.tots]
     ·cases h
   rw [e1]
   simp only [List.length_append]
   omega
  | recd0 => simp only [V.tot, V.tots, List.length_cons, List.length_nil]; omega
  | recd k s r t vs _ _ h =>
   have := rdFlds_tot ih _ _ _ _ h
   simp only [V.tot, V.tots, List.length_cons, List.length_nil] at this ⊢; omega
  | enm k s r t n _ _ h _ =>
   have := rdNum_tot h
   simp only [V.tot, V.tots, List.length_cons, List.length_nil]; omega
  | uni k s r t d v _ _ _ h =>
   have := rdField_tot ih h
   simp only [V.tot, V.tots, List.length_cons, List.length_nil] at this ⊢; omega
end Go.E
namespace Go.E
set_option maxRecDepth 20000
set_option maxHeartbeats 2000000
open Go.Proofs
variable {G : Gh}
def lensT (xs : List (List UInt8)) : Nat := (xs.map List.length).sum
theorem lensT_take : ∀ (xs : List (List UInt8)) (i : Nat), lensT (xs.take i) ≤ lensT xs
 | [], i => by simp [lensT]
 | x :: xs, 0 => by simp [lensT]
 | x :: xs, i + 1 => by
  have := lensT_take xs i
  simp only [lensT, List.take_succ_cons, List.map_cons, List.sum_cons] at this ⊢; omega
theorem joinB_snoc (c : UInt8) (y : List UInt8) : ∀ (xs : List (List UInt8)), xs ≠ [] → joinB c (xs ++ [y]) = joinB c xs ++ c :: y
 | [], h => absurd rfl h
 | [x], _ => by simp [joinB]
 | x :: z :: r, _ => by
  have := joinB_snoc c y (z :: r) (by simp)
  simp only [List.cons_append, joinB] at this ⊢
  rw [this]; simp
theorem joinB_len (c : UInt8) : ∀ (xs : List (List UInt8)), (joinB c xs).length ≤ lensT xs + xs.length
 | [] => by simp [joinB]
 | [x] => by simp [joinB, lensT]
 | x :: z :: r => by
  have := joinB_len c (z :: r)
  simp only [joinB, lensT, List.map_cons, List.sum_cons, List.length_append, List.length_cons] at this ⊢; omega
theorem SlV.cap {G : Gh} {p : Option Addr} {c sz m : Nat} {xs : List Value} (h : SlV G (.slice p m c) sz m xs) : m ≤ c := by
 obtain ⟨_, ⟨h1, h2⟩ | ⟨b, o, cap, e, h1, _⟩⟩ := h
 ·omega
 ·simp only [Value.slice.injEq, true_and] at e; omega
end Go.E
namespace Go.E
set_option maxRecDepth 20000
set_option maxHeartbeats 2000000
open Go.Proofs
structure VC where
 what : Nat
 text : List UInt8
 tag : Int
 a : Option Addr
 n : Nat
 c : Nat
instance : Inhabited VC := ⟨⟨0, [], 0, none, 0, 0⟩⟩
abbrev VC.sl (v : VC) : Value := .slice v.a v.n v.c
def vcF (v : VC) : List Value := [U8 (v.what : Nat), S v.text, I v.tag, v.sl]
instance : RowF vcF 4 := ⟨fun _ => rfl⟩
mutual
def V.rep (G : Gh) : V → VC → Prop
 | .nd w x t ks, c => (c.what = w ∧ w ≤ 255) ∧ c.text = x ∧ (c.tag = t ∧ 0 ≤ t ∧ t ≤ 999999) ∧ (c.n = ks.length ∧ (w = 61 → ks.length = 1)) ∧ ∃ cs, SlV G c.sl 4 cs.length (rows vcF cs) ∧ V.reps G ks cs
def V.reps (G : Gh) : List V → List VC → Prop
 | [], cs => cs = []
 | v :: r, cs => ∃ c cs', cs = c :: cs' ∧ V.rep G v c ∧ V.reps G r cs'
end
theorem outs_get : ∀ {ks : List V} {i : Nat}, i < ks.length → nth (V.outs ks) i = (nth ks i).out
 | [], i, h => by simp at h
 | v :: r, 0, _ => rfl
 | v :: r, i + 1, h => by
  have := outs_get (ks := r) (i := i) (by simpa using h)
  simpa [V.outs, nth] using this
theorem outs_len (ks : List V) : (V.outs ks).length = ks.length := by rw [V.outs_map]; simp
theorem tot_nth {ks : List V} {i : Nat} (h : i < ks.length) : V.tot (nth ks i) ≤ V.tots ks := by
 rw [nth_eq h]; exact tots_mem (List.getElem_mem h)
theorem decI_len6' {t : Int} (h : t ≤ 999999) : (decI t).length ≤ 19 := decI_len (by omega)
theorem outW_len {w : Nat} {x : List UInt8} {t : Int} {e : Bool} {j : List UInt8} (ht : t ≤ 999999) : (outW w x t e j).length ≤ 25 + x.length + j.length := by
 have hd := decI_len6' ht
 unfold outW
 split
 ·simp; omega
 split
 ·simp; omega
 split
 ·split
  ·simp; omega
  ·simp; omega
 split
 ·simp; omega
 split
 ·simp; omega
 split
 ·simp; omega
 split
 ·simp; omega
 ·omega
end Go.E
namespace Go.E
set_option maxRecDepth 20000
set_option maxHeartbeats 2000000
open Go.Proofs
variable {G : Gh}
def kdF (s : List UInt8) : List Value := [S (sg s), S (bs s), S (nm s)]
theorem core_head : ∀ {s : List UInt8} {c : UInt8} {r : List UInt8}, core s = c :: r → ¬ (c.toNat = 91 ∨ c.toNat = 63)
 | [], c, r, h => by simp [core] at h
 | d :: s, c, r, h => by
  unfold core at h
  split at h
  ·exact core_head h
  ·rename_i hd
   simp only [List.cons.injEq] at h
   rw [← h.1]; exact hd
def fiF (f : Fld) : List Value := [I f.tag, S f.name, S (sg f.kind), S (bs f.kind), S (nm f.kind), S f.stand]
instance : RowF fiF 6 := ⟨fun _ => rfl⟩
theorem c_cutX {s : List UInt8} {xs : List (List UInt8)} {k : Nat} (n : Nat) (h : s.length ≤ 100000000) (e : cut k s = xs) (hn : xs.length = n) (h0 : 0 < n) :
  FnG Try.prog 41 [S s, U8 k] G [] (fun v L' => ∃ b cap, v = .slice (some ⟨b, 0, none⟩) n cap ∧ L' = [.acc (.slice (some ⟨b, 0, none⟩) n cap) tStr 1 n (strs xs)]) := by
 subst hn; subst e
 refine (c_l3Cut (G := G) (k := k) h).mono ?_
 rintro v G' L' ⟨h1, h2, h3⟩
 obtain ⟨b, cap, rfl⟩ := h3.pos (by omega)
 exact ⟨h1, b, cap, rfl, h2⟩
theorem c_numX {s : List UInt8} {top m : Int} (h : s.length ≤ 100000000) (e : numOf s top = some m) : PuG Try.prog 42 [S s, I top] G (· = Tu [I m, Bo true]) := by
 refine (c_l3Num (G := G) (top := top) h).mono ?_
 rintro v G' L' ⟨h1, h2, n, rfl, h3⟩
 exact ⟨h1, h2, by rw [e, h3 m e]; rfl⟩
abbrev FldPost (s : List UInt8) (k : Nat) (v : Value) : Prop := ∃ f ok, v = Tu [Ag (fldF f), Bo ok] ∧ fldOf s k = if ok then some f else none
theorem fldOf_no {s : List UInt8} {k : Nat} (h : (cut 58 s).length ≠ 2) (h' : (cut 58 s).length ≠ 3) : fldOf s k = none := by
 unfold fldOf
 split
 ·rename_i e; rw [e] at h; simp at h
 ·rename_i e; rw [e] at h'; simp at h'
 ·rfl
theorem c_l3ReadField0 {s : List UInt8} {k : Nat} (h : s.length ≤ 1000) (e : (cut 58 s).length ≠ 2) (e' : (cut 58 s).length ≠ 3) : PuG Try.prog 59 [S s, U8 k] G (FldPost s k) := by
 have e0 : 0 < (cut 58 s).length := cut_pos
 generalize hn : (cut 58 s).length = n at *
 have cx_cut1 := c_cutX (G := G) (k := 58) n (by omega) rfl hn e0
 have hno : fldOf s k = none := fldOf_no (by omega) (by omega)
 refine jE [(0, _), (1, _)] Try.func59 Try.ntmps59 fun B hB => ?_
 repeat' (first | (refine jR ?_) | (refine k_op rfl ?_; first | refine c_al rfl rfl fun _ => ?_ | refine jV (g_lenL rfl) ?_ | (refine jV (g_pickT rfl rfl rfl) ?_) | (refine jV (g_pickF rfl rfl rfl) ?_) | refine jV (g_bld rfl rfl) ?_ | refine c_stA rfl rfl rfl rfl rfl rfl ?_ | (refine c_fng rfl rfl rfl cx_cut1 rfl ?_; rintro _ _ ⟨b1, cap1, rfl, rfl⟩; dsimp only [zA, fA])) | (refine k_gt rfl rfl (dTt (by omega)) ?_) | refine k_g rfl rfl (fun _ => ?_) (fun _ => ?_) | (refine k_tt rfl (by first | rfl | (refine decide_eq_true ?_; (omega))) ?_))
 all_goals refine jZ (vs := [_, _]) rfl ⟨rc_A rfl rfl rfl rfl, rfl, trivial⟩ rfl ⟨rfl, rfl, ?_⟩
 all_goals exact ⟨default, false, rfl, by rw [hno]; rfl⟩
theorem c_l3ReadField2 {s a b : List UInt8} {k : Nat} (h : s.length ≤ 1000) (e : cut 58 s = [a, b]) : PuG Try.prog 59 [S s, U8 k] G (FldPost s k) := by
 have ha : a.length ≤ 1000 := Nat.le_trans (cut_len (k := 58) (s := s) (by rw [e]; simp)) h
 have hb : b.length ≤ 1000 := Nat.le_trans (cut_len (k := 58) (s := s) (by rw [e]; simp)) h
 have cx_cut1 := c_cutX (G := G) (k := 58) 2 (by omega) e rfl (by omega)
 by_cases hk : k = 69
 case neg =>
  have hno : fldOf s k = none := by unfold fldOf; rw [e]; simp [hk]
  refine jE [(0, _), (1, _)] Try.func59 Try.ntmps59 fun B hB => ?_
  repeat' (first | (refine jR ?_) | (refine k_op rfl ?_; first | refine c_al rfl rfl fun _ => ?_ | refine jV (g_lenL rfl) ?_ | (refine jV (g_pickT rfl rfl rfl) ?_) | refine jV (g_bld rfl rfl) ?_ | refine c_stA rfl rfl rfl rfl rfl rfl ?_ | (refine c_fng rfl rfl rfl cx_cut1 rfl ?_; rintro _ _ ⟨b1, cap1, rfl, rfl⟩; dsimp only [zA, fA])) | (refine k_gt rfl rfl (by first | rfl | (refine decide_eq_true ?_; (omega))) ?_) | (refine k_tt rfl rfl ?_))
  all_goals refine jZ (vs := [_, _]) rfl ⟨rc_A rfl rfl rfl rfl, rfl, trivial⟩ rfl ⟨rfl, rfl, ?_⟩
  all_goals exact ⟨default, false, rfl, by rw [hno]; rfl⟩
 subst hk
 rcases hm : numOf a 200 with _ | m
 ·have hno : fldOf s 69 = none := by unfold fldOf; rw [e]; simp [hm]
  refine jE [(0, _), (1, _)] Try.func59 Try.ntmps59 fun B hB => ?_
  repeat' (first | (refine jR ?_) | (refine k_op rfl ?_; first | refine c_al rfl rfl fun _ => ?_ | refine jV (g_lenL rfl) ?_ | (refine jV (g_pickT rfl rfl rfl) ?_) | (refine jV (g_pickF rfl rfl rfl) ?_) | refine jV (g_bld rfl rfl) ?_ | refine c_stA rfl rfl rfl rfl rfl rfl ?_ | (refine jV (g_iaddr rfl rfl (by omega)) ?_) | refine jV (g_ldB rfl rfl rfl) ?_ | refine jV (g_ldA rfl rfl rfl rfl) ?_ | (refine c_fng rfl rfl rfl cx_cut1 rfl ?_; rintro _ _ ⟨b1, cap1, rfl, rfl⟩; dsimp only [zA, fA]) | (refine c_pu rfl rfl rfl (c_l3Num (by omega)) rfl ?_; rintro _ ⟨n, rfl, hnum⟩)) | (refine k_gt rfl rfl ?_ ?_; (focus ((first | rfl | (simp [*]; done)); done))) | (refine k_gf rfl rfl rfl ?_) | (refine k_tt rfl rfl ?_) | (refine k_ff rfl rfl ?_))
  all_goals refine jZ (vs := [_, _]) rfl ⟨rc_A rfl rfl rfl rfl, rfl, trivial⟩ rfl ⟨rfl, rfl, ?_⟩
  all_goals exact ⟨⟨_, _, _, _⟩, false, rfl, by rw [hno]; rfl⟩
 have cx_num := c_numX (G := G) (by omega) hm
 have hyes : fldOf s 69 = if 1 ≤ m ∧ isNm b = true then some ⟨m, b, [], []⟩ else none := by unfold fldOf; rw [e]; simp [hm]
 refine jE [(0, _), (1, _)] Try.func59 Try.ntmps59 fun B hB => ?_
 repeat' (first | (refine jR ?_) | (refine k_op rfl ?_; first | refine c_al rfl rfl fun _ => ?_ | refine jV (g_lenL rfl) ?_ | (refine jV (g_pickT rfl rfl rfl) ?_) | (refine jV (g_pickF rfl rfl rfl) ?_) | refine jV (g_bld rfl rfl) ?_ | refine c_stA rfl rfl rfl rfl rfl rfl ?_ | (refine jV (g_iaddr rfl rfl (by omega)) ?_) | refine jV (g_ld rfl rfl rfl) ?_ | refine jV (g_ldB rfl rfl rfl) ?_ | refine jV (g_ldA rfl rfl rfl rfl) ?_ | (refine c_fng rfl rfl rfl cx_cut1 rfl ?_; rintro _ _ ⟨b1, cap1, rfl, rfl⟩; dsimp only [zA, fA]) | (refine c_rt rfl rfl rfl cx_num rfl ?_) | (refine c_rt rfl rfl rfl (c_l2Name (by omega)) rfl ?_)) | (refine k_gt rfl rfl rfl ?_) | (refine k_gf rfl rfl rfl ?_) | refine k_g rfl rfl (fun _ => ?_) (fun _ => ?_) | (refine k_tt rfl rfl ?_) | (refine k_ff rfl rfl ?_) | refine k_cd rfl (fun _ => ?_) (fun _ => ?_))
 all_goals refine jZ (vs := [_, _]) rfl ⟨rc_A rfl rfl rfl rfl, rfl, trivial⟩ rfl ⟨rfl, rfl, ?_⟩
 all_goals first | exact ⟨⟨m, b, [], []⟩, true, rfl, by rw [hyes]; simp_all; try omega⟩ | exact ⟨⟨m, b, [], []⟩, false, rfl, by rw [hyes]; simp_all; try omega⟩
theorem c_l3ReadField3b {s a b c d f : List UInt8} {k : Nat} {m : Int} (h : s.length ≤ 1000) (e : cut 58 s = [a, b, c]) (hk : ¬ k = 69) (hm : numOf a 200 = some m) (hg1 : 1 ≤ m) (hg2 : isNm b = true) (e2 : cut 61 c = [d, f]) : PuG Try.prog 59 [S s, U8 k] G (FldPost s k) := by
 have ha : a.length ≤ 1000 := Nat.le_trans (cut_len (k := 58) (s := s) (by rw [e]; simp)) h
 have hb : b.length ≤ 1000 := Nat.le_trans (cut_len (k := 58) (s := s) (by rw [e]; simp)) h
 have hc : c.length ≤ 1000 := Nat.le_trans (cut_len (k := 58) (s := s) (by rw [e]; simp)) h
 have cx_cut1 := c_cutX (G := G) (k := 58) 3 (by omega) e rfl (by omega)
 have cx_num := c_numX (G := G) (by omega) hm
 have hyes : fldOf s k = if k = 82 ∧ standOk d f = true then some ⟨m, b, d, f⟩ else none := by
  unfold fldOf; rw [e]; simp [hm, hg1, hg2, hk, e2]
 have hd : d.length ≤ 1000 := Nat.le_trans (cut_len (k := 61) (s := c) (by rw [e2]; simp)) hc
 have hf : f.length ≤ 1000 := Nat.le_trans (cut_len (k := 61) (s := c) (by rw [e2]; simp)) hc
 have cx_cut2 := c_cutX (G := G) (k := 61) 2 (by omega) e2 rfl (by omega)
 by_cases h82 : k = 82
 ·have h83 : (k : Int) = 82 := by omega
  refine jE [(0, _), (1, _)] Try.func59 Try.ntmps59 fun B hB => ?_
  repeat' (first | (refine jR ?_) | (refine k_op rfl ?_; first | refine c_al rfl rfl fun _ => ?_ | refine jV (g_lenL rfl) ?_ | (refine jV (g_pickT rfl rfl rfl) ?_) | (refine jV (g_pickF rfl rfl rfl) ?_) | refine jV (g_bld rfl rfl) ?_ | refine c_st1 rfl rfl rfl rfl ?_ | refine c_stA rfl rfl rfl rfl rfl rfl ?_ | (refine jV (g_iaddr rfl rfl (by omega)) ?_) | refine jV (g_ld rfl rfl rfl) ?_ | refine jV (g_ldB rfl rfl rfl) ?_ | (refine c_fng rfl rfl rfl cx_cut1 rfl ?_; rintro _ _ ⟨b1, cap1, rfl, rfl⟩; dsimp only [zA, fA]) | (refine c_fng rfl rfl rfl cx_cut2 rfl ?_; rintro _ _ ⟨b2, cap2, rfl, rfl⟩; dsimp only [zA, fA]) | (refine c_rt rfl rfl rfl cx_num rfl ?_) | (refine c_rt rfl rfl rfl (c_l2Name (by omega)) rfl ?_)) | (refine k_gt rfl rfl rfl ?_) | (refine k_gf rfl rfl (by first | rfl | (refine decide_eq_false ?_; (omega))) ?_) | (refine k_tt rfl rfl ?_) | (refine k_ff rfl ?_ ?_; (focus ((first | (refine decide_eq_false ?_; (omega)) | (simp [*]; done)); done))) | (refine k_any (s_anyD (id := 14) (tt := 4) rfl mixed ?_); refine jU 9 [1, 2, 3] (bts 12 14) ?_ ?_; (focus (repeat' (exact trivial))); (try (refine Nx.re (d := 76) (v' := Bo true) rfl (congrArg Value.bool (dTt ‹_›)) ?_)); refine jU 7 [4, 6] (bts 12 94) ?_ ?_; (focus (repeat' (exact trivial))); (refine jG (bts 12 95) 0 rfl (g_ldA rfl rfl rfl rfl) ?_); (refine jG (bts 12 127) 5 rfl (g_ld rfl rfl rfl) ?_); (refine jG (bts 12 255) 7 rfl (g_ld rfl rfl rfl) ?_); ((refine jA 8 rfl ?_; (refine c_rt rfl rfl rfl (c_l3Stand (by omega)) rfl ?_); refine jK (bts 12 511) ?_)); ((refine jG (bts 12 1023) 9 rfl (g_pickT rfl rfl ?_) ?_; (focus ((rfl); done)))); refine jA 10 rfl ?_; (refine c_stA rfl rfl rfl rfl rfl rfl ?_); refine jK (bts 12 2047) ?_; refine jU 0 [11] (bts 12 4095) ?_ ?_; (focus (repeat' (exact trivial))); refine x_done (by kernel_rfl) (k_bk ?_)))
  all_goals refine jZ (vs := [_, _]) rfl ⟨rc_A rfl rfl rfl rfl, rfl, trivial⟩ rfl ⟨rfl, rfl, ?_⟩
  all_goals exact ⟨⟨m, b, d, f⟩, standOk d f, rfl, by rw [hyes]; simp [h82]⟩
 ·have h83 : ¬ (k : Int) = 82 := by omega
  refine jE [(0, _), (1, _)] Try.func59 Try.ntmps59 fun B hB => ?_
  repeat' (first | (refine jR ?_) | (refine k_op rfl ?_; first | refine c_al rfl rfl fun _ => ?_ | refine jV (g_lenL rfl) ?_ | (refine jV (g_pickT rfl rfl rfl) ?_) | (refine jV (g_pickF rfl rfl rfl) ?_) | refine jV (g_bld rfl rfl) ?_ | refine c_st1 rfl rfl rfl rfl ?_ | refine c_stA rfl rfl rfl rfl rfl rfl ?_ | (refine jV (g_iaddr rfl rfl (by omega)) ?_) | refine jV (g_ld rfl rfl rfl) ?_ | refine jV (g_ldB rfl rfl rfl) ?_ | (refine c_fng rfl rfl rfl cx_cut1 rfl ?_; rintro _ _ ⟨b1, cap1, rfl, rfl⟩; dsimp only [zA, fA]) | (refine c_fng rfl rfl rfl cx_cut2 rfl ?_; rintro _ _ ⟨b2, cap2, rfl, rfl⟩; dsimp only [zA, fA]) | (refine c_rt rfl rfl rfl cx_num rfl ?_) | (refine c_rt rfl rfl rfl (c_l2Name (by omega)) rfl ?_)) | (refine k_gt rfl rfl rfl ?_) | (refine k_gf rfl rfl (by first | rfl | (refine decide_eq_false ?_; (omega))) ?_) | (refine k_tt rfl rfl ?_) | (refine k_ff rfl ?_ ?_; (focus ((first | (refine decide_eq_false ?_; (omega)) | (simp [*]; done)); done))) | (refine k_any (s_anyD (id := 14) (tt := 4) rfl mixed ?_); refine jU 9 [1, 2, 3] (bts 12 14) ?_ ?_; (focus (repeat' (exact trivial))); (try (refine Nx.re (d := 76) (v' := Bo false) rfl (congrArg Value.bool (dFf ‹_›)) ?_)); refine jU 7 [4, 6] (bts 12 94) ?_ ?_; (focus (repeat' (exact trivial))); (refine jG (bts 12 95) 0 rfl (g_ldA rfl rfl rfl rfl) ?_); (refine jN (bts 12 127) 5 rfl ?_); (refine jN (bts 12 255) 7 rfl ?_); (refine jN (bts 12 511) 8 rfl ?_); ((refine jG (bts 12 1023) 9 rfl (g_pickF rfl rfl ?_) ?_; (focus ((rfl); done)))); refine jA 10 rfl ?_; (refine c_stA rfl rfl rfl rfl rfl rfl ?_); refine jK (bts 12 2047) ?_; refine jU 0 [11] (bts 12 4095) ?_ ?_; (focus (repeat' (exact trivial))); refine x_done (by kernel_rfl) (k_bk ?_)))
  all_goals refine jZ (vs := [_, _]) rfl ⟨rc_A rfl rfl rfl rfl, rfl, trivial⟩ rfl ⟨rfl, rfl, ?_⟩
  all_goals exact ⟨⟨m, b, d, f⟩, false, rfl, by rw [hyes]; simp [h82]⟩
theorem c_l3ReadField3 {s a b c : List UInt8} {k : Nat} (h : s.length ≤ 1000) (e : cut 58 s = [a, b, c]) : PuG Try.prog 59 [S s, U8 k] G (FldPost s k) := by
 have ha : a.length ≤ 1000 := Nat.le_trans (cut_len (k := 58) (s := s) (by rw [e]; simp)) h
 have hb : b.length ≤ 1000 := Nat.le_trans (cut_len (k := 58) (s := s) (by rw [e]; simp)) h
 have hc : c.length ≤ 1000 := Nat.le_trans (cut_len (k := 58) (s := s) (by rw [e]; simp)) h
 have cx_cut1 := c_cutX (G := G) (k := 58) 3 (by omega) e rfl (by omega)
 by_cases hk : k = 69
 case pos =>
  subst hk
  have hno : fldOf s 69 = none := by unfold fldOf; rw [e]; simp
  refine jE [(0, _), (1, _)] Try.func59 Try.ntmps59 fun B hB => ?_
  repeat' (first | (refine jR ?_) | (refine k_op rfl ?_; first | refine c_al rfl rfl fun _ => ?_ | refine jV (g_lenL rfl) ?_ | (refine jV (g_pickT rfl rfl rfl) ?_) | (refine jV (g_pickF rfl rfl rfl) ?_) | refine jV (g_bld rfl rfl) ?_ | refine c_stA rfl rfl rfl rfl rfl rfl ?_ | (refine c_fng rfl rfl rfl cx_cut1 rfl ?_; rintro _ _ ⟨b1, cap1, rfl, rfl⟩; dsimp only [zA, fA])) | (refine k_gt rfl rfl rfl ?_) | (refine k_gf rfl rfl rfl ?_) | (refine k_tt rfl rfl ?_))
  all_goals refine jZ (vs := [_, _]) rfl ⟨rc_A rfl rfl rfl rfl, rfl, trivial⟩ rfl ⟨rfl, rfl, ?_⟩
  all_goals exact ⟨default, false, rfl, by rw [hno]; rfl⟩
 rcases hm : numOf a 200 with _ | m
 ·have hno : fldOf s k = none := by unfold fldOf; rw [e]; simp [hm]
  refine jE [(0, _), (1, _)] Try.func59 Try.ntmps59 fun B hB => ?_
  repeat' (first | (refine jR ?_) | (refine k_op rfl ?_; first | refine c_al rfl rfl fun _ => ?_ | refine jV (g_lenL rfl) ?_ | (refine jV (g_pickT rfl rfl rfl) ?_) | (refine jV (g_pickF rfl rfl rfl) ?_) | refine jV (g_bld rfl rfl) ?_ | refine c_stA rfl rfl rfl rfl rfl rfl ?_ | (refine jV (g_iaddr rfl rfl (by omega)) ?_) | refine jV (g_ldB rfl rfl rfl) ?_ | refine jV (g_ldA rfl rfl rfl rfl) ?_ | (refine c_fng rfl rfl rfl cx_cut1 rfl ?_; rintro _ _ ⟨b1, cap1, rfl, rfl⟩; dsimp only [zA, fA]) | (refine c_pu rfl rfl rfl (c_l3Num (by omega)) rfl ?_; rintro _ ⟨n, rfl, hnum⟩)) | (refine k_gt rfl rfl ?_ ?_; (focus ((first | rfl | (simp [*]; done)); done))) | (refine k_gf rfl rfl rfl ?_) | (refine k_tt rfl rfl ?_) | (refine k_ff rfl (dFf (by omega)) ?_))
  all_goals refine jZ (vs := [_, _]) rfl ⟨rc_A rfl rfl rfl rfl, rfl, trivial⟩ rfl ⟨rfl, rfl, ?_⟩
  all_goals exact ⟨⟨_, _, _, _⟩, false, rfl, by rw [hno]; rfl⟩
 have cx_num := c_numX (G := G) (by omega) hm
 by_cases hg : 1 ≤ m ∧ isNm b = true
 case neg =>
  have hno : fldOf s k = none := by unfold fldOf; rw [e]; simp [hm, hg]
  have hg' : m < 1 ∨ isNm b = false := by
   by_cases h1 : m < 1
   ·exact .inl h1
   ·cases hb2 : isNm b with
    | false => exact .inr rfl
    | true => exact absurd ⟨by omega, hb2⟩ hg
  rcases hg' with hg' | hg'
  all_goals refine jE [(0, _), (1, _)] Try.func59 Try.ntmps59 fun B hB => ?_
  all_goals repeat' (first | (refine jR ?_) | (refine k_op rfl ?_; first | refine c_al rfl rfl fun _ => ?_ | refine jV (g_lenL rfl) ?_ | (refine jV (g_pickT rfl rfl rfl) ?_) | (refine jV (g_pickF rfl rfl rfl) ?_) | refine jV (g_bld rfl rfl) ?_ | refine c_stA rfl rfl rfl rfl rfl rfl ?_ | (refine jV (g_iaddr rfl rfl (by omega)) ?_) | refine jV (g_ld rfl rfl rfl) ?_ | refine jV (g_ldB rfl rfl rfl) ?_ | refine jV (g_ldA rfl rfl rfl rfl) ?_ | (refine c_fng rfl rfl rfl cx_cut1 rfl ?_; rintro _ _ ⟨b1, cap1, rfl, rfl⟩; dsimp only [zA, fA]) | (refine c_rt rfl rfl rfl cx_num rfl ?_) | (refine c_rt rfl rfl rfl (c_l2Name (by omega)) rfl ?_)) | (refine k_gt rfl rfl (by first | rfl | (refine decide_eq_true ?_; (assumption))) ?_) | (refine k_gf rfl rfl rfl ?_) | refine k_g rfl rfl (fun _ => ?_) (fun _ => ?_) | (refine k_tt rfl ?_ ?_; (focus ((first | rfl | (simp [*]; done)); done))) | (refine k_ff rfl (dFf (by omega)) ?_))
  all_goals refine jZ (vs := [_, _]) rfl ⟨rc_A rfl rfl rfl rfl, rfl, trivial⟩ rfl ⟨rfl, rfl, ?_⟩
  all_goals exact ⟨⟨_, _, _, _⟩, false, rfl, by rw [hno]; rfl⟩
 obtain ⟨hg1, hg2⟩ := hg
 have hyes : fldOf s k = match cut 61 c with
  | [d] => if kindOk d = true then some ⟨m, b, d, []⟩ else none
  | [d, e] => if k = 82 ∧ standOk d e = true then some ⟨m, b, d, e⟩ else none
  | _ => none := by
  unfold fldOf; rw [e]; simp only [hm, hg1, hg2, hk, if_false, if_true, and_self] <;> rfl
 have hp : 0 < (cut 61 c).length := cut_pos
 match e2 : cut 61 c, hp with
 | [d], _ =>
  rw [e2] at hyes
  have cx_cut2 := c_cutX (G := G) (k := 61) 1 (by omega) e2 rfl (by omega)
  refine jE [(0, _), (1, _)] Try.func59 Try.ntmps59 fun B hB => ?_
  repeat' (first | (refine jR ?_) | (refine k_op rfl ?_; first | refine c_al rfl rfl fun _ => ?_ | refine jV (g_lenL rfl) ?_ | (refine jV (g_pickT rfl rfl rfl) ?_) | (refine jV (g_pickF rfl rfl rfl) ?_) | refine jV (g_bld rfl rfl) ?_ | refine c_st1 rfl rfl rfl rfl ?_ | refine c_stA rfl rfl rfl rfl rfl rfl ?_ | (refine jV (g_iaddrN rfl rfl (by omega)) ?_) | (refine jV (g_iaddr rfl rfl (by omega)) ?_) | refine jV (g_ld rfl rfl rfl) ?_ | refine jV (g_ldB rfl rfl rfl) ?_ | (refine c_fng rfl rfl rfl cx_cut1 rfl ?_; rintro _ _ ⟨b1, cap1, rfl, rfl⟩; dsimp only [zA, fA]) | (refine c_fng rfl rfl rfl cx_cut2 rfl ?_; rintro _ _ ⟨b2, cap2, rfl, rfl⟩; dsimp only [zA, fA]) | (refine c_rt rfl rfl rfl cx_num rfl ?_) | (refine c_rt rfl rfl rfl (c_l2Name (by omega)) rfl ?_)) | (refine k_gt rfl rfl rfl ?_) | (refine k_gf rfl rfl (by first | rfl | (refine decide_eq_false ?_; (omega))) ?_) | (refine k_ff rfl ?_ ?_; (focus ((first | rfl | (refine decide_eq_false ?_; (omega)) | (simp [*]; done)); done))) | (refine k_any (s_anyD (id := 15) (tt := 4) rfl mixed ?_); refine jU 10 [1] (bts 11 2) ?_ ?_; (focus (repeat' (exact trivial))); (refine jG (bts 11 3) 0 rfl (g_ldA rfl rfl rfl rfl) ?_); (refine jG (bts 11 7) 2 rfl (g_lenL rfl) ?_); refine jU 6 [3, 4] (bts 11 31) ?_ ?_; (focus (repeat' (exact trivial))); (try (refine Nx.re (d := 87) (v' := Bo true) rfl (congrArg Value.bool rfl) ?_)); refine jU 5 [5] (bts 11 63) ?_ ?_; (focus (repeat' (exact trivial))); (refine jG (bts 11 127) 6 rfl (g_ld rfl rfl rfl) ?_); (refine jA 7 rfl ?_; (refine c_rt rfl rfl rfl c_KindOkS rfl ?_); refine jK (bts 11 255) ?_); ((refine jG (bts 11 511) 8 rfl (g_pickT rfl rfl ?_) ?_; (focus ((rfl); done)))); refine jA 9 rfl ?_; (refine c_stA rfl rfl rfl rfl rfl rfl ?_); refine jK (bts 11 1023) ?_; refine jU 0 [10] (bts 11 2047) ?_ ?_; (focus (repeat' (exact trivial))); refine x_done (by kernel_rfl) (k_bk ?_)))
  all_goals refine jZ (vs := [_, _]) rfl ⟨rc_A rfl rfl rfl rfl, rfl, trivial⟩ rfl ⟨rfl, rfl, ?_⟩
  all_goals exact ⟨⟨m, b, d, []⟩, kindOk d, rfl, hyes⟩
 | [d, f], _ => exact c_l3ReadField3b h e hk hm hg1 hg2 e2
 | d :: f :: g :: r, _ =>
  rw [e2] at hyes
  have cx_cut2 := c_cutX (G := G) (k := 61) (r.length + 3) (by omega) e2 (by simp) (by omega)
  refine jE [(0, _), (1, _)] Try.func59 Try.ntmps59 fun B hB => ?_
  repeat' (first | (refine jR ?_) | (refine k_op rfl ?_; first | refine c_al rfl rfl fun _ => ?_ | refine jV (g_lenL rfl) ?_ | (refine jV (g_pickT rfl rfl rfl) ?_) | (refine jV (g_pickF rfl rfl rfl) ?_) | refine jV (g_bld rfl rfl) ?_ | refine c_st1 rfl rfl rfl rfl ?_ | refine c_stA rfl rfl rfl rfl rfl rfl ?_ | (refine jV (g_iaddrN rfl rfl (by omega)) ?_) | (refine jV (g_iaddr rfl rfl (by omega)) ?_) | refine jV (g_ld rfl rfl rfl) ?_ | refine jV (g_ldB rfl rfl rfl) ?_ | (refine c_fng rfl rfl rfl cx_cut1 rfl ?_; rintro _ _ ⟨b1, cap1, rfl, rfl⟩; dsimp only [zA, fA]) | (refine c_fng rfl rfl rfl cx_cut2 rfl ?_; rintro _ _ ⟨b2, cap2, rfl, rfl⟩; dsimp only [zA, fA]) | (refine c_rt rfl rfl rfl cx_num rfl ?_) | (refine c_rt rfl rfl rfl (c_l2Name (by omega)) rfl ?_)) | (refine k_gt rfl rfl rfl ?_) | (refine k_gf rfl rfl (by first | rfl | (refine decide_eq_false ?_; (omega))) ?_) | (refine k_ff rfl ?_ ?_; (focus ((first | rfl | (refine decide_eq_false ?_; (omega)) | (simp [*]; done)); done))) | (refine k_any (s_anyD (id := 15) (tt := 4) rfl mixed ?_); refine jU 10 [1] (bts 11 2) ?_ ?_; (focus (repeat' (exact trivial))); (refine jG (bts 11 3) 0 rfl (g_ldA rfl rfl rfl rfl) ?_); (refine jG (bts 11 7) 2 rfl (g_lenL rfl) ?_); refine jU 6 [3, 4] (bts 11 31) ?_ ?_; (focus (repeat' (exact trivial))); (try (refine Nx.re (d := 87) (v' := Bo false) rfl (congrArg Value.bool rfl) ?_)); refine jU 5 [5] (bts 11 63) ?_ ?_; (focus (repeat' (exact trivial))); (refine jN (bts 11 127) 6 rfl ?_); (refine jN (bts 11 255) 7 rfl ?_); ((refine jG (bts 11 511) 8 rfl (g_pickF rfl rfl ?_) ?_; (focus ((rfl); done)))); refine jA 9 rfl ?_; (refine c_stA rfl rfl rfl rfl rfl rfl ?_); refine jK (bts 11 1023) ?_; refine jU 0 [10] (bts 11 2047) ?_ ?_; (focus (repeat' (exact trivial))); refine x_done (by kernel_rfl) (k_bk ?_)))
  all_goals refine jZ (vs := [_, _]) rfl ⟨rc_A rfl rfl rfl rfl, rfl, trivial⟩ rfl ⟨rfl, rfl, ?_⟩
  all_goals exact ⟨⟨m, b, d, []⟩, false, rfl, hyes⟩
theorem c_l3ReadField {s : List UInt8} {k : Nat} (h : s.length ≤ 1000) : PuG Try.prog 59 [S s, U8 k] G (FldPost s k) := by
 by_cases h2 : (cut 58 s).length = 2
 ·match e : cut 58 s, h2 with
  | [a, b], _ => exact c_l3ReadField2 h e
 by_cases h3 : (cut 58 s).length = 3
 ·match e : cut 58 s, h3 with
  | [a, b, c], _ => exact c_l3ReadField3 h e
 exact c_l3ReadField0 h h2 h3
theorem c_l3CutS {s : List UInt8} {k : Nat} (h : s.length ≤ 100000000) : FnS Try.prog 41 [S s, U8 k] G (fun v G' => SlV G' v 1 (cut k s).length (rows strF (cut k s))) := by
 refine FnG.shutP ((c_l3Cut (G := G) (k := k) h).mono ?_)
 rintro v G' L' ⟨h1, h2, _⟩
 exact ⟨h1, v, _, _, _, _, h2, fun G' _ h3 => by rw [← strs_rows]; exact h3⟩
abbrev tFld : TypeId := 87
abbrev tTy : TypeId := 64
def TyPost (s : List UInt8) (v : Value) (G : Gh) : Prop := ∃ fv t ok, v = Tu [Ag [U8 (t : Ty).sort, S t.name, fv], Bo ok] ∧ (tyOf s = if ok = true then some t else none) ∧ SlV G fv 4 t.fields.length (rows fldF t.fields)
theorem SlV.nil0 {G : Gh} {sz : Nat} : SlV G nilS sz 0 [] := ⟨by simp, .inl ⟨rfl, rfl⟩⟩
theorem drop_nth {α : Type} [Inhabited α] {xs : List α} {i : Nat} (h : i < xs.length) : xs.drop i = nth xs i :: xs.drop (i + 1) := by rw [nth_eq h]; exact (List.getElem_cons_drop (h := h)).symm
theorem Shp.sl {v : Value} {m : Nat} (h : Shp v m) : ∃ a cap, v = .slice a m cap := by
 rcases h with ⟨rfl, rfl⟩ | ⟨b, cap, rfl, _⟩
 ·exact ⟨none, 0, rfl⟩
 ·exact ⟨_, cap, rfl⟩
theorem tyOf_bad {c : UInt8} {r : List UInt8} (h : (cut1 61 r).2.2 = false) : tyOf (c :: r) = none := by
 unfold tyOf
 split
 ·rfl
 ·rename_i h1; cases h1
  split
  ·rename_i h2; rw [h2] at h; cases h
  ·rfl
theorem tyOf_at {c : UInt8} {r name rest : List UInt8} (h : cut1 61 r = (name, rest, true)) : tyOf (c :: r) = if isNm name = true ∧ sortOk c.toNat then
        if rest = [] then (if c.toNat = 82 then some ⟨82, name, []⟩ else none)
        else match fieldsOf c.toNat (cut 44 rest) [] with
          | some fs => if fs.length ≤ 8 then some ⟨c.toNat, name, fs⟩ else none
          | none => none
      else none := by
  unfold tyOf
  simp only [h]; all_goals rfl
theorem c_l3ReadType {s : List UInt8} (h : s.length ≤ 1000) : FnS Try.prog 46 [S s] G (TyPost s) := by
  refine jB [(0, _)] Try.func46 Try.ntmps46 fun B hok hB hW => ?_
  repeat' (first | (refine jR ?_) | (refine k_op rfl ?_; (refine c_al rfl rfl fun _ => ?_)))
  rename_i x
  refine k_loop (ι := Nat) (fun i => i ≤ s.length ∧ ∀ k, k < i → bt s k ≠ 61) (fun i => [(0, S s), (2, Pt x 0), (4, I i)]) (fun _ => G) (fun i => [.blk x (.cells [U8 0, S [], nilS].toArray tTy (0, 0))]) (fun i => s.length - i) 0 ?_ (by repeat' constructor) rfl sRr (fun i Hi => ?_)
  · exact ⟨by omega, fun k hk => absurd hk (by omega)⟩
  by_cases hi : i < s.length ∧ bt s i ≠ 61
  · repeat' (first | refine jM ?_ | (refine k_op rfl ?_; (refine jV (g_pickT rfl rfl rfl) ?_)) | (refine k_gt rfl rfl (dTt (by omega)) ?_) | (refine k_tt rfl ?_ ?_; (focus ((simp; omega); done))))
    refine k_rd (i + 1) ⟨by omega, fun k hk => ?_⟩ (by omega) (by repeat' constructor) rfl sRr
    rcases Nat.lt_or_ge k i with h3 | h3
    · exact Hi.2 k h3
    · have : k = i := by omega
      subst this; exact hi.2
  rcases Nat.lt_or_ge i s.length with hlt | hge
  case inr =>
    have hno : tyOf s = none := by
      match s, Hi, hge with
      | [], _, _ => rfl
      | c :: r, Hi, hge =>
        refine tyOf_bad ?_
        rw [cut1_no fun j hj => by have := Hi.2 (j + 1) (by simp at hge; omega); rwa [bt_succ] at this]
    repeat' (first | (refine jR ?_) | (refine k_op rfl ?_; first | (refine jV (g_pickT rfl rfl rfl) ?_) | (refine jV (g_pickF rfl rfl rfl) ?_) | refine jV (g_bld rfl rfl) ?_ | refine c_stA rfl rfl rfl rfl rfl rfl ?_) | (refine k_gf rfl rfl (dFf (by omega)) ?_) | refine k_g rfl rfl (fun _ => ?_) (fun _ => ?_) | (refine k_tt rfl (by first | rfl | (refine decide_eq_true ?_; (omega))) ?_) | (refine k_ff rfl rfl ?_))
    all_goals refine jZ (vs := [_, _]) rfl ⟨rc_A rfl rfl rfl rfl, rfl, trivial⟩ rfl ⟨Gh.le.refl _, rfl, ?_⟩
    all_goals exact ⟨nilS, default, false, rfl, by rw [hno]; rfl, SlV.nil0⟩
  have h61 : bt s i = 61 := by
    rcases Nat.lt_or_ge (bt s i) 61 with h1 | h1
    · exact absurd ⟨hlt, by omega⟩ hi
    · rcases Nat.lt_or_ge 61 (bt s i) with h2 | h2
      · exact absurd ⟨hlt, by omega⟩ hi
      · omega
  match s, i, Hi, hlt, h61, h with
  | c :: r, 0, Hi, hlt, h61, h =>
    have hno : tyOf (c :: r) = none := by
      rw [bt_zero] at h61
      cases ht : (cut1 61 r).2.2 with
      | false => exact tyOf_bad ht
      | true =>
        rw [tyOf_at (c := c) (r := r) (name := (cut1 61 r).1) (rest := (cut1 61 r).2.1) (by rw [← ht])]
        rw [if_neg]
        rintro ⟨_, h2⟩
        unfold sortOk at h2; omega
    have h62 : bt (c :: r) ((0 : Nat) : Int).toNat = 61 := h61
    repeat' (first | refine jM ?_ | (refine k_op rfl ?_; first | (refine jV (g_pickT rfl rfl rfl) ?_) | refine jV (g_bld rfl rfl) ?_ | refine c_stA rfl rfl rfl rfl rfl rfl ?_) | (refine k_gt rfl rfl (by first | rfl | (refine decide_eq_true ?_; (omega))) ?_) | (refine k_tt rfl rfl ?_) | (refine k_ff rfl (dFf (by omega)) ?_))
    all_goals refine jZ (vs := [_, _]) rfl ⟨rc_A rfl rfl rfl rfl, rfl, trivial⟩ rfl ⟨Gh.le.refl _, rfl, ?_⟩
    all_goals exact ⟨nilS, default, false, rfl, by rw [hno]; rfl, SlV.nil0⟩
  | c :: r, j + 1, Hi, hlt, h61, h =>
    have hj : j < r.length := by simpa using hlt
    have hcut1 : cut1 61 r = (r.take j, r.drop (j + 1), true) := cut1_at hj (fun k hk => by have := Hi.2 (k + 1) (by omega); rwa [bt_succ] at this) (by rwa [bt_succ] at h61)
    have hty := tyOf_at (c := c) hcut1
    have h62 : bt (c :: r) ((j + 1 : Nat) : Int).toNat = 61 := h61
    have e0 : bt (c :: r) (Int.toNat 0) = c.toNat := bt_zero c r
    have hnl : (r.take j).length ≤ 1000 := by simp at h ⊢; omega
    have cx_nm := c_l2Name (G := G) (s := r.take j) (by omega)
    by_cases hg : isNm (r.take j) = true ∧ sortOk c.toNat
    case neg =>
      have hno : tyOf (c :: r) = none := by rw [hty, if_neg hg]
      by_cases hn : isNm (r.take j) = true
      · have hn2 : (!isNm (r.take j)) = false := by rw [hn]; rfl
        have hns : ¬ sortOk c.toNat := fun h => hg ⟨hn, h⟩
        unfold sortOk at hns
        repeat' (first | refine jM ?_ | (refine k_op rfl ?_; first | (refine jV (g_pickT rfl rfl rfl) ?_) | (refine jV (g_pickF rfl rfl rfl) ?_) | refine c_stA rfl rfl rfl rfl rfl rfl ?_ | refine jV (g_ld rfl rfl rfl) ?_ | refine jV (g_ldA rfl rfl rfl rfl) ?_ | (refine c_rt rfl rfl rfl cx_nm rfl ?_)) | (refine k_gt rfl rfl (dTt (by omega)) ?_) | (refine k_gf rfl rfl (by first | rfl | assumption) ?_) | (refine k_tt rfl (dTt (by omega)) ?_) | (refine k_ff rfl (dFf (by omega)) ?_) | (refine k_any (s_any (id := 6) _ (fun _ h => h) mixed ?_); refine jU 3 [0, 1, 2, 3, 4] (bts 8 31) ?_ ?_; (focus (repeat' (first | exact trivial | apply And.intro | omega))); (refine jG (bts 8 63) 5 rfl (g_bld rfl rfl) ?_); refine jA 6 rfl ?_; (refine c_al rfl rfl fun _ => ?_); refine jK (bts 8 127) ?_; refine jA 7 rfl ?_; (refine c_stA rfl rfl rfl rfl rfl rfl ?_); refine jK (bts 8 255) ?_; refine x_done (by kernel_rfl) (k_bk ?_)))
        all_goals refine jZ (vs := [_, _]) rfl ⟨rc_A rfl rfl rfl rfl, rfl, trivial⟩ rfl ⟨Gh.le.refl _, rfl, ?_⟩
        all_goals exact ⟨nilS, ⟨_, _, []⟩, false, rfl, by rw [hno]; rfl, SlV.nil0⟩
      · have hn2 : (!isNm (r.take j)) = true := by simpa using hn
        repeat' (first | refine jM ?_ | (refine k_op rfl ?_; first | (refine jV (g_pickT rfl rfl rfl) ?_) | (refine jV (g_pickF rfl rfl rfl) ?_) | refine c_stA rfl rfl rfl rfl rfl rfl ?_ | refine jV (g_ld rfl rfl rfl) ?_ | refine jV (g_ldA rfl rfl rfl rfl) ?_ | (refine c_rt rfl rfl rfl cx_nm rfl ?_)) | (refine k_gt rfl rfl (by first | assumption | (refine decide_eq_true ?_; (omega))) ?_) | (refine k_gf rfl rfl rfl ?_) | (refine k_tt rfl rfl ?_) | (refine k_ff rfl (dFf (by omega)) ?_) | (refine k_any (s_any (id := 6) _ (fun _ h => h) mixed ?_); refine jU 3 [0, 1, 2, 3, 4] (bts 8 31) ?_ ?_; (focus (repeat' (first | exact trivial | apply And.intro | omega))); (refine jG (bts 8 63) 5 rfl (g_bld rfl rfl) ?_); refine jA 6 rfl ?_; (refine c_al rfl rfl fun _ => ?_); refine jK (bts 8 127) ?_; refine jA 7 rfl ?_; (refine c_stA rfl rfl rfl rfl rfl rfl ?_); refine jK (bts 8 255) ?_; refine x_done (by kernel_rfl) (k_bk ?_)))
        all_goals refine jZ (vs := [_, _]) rfl ⟨rc_A rfl rfl rfl rfl, rfl, trivial⟩ rfl ⟨Gh.le.refl _, rfl, ?_⟩
        all_goals exact ⟨nilS, ⟨_, _, []⟩, false, rfl, by rw [hno]; rfl, SlV.nil0⟩
    have hn2 : (!isNm (r.take j)) = false := by rw [hg.1]; rfl
    have hs2 := hg.2
    unfold sortOk at hs2
    rw [if_pos hg] at hty
    by_cases hrest : r.drop (j + 1) = []
    · rw [if_pos hrest] at hty
      by_cases h82 : c.toNat = 82
      · rw [if_pos h82] at hty
        have e82 : bt (c :: r) (Int.toNat 0) = 82 := by omega
        repeat' (first | refine jM ?_ | (refine k_op rfl ?_; first | (refine jV (g_pickT rfl rfl rfl) ?_) | (refine jV (g_pickF rfl rfl rfl) ?_) | refine jV (g_ld rfl rfl rfl) ?_ | (refine c_rt rfl rfl rfl cx_nm rfl ?_)) | (refine k_gt rfl rfl (dTt (by omega)) ?_) | (refine k_gf rfl rfl (by first | rfl | assumption | (refine decide_eq_false ?_; (omega))) ?_) | (refine k_tt rfl (dTt ‹_›) ?_) | (refine k_ff rfl (by first | rfl | (refine decide_eq_false ?_; (omega))) ?_) | (refine k_any (s_any (id := 6) _ (fun _ h => h) mixed ?_); refine jU 3 [0, 1, 2, 3, 4] (bts 8 31) ?_ ?_; (focus (repeat' (first | exact trivial | apply And.intro | omega))); (refine jG (bts 8 63) 5 rfl (g_bld rfl rfl) ?_); refine jA 6 rfl ?_; (refine c_al rfl rfl fun _ => ?_); refine jK (bts 8 127) ?_; refine jA 7 rfl ?_; (refine c_stA rfl rfl rfl rfl rfl rfl ?_); refine jK (bts 8 255) ?_; refine x_done (by kernel_rfl) (k_bk ?_)) | (refine k_any (s_anyD (id := 10) (tt := 2) rfl mixed ?_); refine jU 5 [1] (bts 6 2) ?_ ?_; (focus (repeat' (exact trivial))); (refine jG (bts 6 3) 0 rfl (g_ldA rfl rfl rfl rfl) ?_); (refine jG (bts 6 7) 2 rfl (g_ld rfl rfl rfl) ?_); refine jU 2 [3] (bts 6 15) ?_ ?_; (focus (repeat' (exact trivial))); refine jA 4 rfl ?_; (refine c_stA rfl rfl rfl rfl rfl rfl ?_); refine jK (bts 6 31) ?_; refine jU 0 [5] (bts 6 63) ?_ ?_; (focus (repeat' (exact trivial))); refine x_done (by kernel_rfl) (k_bk ?_)))
        all_goals refine jZ (vs := [_, _]) rfl ⟨rc_A rfl rfl rfl rfl, rfl, trivial⟩ rfl ⟨Gh.le.refl _, rfl, ?_⟩
        all_goals refine ⟨nilS, ⟨82, r.take j, []⟩, true, ?_, hty, SlV.nil0⟩
        all_goals show Tu [Ag [U8 (bt (c :: r) (Int.toNat 0) : Nat), S (r.take j), nilS], Bo (decide (((bt (c :: r) (Int.toNat 0) : Nat) : Int) = 82))] = _
        all_goals (rw [e82]; rfl)
      · rw [if_neg h82] at hty
        have e82 : ¬ bt (c :: r) (Int.toNat 0) = 82 := by omega
        have e83 : decide (((bt (c :: r) (Int.toNat 0) : Nat) : Int) = 82) = false := decide_eq_false (by omega)
        repeat' (first | refine jM ?_ | (refine k_op rfl ?_; first | (refine jV (g_pickT rfl rfl rfl) ?_) | (refine jV (g_pickF rfl rfl rfl) ?_) | refine jV (g_ld rfl rfl rfl) ?_ | (refine c_rt rfl rfl rfl cx_nm rfl ?_)) | (refine k_gt rfl rfl (dTt (by omega)) ?_) | (refine k_gf rfl rfl (by first | rfl | assumption) ?_) | refine k_g rfl rfl (fun _ => ?_) (fun _ => ?_) | (refine k_tt rfl (dTt ‹_›) ?_) | (refine k_ff rfl (by first | rfl | (refine decide_eq_false ?_; (omega))) ?_) | (refine k_any (s_any (id := 6) _ (fun _ h => h) mixed ?_); refine jU 3 [0, 1, 2, 3, 4] (bts 8 31) ?_ ?_; (focus (repeat' (first | exact trivial | apply And.intro | omega))); (refine jG (bts 8 63) 5 rfl (g_bld rfl rfl) ?_); refine jA 6 rfl ?_; (refine c_al rfl rfl fun _ => ?_); refine jK (bts 8 127) ?_; refine jA 7 rfl ?_; (refine c_stA rfl rfl rfl rfl rfl rfl ?_); refine jK (bts 8 255) ?_; refine x_done (by kernel_rfl) (k_bk ?_)) | (refine k_any (s_anyD (id := 10) (tt := 2) rfl mixed ?_); refine jU 5 [1] (bts 6 2) ?_ ?_; (focus (repeat' (exact trivial))); (refine jG (bts 6 3) 0 rfl (g_ldA rfl rfl rfl rfl) ?_); (refine jG (bts 6 7) 2 rfl (g_ld rfl rfl rfl) ?_); refine jU 2 [3] (bts 6 15) ?_ ?_; (focus (repeat' (exact trivial))); refine jA 4 rfl ?_; (refine c_stA rfl rfl rfl rfl rfl rfl ?_); refine jK (bts 6 31) ?_; refine jU 0 [5] (bts 6 63) ?_ ?_; (focus (repeat' (exact trivial))); refine x_done (by kernel_rfl) (k_bk ?_)))
        all_goals refine jZ (vs := [_, _]) rfl ⟨rc_A rfl rfl rfl rfl, rfl, trivial⟩ rfl ⟨Gh.le.refl _, rfl, ?_⟩
        all_goals refine ⟨nilS, ⟨bt (c :: r) (Int.toNat 0), r.take j, []⟩, false, ?_, hty, SlV.nil0⟩
        all_goals show Tu [Ag [U8 (bt (c :: r) (Int.toNat 0) : Nat), S (r.take j), nilS], Bo (decide (((bt (c :: r) (Int.toNat 0) : Nat) : Int) = 82))] = _
        all_goals (rw [e83])
    rw [if_neg hrest] at hty
    have hrl : (r.drop (j + 1)).length ≤ 1000 := by simp at h ⊢; omega
    have hcl := cut_count (k := 44) (s := r.drop (j + 1))
    have cx_cutS := c_l3CutS (G := G) (s := r.drop (j + 1)) (k := 44) (by omega)
    have hall : ∀ y ∈ cut 44 (r.drop (j + 1)), y.length ≤ 1000 := fun y hy => Nat.le_trans (cut_len hy) hrl
    generalize hxs : cut 44 (r.drop (j + 1)) = xs at *
    rcases hs2 with h1 | h1 | h1
    all_goals repeat' (first | refine jM ?_ | (refine k_op rfl ?_; first | (refine jV (g_pickT rfl rfl rfl) ?_) | (refine jV (g_pickF rfl rfl rfl) ?_) | refine jV (g_ld rfl rfl rfl) ?_ | (refine c_rt rfl rfl rfl cx_nm rfl ?_) | (refine c_fns rfl rfl rfl cx_cutS rfl ?_; rintro _ G hle hcut; skip)) | (refine k_gt rfl rfl (dTt (by omega)) ?_) | (refine k_gf rfl rfl (by first | rfl | assumption | (refine decide_eq_false ?_; (omega))) ?_) | (refine k_ff rfl (by first | rfl | (refine decide_eq_false ?_; first | assumption | omega)) ?_) | (refine k_any (s_any (id := 6) _ (fun _ h => h) mixed ?_); refine jU 3 [0, 1, 2, 3, 4] (bts 8 31) ?_ ?_; (focus (repeat' (first | exact trivial | apply And.intro | omega))); (refine jG (bts 8 63) 5 rfl (g_bld rfl rfl) ?_); refine jA 6 rfl ?_; (refine c_al rfl rfl fun _ => ?_); refine jK (bts 8 127) ?_; refine jA 7 rfl ?_; (refine c_stA rfl rfl rfl rfl rfl rfl ?_); refine jK (bts 8 255) ?_; refine x_done (by kernel_rfl) (k_bk ?_)))
    all_goals rename_i y v
    all_goals refine Nx.addNil tFld 4 ?_
    all_goals refine k_loop (ι := Value × List Fld × Nat) (fun i => i.2.2 ≤ xs.length ∧ i.2.1.length ≤ i.2.2 ∧ fieldsOf c.toNat (xs.drop i.2.2) i.2.1 = fieldsOf c.toNat xs []) (fun i => [(2, Pt x 0), (5, Pt y 0), (6, v), (7, I i.2.2)]) (fun _ => G) (fun i => [.acc i.1 tFld 4 i.2.1.length (rows fldF i.2.1), .blk y (.cells [U8 (bt (c :: r) (Int.toNat 0) : Nat), S (r.take j), i.1].toArray tTy (0, 0)), .blk x (.cells [U8 0, S [], nilS].toArray tTy (0, 0))]) (fun i => xs.length - i.2.2) (nilS, [], 0) ?_ (by repeat' constructor) rfl sRr (fun i Hi => ?_)
    all_goals (first | exact ⟨Nat.zero_le _, Nat.le_refl _, rfl⟩ | skip)
    all_goals obtain ⟨u, fs, i⟩ := i
    all_goals dsimp only at Hi ⊢
    all_goals obtain ⟨hi1, hi2, hi3⟩ := Hi
    all_goals refine Nx.shp (v := u) (.head _) fun hsh => ?_
    all_goals (have hsh2 := hsh; obtain ⟨au, cu, rfl⟩ := hsh.sl)
    all_goals by_cases hix : i < xs.length
    all_goals try (rw [drop_nth hix, fieldsOf] at hi3; obtain ⟨bv, ov, cv, rfl, hsv⟩ := hcut.expl (by omega); have hx := hall _ (nth_mem hix))
    all_goals repeat' (first | (refine jR ?_) | (refine k_op rfl ?_; first | refine c_stA rfl rfl rfl rfl rfl rfl ?_ | refine jV (g_ldA rfl rfl rfl rfl) ?_ | refine jV (g_lenL rfl) ?_ | refine jV (g_lenV rfl (by assumption)) ?_) | (refine k_tt rfl (dTt (by omega)) ?_) | (refine k_ff rfl (dFf (by omega)) ?_) | refine k_cd rfl (fun _ => ?_) (fun _ => ?_) | (refine k_any (s_any (id := 15) _ (fun _ h => h) mixed ?_); refine jT 10 [0, 1, 4] (bts 13 19) ?_; (refine jG (bts 13 23) 2 rfl (g_iaddrN rfl rfl (by omega)) ?_); ((refine jG (bts 13 31) 3 rfl (g_ldRS rfl rfl (by assumption) ?_) ?_; (focus ((omega); done)))); (refine jG (bts 13 63) 5 rfl (g_ld rfl rfl rfl) ?_); refine x_all [6, 10] (by kernel_rfl) (by decide) ⟨?_, ?_, trivial⟩; (focus (refine x_opg rfl rfl ?_; (refine c_pu rfl rfl rfl (c_l3ReadField (by omega)) rfl ?_; rintro _ ⟨f, ok, rfl, hfld⟩); refine jK (bts 13 127) ?_; refine jU 3 [7, 8, 9] (bts 13 1023) ?_ ?_; (focus (repeat' (exact trivial))); refine jA 10 rfl ?_; (refine c_al rfl rfl fun _ => ?_); refine jK (bts 13 2047) ?_; refine jA 11 rfl ?_; (refine c_stA rfl rfl rfl rfl rfl rfl ?_); refine jK (bts 13 4095) ?_; refine jU 0 [12] (bts 13 8191) ?_ ?_; (focus (repeat' (exact trivial))); refine x_done (by kernel_rfl) (k_bk ?_))); rotate_left 1; (focus (refine x_opg rfl rfl ?_; (refine c_al rfl rfl fun _ => ?_); refine jK (bts 13 1087) ?_; refine jA 6 rfl ?_; (refine c_pu rfl rfl rfl (c_l3ReadField (by omega)) rfl ?_; rintro _ ⟨f, ok, rfl, hfld⟩); refine jK (bts 13 1151) ?_; refine jU 2 [7, 8, 9] (bts 13 2047) ?_ ?_; (focus (repeat' (exact trivial))); refine jA 11 rfl ?_; (refine c_stA rfl rfl rfl rfl rfl rfl ?_); refine jK (bts 13 4095) ?_; refine jU 0 [12] (bts 13 8191) ?_ ?_; (focus (repeat' (exact trivial))); refine x_done (by kernel_rfl) (k_bk ?_))); rotate_left 1) | (refine k_any (s_anyD (id := 24) (tt := 2) rfl mixed ?_); refine jU 6 [1] (bts 7 2) ?_ ?_; (focus (repeat' (exact trivial))); (refine jG (bts 7 3) 0 rfl (g_ldA rfl rfl rfl rfl) ?_); (refine jG (bts 7 7) 2 rfl (g_ld rfl rfl rfl) ?_); (refine jG (bts 7 15) 3 rfl (g_lenL rfl) ?_); refine jU 2 [4] (bts 7 31) ?_ ?_; (focus (repeat' (exact trivial))); refine jA 5 rfl ?_; (refine c_stA rfl rfl rfl rfl rfl rfl ?_); refine jK (bts 7 63) ?_; refine jU 0 [6] (bts 7 127) ?_ ?_; (focus (repeat' (exact trivial))); refine x_done (by kernel_rfl) (k_bk ?_)))
    all_goals first
      | (rename_i z hq
         have hq2 : ok = false := by simpa using hq
         subst hq2
         have hf0 : fldOf (nth xs i) c.toNat = none := hfld
         have hno : tyOf (c :: r) = none := by rw [hf0] at hi3; rw [hty, ← hi3]
         refine Nx.sealS (v := .slice au fs.length cu) fun G' hle2 hsl => ?_
         refine jZ (vs := [_, _]) rfl ⟨rc_A rfl rfl rfl rfl, rfl, trivial⟩ rfl ⟨hle.trans hle2, rfl, ?_⟩
         exact ⟨.slice au fs.length cu, ⟨bt (c :: r) (Int.toNat 0), r.take j, fs⟩, false, rfl, by rw [hno]; rfl, hsl⟩)
      | (have ei : i = xs.length := by omega
         have hyes : tyOf (c :: r) = if fs.length ≤ 8 then some ⟨c.toNat, r.take j, fs⟩ else none := by
           rw [ei, List.drop_length, fieldsOf] at hi3
           rw [hty, ← hi3]
         refine Nx.sealS (v := .slice au fs.length cu) fun G' hle2 hsl => ?_
         refine jZ (vs := [_, _]) rfl ⟨rc_A rfl rfl rfl rfl, rfl, trivial⟩ rfl ⟨hle.trans hle2, rfl, ?_⟩
         refine ⟨.slice au fs.length cu, ⟨c.toNat, r.take j, fs⟩, decide (fs.length ≤ 8), ?_, by rw [hyes]; simp, hsl⟩
         rw [oneOf_two, e0]
         refine congrArg (fun x => Tu [_, Bo x]) (decide_eq_decide.2 ?_)
         omega)
      | (rename_i z hq
         have hq2 : ok = true := by simpa using hq
         subst hq2
         have hf1 : fldOf (nth xs i) c.toNat = some f := hfld
         rw [hf1] at hi3
         dsimp only at hi3
         refine k_loop (ι := Nat) (fun k => k ≤ fs.length ∧ ∀ m, m < k → (nth fs m).tag < f.tag ∧ (nth fs m).name ≠ f.name) (fun k => [(2, Pt x 0), (5, Pt y 0), (6, .slice (some ⟨bv, ov, none⟩) xs.length cv), (7, I i), (8, Pt z 0), (10, I k)]) (fun _ => G) (fun k => [.blk z (.cells (fldF f).toArray tFld (0, 0)), .acc (.slice au fs.length cu) tFld 4 fs.length (rows fldF fs), .blk y (.cells [U8 (bt (c :: r) (Int.toNat 0) : Nat), S (r.take j), .slice au fs.length cu].toArray tTy (0, 0)), .blk x (.cells [U8 0, S [], nilS].toArray tTy (0, 0))]) (fun k => fs.length - k) 0 ?_ (by repeat' constructor) rfl sRr (fun k Hk => ?_)
         · exact ⟨Nat.zero_le _, fun m hm => absurd hm (by omega)⟩
         by_cases hk : k < fs.length
         · obtain ⟨bu, cu2, eu⟩ := hsh2.pos (by omega)
           simp only [Value.slice.injEq] at eu
           obtain ⟨rfl, -, rfl⟩ := eu
           by_cases hbad : (nth fs k).tag < f.tag ∧ (nth fs k).name ≠ f.name
           · obtain ⟨hb1, hb2⟩ := hbad
             repeat' (first | refine jM ?_ | (refine k_op rfl ?_; first | refine jV (g_ld rfl rfl rfl) ?_ | refine jV (g_lenL rfl) ?_) | (refine k_tt rfl (dTt (by omega)) ?_) | (refine k_ff rfl (dFf ‹_›) ?_) | (refine k_any (s_any (id := 21) _ (fun _ h => h) mixed ?_); refine jT 17 [0, 2, 6] (bts 20 69) ?_; (refine jG (bts 20 71) 1 rfl (g_ld rfl rfl rfl) ?_); (refine jG (bts 20 79) 3 rfl (g_iaddrN rfl rfl (by omega)) ?_); refine jT 14 [4] (bts 20 95) ?_; (refine jG (bts 20 127) 5 rfl (g_ldBRF rfl rfl rfl (by omega) rfl rfl) ?_); (refine jG (bts 20 255) 7 rfl (g_ld rfl rfl rfl) ?_); refine jT 10 [8, 9] (bts 20 1023) ?_; (try ((refine Nx.re (d := 107) (v' := Bo false) rfl (congrArg Value.bool (dFf (by omega))) ?_))); refine jT 7 [10, 12, 16] (bts 20 71679) ?_; (refine jG (bts 20 73727) 11 rfl (g_ld rfl rfl rfl) ?_); (refine jG (bts 20 81919) 13 rfl (g_iaddrN rfl rfl (by omega)) ?_); refine jT 4 [14] (bts 20 98303) ?_; (refine jG (bts 20 131071) 15 rfl (g_ldBRF rfl rfl rfl (by omega) rfl rfl) ?_); (refine jG (bts 20 262143) 17 rfl (g_ld rfl rfl rfl) ?_); refine jT 1 [18] (bts 20 524287) ?_; (refine jG (bts 20 1048575) 19 rfl (g_pickF rfl rfl rfl) ?_); refine x_done (by kernel_rfl) (k_bk ?_)))
             refine k_rd (k + 1) ⟨by omega, fun m hm => ?_⟩ (by omega) (by repeat' constructor) rfl sRr
             rcases Nat.lt_or_ge m k with h3 | h3
             · exact Hk.2 m h3
             · have : m = k := by omega
               subst this; exact ⟨hb1, hb2⟩
           · have hfr : fresh f fs = false := by
               unfold fresh
               rw [List.all_eq_false]
               exact ⟨nth fs k, nth_mem hk, by simpa using hbad⟩
             have hno : tyOf (c :: r) = none := by
               rw [hfr, if_neg (by simp)] at hi3
               rw [hty, ← hi3]
             by_cases htag : f.tag ≤ (nth fs k).tag
             case' neg => have hnm : (nth fs k).name = f.name := by
                           by_cases h6 : (nth fs k).name = f.name
                           · exact h6
                           · exact absurd ⟨by omega, h6⟩ hbad
             all_goals repeat' (first | (refine jR ?_) | (refine k_op rfl ?_; first | refine c_stA rfl rfl rfl rfl rfl rfl ?_ | refine jV (g_ld rfl rfl rfl) ?_ | refine jV (g_ldA rfl rfl rfl rfl) ?_ | refine jV (g_lenL rfl) ?_) | (refine k_tt rfl (by first | rfl | (refine decide_eq_true ?_; first | assumption | omega)) ?_) | (refine k_any (s_any (id := 21) _ (fun _ h => h) mixed ?_); refine jT 17 [0, 2, 6] (bts 20 69) ?_; (refine jG (bts 20 71) 1 rfl (g_ld rfl rfl rfl) ?_); (refine jG (bts 20 79) 3 rfl (g_iaddrN rfl rfl (by omega)) ?_); refine jT 14 [4] (bts 20 95) ?_; (refine jG (bts 20 127) 5 rfl (g_ldBRF rfl rfl rfl (by omega) rfl rfl) ?_); (refine jG (bts 20 255) 7 rfl (g_ld rfl rfl rfl) ?_); refine jT 10 [8, 9] (bts 20 1023) ?_; (try (first | (refine Nx.re (d := 107) (v' := Bo true) rfl (congrArg Value.bool (dTt ‹_›)) ?_) | (refine Nx.re (d := 107) (v' := Bo false) rfl (congrArg Value.bool (dFf ‹_›)) ?_))); refine jT 7 [10, 12, 16] (bts 20 71679) ?_; (first | refine jG (bts 20 73727) 11 rfl (g_ld rfl rfl rfl) ?_ | refine jN (bts 20 73727) 11 rfl ?_); (first | (refine jG (bts 20 81919) 13 rfl (g_iaddrN rfl rfl (by omega)) ?_) | refine jN (bts 20 81919) 13 rfl ?_); refine jT 4 [14] (bts 20 98303) ?_; (first | (refine jG (bts 20 131071) 15 rfl (g_ldBRF rfl rfl rfl (by omega) rfl rfl) ?_) | refine jN (bts 20 131071) 15 rfl ?_); (first | refine jG (bts 20 262143) 17 rfl (g_ld rfl rfl rfl) ?_ | refine jN (bts 20 262143) 17 rfl ?_); refine jT 1 [18] (bts 20 524287) ?_; (first | (refine jG (bts 20 1048575) 19 rfl (g_pickT rfl rfl rfl) ?_) | (refine jG (bts 20 1048575) 19 rfl (g_pickF rfl rfl rfl) ?_)); refine x_done (by kernel_rfl) (k_bk ?_)))
             all_goals refine Nx.sealS (v := .slice (some ⟨bu, 0, none⟩) fs.length cu) fun G' hle2 hsl => ?_
             all_goals refine jZ (vs := [_, _]) rfl ⟨rc_A rfl rfl rfl rfl, rfl, trivial⟩ rfl ⟨hle.trans hle2, rfl, ?_⟩
             all_goals exact ⟨.slice (some ⟨bu, 0, none⟩) fs.length cu, ⟨bt (c :: r) (Int.toNat 0), r.take j, fs⟩, false, rfl, by rw [hno]; rfl, hsl⟩
         · have hfr : fresh f fs = true := by
             unfold fresh
             rw [List.all_eq_true]
             intro g hg
             obtain ⟨m, hm, rfl⟩ := mem_nth hg
             simpa using Hk.2 m (by omega)
           rw [hfr, if_pos rfl] at hi3
           have hxl : xs.length ≤ 1001 := by omega
           repeat' (first | (refine jR ?_) | (refine k_op rfl ?_; first | refine jV (g_ld rfl rfl rfl) ?_ | refine jV (g_ldA rfl rfl rfl rfl) ?_ | refine jV (g_lenL rfl) ?_ | refine c_bsl rfl rfl rfl rfl rfl rfl fun _ => ?_ | (refine c_apB rfl rfl rfl rfl rfl rfl rfl rfl (by omega) fun _ => ?_)) | (refine k_ff rfl (dFf (by omega)) ?_))
           rename_i u2
           refine Nx.shp (v := u2) (.head _) fun hs4 => ?_
           obtain ⟨a4, c4, rfl⟩ := hs4.sl
           repeat' (first | refine jM ?_ | (refine k_op rfl ?_; (refine c_st1 rfl rfl rfl rfl ?_)))
           refine k_rd (.slice a4 (fs.length + 1) c4, fs ++ [f], i + 1) ⟨by dsimp only; omega, by simp; omega, hi3⟩ (by dsimp only; omega) (by repeat' constructor) rfl (by dsimp only; simp only [rows_snoc, List.length_append, List.length_cons, List.length_nil, Nat.zero_add]; repeat (first | exact List.Sublist.refl _ | apply List.Sublist.cons_cons | apply List.Sublist.cons)))
def TyI (G : Gh) (b : Nat) (t : Ty) : Prop := ∃ fv ln, Seg G b 0 [U8 t.sort, S t.name, fv, S ln] ∧ SlV G fv 6 t.fields.length (rows fiF t.fields)
theorem TyI.mono {G G' : Gh} {b : Nat} {t : Ty} (h : TyI G b t) (hl : Gh.le G G') : TyI G' b t := by
 obtain ⟨fv, ln, h1, h2⟩ := h
 exact ⟨fv, ln, h1.mono hl, h2.mono hl⟩
abbrev TyX := (Option Addr × Nat) × Ty
def slX (x : TyX) : Value := .slice x.1.1 x.2.fields.length x.1.2
def tyF (x : TyX) : List Value := [U8 x.2.sort, S x.2.name, slX x]
instance : RowF tyF 3 := ⟨fun _ => rfl⟩
def zT : TyX := ((none, 0), ⟨0, [], []⟩)
theorem SlV.sl {G : Gh} {v : Value} {sz m : Nat} {xs : List Value} (h : SlV G v sz m xs) : ∃ a cap, v = .slice a m cap := by
 obtain ⟨_, ⟨rfl, rfl⟩ | ⟨b, o, cap, rfl, _⟩⟩ := h
 ·exact ⟨none, 0, rfl⟩
 ·exact ⟨_, cap, rfl⟩
structure SchR (G : Gh) (u : Value) (vs : List TyX) : Prop where
 sl : SlV G u 3 vs.length (rows tyF vs)
 fl : ∀ x ∈ vs, SlV G (slX x) 4 x.2.fields.length (rows fldF x.2.fields)
theorem SchR.mono {G G' : Gh} {u : Value} {vs : List TyX} (h : SchR G u vs) (hl : Gh.le G G') : SchR G' u vs := ⟨h.sl.mono hl, fun x hx => (h.fl x hx).mono hl⟩
def tys (vs : List TyX) : List Ty := vs.map (·.2)
def findV (vs : List TyX) (n : List UInt8) : Option TyX := vs.find? fun x => decide (x.2.name = n)
def refV (vs : List TyX) (k : List UInt8) : Option TyX := (refN k).bind (findV vs)
theorem findV_ty (vs : List TyX) (n : List UInt8) : (findV vs n).map (·.2) = findT (tys vs) n := by
 unfold findV findT tys
 induction vs with
 | nil => rfl
 | cons x vs ih =>
  simp only [List.map_cons, List.find?_cons]
  split <;> simp_all
theorem findV_mem {vs : List TyX} {n : List UInt8} {x : TyX} (h : findV vs n = some x) : x ∈ vs ∧ x.2.name = n := by
 unfold findV at h
 exact ⟨List.mem_of_find?_eq_some h, by simpa using List.find?_some h⟩
theorem findV_at {vs : List TyX} {n : List UInt8} {i : Nat} (hi : i < vs.length) (h : ∀ k, k < i → (nth vs k).2.name ≠ n) (h2 : (nth vs i).2.name = n) : findV vs n = some (nth vs i) := by
 unfold findV
 rw [List.find?_eq_some_iff_getElem]
 rw [nth_eq hi] at h2 ⊢
 refine ⟨by simpa using h2, i, hi, rfl, fun j hj => ?_⟩
 have := h j hj
 rw [nth_eq (by omega)] at this
 simpa using this
theorem findV_none {vs : List TyX} {n : List UInt8} (h : ∀ k, k < vs.length → (nth vs k).2.name ≠ n) : findV vs n = none := by
 unfold findV
 rw [List.find?_eq_none]
 intro x hx
 obtain ⟨i, hi, rfl⟩ := List.mem_iff_getElem.1 hx
 have := h i hi
 rw [nth_eq hi] at this
 simpa using this
theorem c_find {u : Value} {vs : List TyX} {n : List UInt8} (h : SchR G u vs) (hn : vs.length ≤ 1000000) : PuG Try.prog 31 [u, S n] G (· = Tu [Ag (tyF ((findV vs n).getD zT)), Bo (findV vs n).isSome]) := by
 have hsl := h.sl
 refine jE [(0, _), (1, _)] Try.func31 Try.ntmps31 fun B hB => ?_
 repeat' (first | (refine jR ?_) | (refine k_op rfl ?_; (refine c_al rfl rfl fun _ => ?_)))
 rename_i x
 refine k_loop (ι := Nat) (fun i => i ≤ vs.length ∧ ∀ k, k < i → (nth vs k).2.name ≠ n) (fun i => [(0, u), (1, S n), (4, Pt x 0), (6, I i)]) (fun _ => G) (fun i => [.blk x (.cells [U8 0, S [], nilS].toArray tTy (0, 0))]) (fun i => vs.length - i) 0 ?_ (by repeat' constructor) rfl sRr (fun i Hi => ?_)
 ·exact ⟨by omega, fun k hk => absurd hk (by omega)⟩
 by_cases hi : i < vs.length
 ·obtain ⟨b, o, cap, rfl, hs⟩ := hsl.expl (by omega)
  repeat' (first | refine jM ?_ | (refine k_op rfl ?_; first | refine jV (g_lenL rfl) ?_ | (refine jV (g_iaddrN rfl rfl (by omega)) ?_) | (refine jV (g_ldR rfl rfl (by assumption) ?_) ?_; (focus ((omega); done))) | (refine jV (g_ldRF rfl rfl (by assumption) ?_ rfl rfl) ?_; (focus ((omega); done))) | refine c_stA rfl rfl rfl rfl rfl rfl ?_) | (refine k_tt rfl (dTt (by omega)) ?_) | refine k_if rfl (fun _ => ?_) (fun _ => ?_))
  ·rename_i he
   refine jZ (vs := [_, _]) rfl ⟨rc_A rfl rfl rfl rfl, rfl, trivial⟩ rfl ⟨rfl, rfl, ?_⟩
   rw [findV_at hi Hi.2 he]; rfl
  ·rename_i he
   refine k_rd (i + 1) ⟨by omega, fun k hk => ?_⟩ (by omega) (by repeat' constructor) rfl sRr
   rcases Nat.lt_or_ge k i with h3 | h3
   ·exact Hi.2 k h3
   ·have : k = i := by omega
    subst this; exact he
 ·repeat' (first | (refine jR ?_) | (refine k_op rfl ?_; first | refine jV (g_lenV rfl (by assumption)) ?_ | refine c_stA rfl rfl rfl rfl rfl rfl ?_ | refine jV (g_bld rfl rfl) ?_) | (refine k_ff rfl (dFf (by omega)) ?_))
  refine jZ (vs := [_, _]) rfl ⟨rc_A rfl rfl rfl rfl, rfl, trivial⟩ rfl ⟨rfl, rfl, ?_⟩
  rw [findV_none fun k hk => Hi.2 k (by omega)]; rfl
theorem c_l2RefK {s : List UInt8} (h : kOk s = true) (hl : s.length ≤ 1000000) : PuG Try.prog 29 [S s] G (· = Tu [S ((refN s).getD []), Bo (refN s).isSome]) := by
 match s, h with
 | c :: r, h =>
  by_cases hr : r = []
  ·have hc : ¬ c.toNat = 64 := by
    intro hc
    subst hr
    rw [kOk, if_neg (by omega), if_pos hc] at h
    simp [bt_zero, hc] at h
   have e0 := bt_c0 c r
   have hq : refN (c :: r) = none := by simp [refN, hc]
   rw [hq]
   refine jE [(0, _)] Try.func29 Try.ntmps29 fun B hB => ?_
   repeat' (first | (refine run (t := tb) 400 rfl ?_ ?_; (focus (repeat' (first | exact trivial | apply And.intro | omega | (simp only [List.length_append, List.length_cons, List.length_nil, Int.toNat_natCast]; omega))))) | (refine k_tt rfl ?_ ?_; (focus ((simp; omega); done))))
   all_goals refine jZ (vs := [_, _]) rfl ⟨rfl, rfl, trivial⟩ rfl ⟨rfl, rfl, ?_⟩
   all_goals rfl
  ·have := c_l2Ref (G := G) (c := c) hr (by simp at hl; omega)
   refine this.mono ?_
   rintro v G' L' ⟨h1, h2, h3⟩
   refine ⟨h1, h2, h3.trans ?_⟩
   by_cases hc : c.toNat = 64 <;> simp [refN, hc]
theorem c_ref {u : Value} {vs : List TyX} {k : List UInt8} (h : SchR G u vs) (hn : vs.length ≤ 1000000) (hk : kOk k = true) (hl : k.length ≤ 1000000) : PuG Try.prog 49 [u, S k] G (· = Tu [Ag (tyF ((refV vs k).getD zT)), Bo (refV vs k).isSome]) := by
 rcases hr : refN k with _ | n
 ·have e : refV vs k = none := by simp [refV, hr]
  rw [e]
  have cx_ref : PuG Try.prog 29 [S k] G (· = Tu [S [], Bo false]) := by have := c_l2RefK (G := G) hk hl; rwa [hr] at this
  refine jE [(0, _), (1, _)] Try.func49 Try.ntmps49 fun B hB => ?_
  repeat' (first | (refine jR ?_) | (refine k_op rfl ?_; first | refine c_al rfl rfl fun _ => ?_ | refine jV (g_bld rfl rfl) ?_ | refine c_stA rfl rfl rfl rfl rfl rfl ?_ | (refine c_rt rfl rfl rfl cx_ref rfl ?_)) | (refine k_tt rfl rfl ?_))
  all_goals refine jZ (vs := [_, _]) rfl ⟨rc_A rfl rfl rfl rfl, rfl, trivial⟩ rfl ⟨rfl, rfl, ?_⟩
  all_goals rfl
 ·have e : refV vs k = findV vs n := by simp [refV, hr]
  rw [e]
  have cx_ref : PuG Try.prog 29 [S k] G (· = Tu [S n, Bo true]) := by have := c_l2RefK (G := G) hk hl; rwa [hr] at this
  refine jE [(0, _), (1, _)] Try.func49 Try.ntmps49 fun B hB => ?_
  repeat' (first | (refine jR ?_) | (refine k_op rfl ?_; first | refine c_al rfl rfl fun _ => ?_ | refine c_stA rfl rfl rfl rfl rfl rfl ?_ | (refine c_rt rfl rfl rfl cx_ref rfl ?_) | (refine c_rt rfl rfl rfl (c_find (by (repeat (assumption)); done) (by omega)) rfl ?_)) | (refine k_ff rfl rfl ?_))
  all_goals refine jZ (vs := [_, _]) rfl ⟨rc_A rfl rfl rfl rfl, rfl, trivial⟩ rfl ⟨rfl, rfl, ?_⟩
  all_goals rfl
end Go.E
namespace Go.E
set_option maxRecDepth 20000
set_option maxHeartbeats 2000000
open Go.Proofs
variable {G : Gh}
theorem refV_ty (vs : List TyX) (k : List UInt8) : (refV vs k).map (·.2) = refT (tys vs) k := by
 unfold refV refT
 cases refN k with
 | none => rfl
 | some n => simp only [Option.bind_some]; exact findV_ty vs n
theorem refV_mem {vs : List TyX} {k : List UInt8} {x : TyX} (h : refV vs k = some x) : x ∈ vs := by
 unfold refV at h
 cases hr : refN k with
 | none => rw [hr] at h; cases h
 | some n => rw [hr] at h; exact (findV_mem h).1
theorem kindOk_kOk {s : List UInt8} (h : kindOk s = true) : kOk s = true ∧ s.length ≤ 12 := by
 unfold kindOk at h; simp only [Bool.and_eq_true, decide_eq_true_eq] at h; exact ⟨h.2, h.1⟩
theorem c_ends {u : Value} {vs : List TyX} {x0 : TyX} (h : SchR G u vs) (hn : vs.length ≤ 1000) (hw : ∀ x ∈ vs, TyW x.2) (hx : x0 ∈ vs) :
  PuG Try.prog 60 [u, Ag (tyF x0)] G (· = Bo (endsN (tys vs) (vs.length + 1) x0.2)) := by
 have hsl := h.sl
 refine jE [(0, _), (1, _)] Try.func60 Try.ntmps60 fun B hB => ?_
 repeat' (first | (refine jR ?_) | (refine k_op rfl ?_; (refine c_bx rfl rfl rfl fun _ => ?_)))
 rename_i b0
 refine k_loop (ι := TyX × Nat) (fun i => i.1 ∈ vs ∧ i.2 ≤ vs.length + 1 ∧ endsN (tys vs) (vs.length + 1 - i.2) i.1.2 = endsN (tys vs) (vs.length + 1) x0.2) (fun i => [(0, u), (3, Pt b0 0), (5, I i.2)]) (fun _ => G) (fun i => [.blk b0 (.cells (tyF i.1).toArray tTy (0, 0))]) (fun i => vs.length + 1 - i.2) (x0, 0) ?_ (by repeat' constructor) rfl sRr (fun i Hi => ?_)
 ·exact ⟨hx, Nat.zero_le _, rfl⟩
 obtain ⟨⟨⟨a, ca⟩, t⟩, n⟩ := i
 dsimp only at Hi ⊢
 obtain ⟨hxm, hnl, he⟩ := Hi
 have hW := hw _ hxm
 dsimp only at hW
 by_cases hlt : n ≤ vs.length
 case neg =>
  have e0 : vs.length + 1 - n = 0 := by omega
  rw [e0] at he
  repeat' (first | (refine jR ?_) | (refine k_op rfl ?_; (refine jV (g_lenV rfl (by assumption)) ?_)) | (refine k_ff rfl (dFf (by omega)) ?_))
  refine jZ (vs := [_]) rfl ⟨rfl, trivial⟩ rfl ⟨rfl, rfl, ?_⟩
  rw [← he]; rfl
 obtain ⟨m, hm⟩ : ∃ m, vs.length + 1 - n = m + 1 := ⟨vs.length - n, by omega⟩
 rw [hm, endsN] at he
 by_cases hU : t.sort = 85
 case neg =>
  rw [if_pos hU] at he
  repeat' (first | (refine jR ?_) | (refine k_op rfl ?_; first | refine jV (g_lenV rfl (by assumption)) ?_ | refine jV (g_ld rfl rfl rfl) ?_) | (refine k_tt rfl ?_ ?_; (focus ((first | (refine decide_eq_true ?_; (omega)) | (simp; omega)); done))))
  refine jZ (vs := [_]) rfl ⟨rfl, trivial⟩ rfl ⟨rfl, rfl, ?_⟩
  rw [← he]; rfl
 rw [if_neg (by simp [hU])] at he
 have hne := hW.ne (by omega)
 have h0 : 0 < t.fields.length := List.length_pos_iff.2 hne
 obtain ⟨bf, of, cf, ef, hsf⟩ := (h.fl _ hxm).expl h0
 simp only [slX, Value.slice.injEq] at ef
 obtain ⟨rfl, -, rfl⟩ := ef
 dsimp only at hsf
 have hk0 : kind0 t = (nth t.fields 0).kind := by
  unfold kind0 nth
  cases t.fields with
  | nil => rfl
  | cons f r => rfl
 have hkk := kindOk_kOk ((hW.fld _ (nth_mem h0)).kind (by omega))
 rw [hk0] at he
 have href := refV_ty vs (nth t.fields 0).kind
 have cx_rf := c_ref (k := (nth t.fields 0).kind) h (by omega) hkk.1 (by omega)
 rcases hr : refV vs (nth t.fields 0).kind with _ | ⟨⟨a2, c2⟩, t2⟩
 ·rw [hr] at href cx_rf
  rw [← href] at he
  repeat' (first | (refine jR ?_) | (refine k_op rfl ?_; first | refine jV (g_lenV rfl (by assumption)) ?_ | refine jV (g_ld rfl rfl rfl) ?_ | (refine jV (g_ldRF rfl rfl (by assumption) ?_ rfl rfl) ?_; (focus ((omega); done))) | (refine jV (g_iaddrN rfl rfl (by omega)) ?_) | refine c_al rfl rfl fun _ => ?_ | refine c_stA rfl rfl rfl rfl rfl rfl ?_ | (refine c_rt rfl rfl rfl cx_rf rfl ?_)) | (refine k_tt rfl (by first | rfl | (refine decide_eq_true ?_; (omega))) ?_) | (refine k_ff rfl ?_ ?_; (focus ((simp [*]; done); done))))
  all_goals refine jZ (vs := [_]) rfl ⟨rfl, trivial⟩ rfl ⟨rfl, rfl, ?_⟩
  all_goals (rw [← he]; rfl)
 ·rw [hr] at href cx_rf
  rw [← href] at he
  repeat' (first | refine jM ?_ | (refine k_op rfl ?_; first | refine jV (g_lenV rfl (by assumption)) ?_ | refine jV (g_ld rfl rfl rfl) ?_ | (refine jV (g_ldRF rfl rfl (by assumption) ?_ rfl rfl) ?_; (focus ((omega); done))) | refine jV (g_ldA rfl rfl rfl rfl) ?_ | (refine jV (g_iaddrN rfl rfl (by omega)) ?_) | refine c_al rfl rfl fun _ => ?_ | refine c_stA rfl rfl rfl rfl rfl rfl ?_ | (refine c_rt rfl rfl rfl cx_rf rfl ?_)) | (refine k_tt rfl (dTt (by omega)) ?_) | (refine k_ff rfl ?_ ?_; (focus ((first | rfl | (simp [*]; done)); done))))
  refine k_rd (((a2, c2), t2), n + 1) ⟨refV_mem hr, by dsimp only; omega, ?_⟩ (by dsimp only; omega) (by repeat' constructor) rfl (by repeat (first | exact List.Sublist.refl _ | apply List.Sublist.cons))
  dsimp only
  rw [show vs.length + 1 - (n + 1) = m by omega]
  exact he
theorem tys_len (vs : List TyX) : (tys vs).length = vs.length := by simp [tys]
theorem nth_tys {vs : List TyX} {i : Nat} (h : i < vs.length) : nth (tys vs) i = (nth vs i).2 := by
 rw [nth_eq h, nth_eq (by rw [tys_len]; exact h)]; simp [tys]
theorem hasK_find {vs : List TyX} {k : List UInt8} : hasK (tys vs) k = (!(refN (core k)).isSome || (findV vs ((refN (core k)).getD [])).isSome) := by
 unfold hasK
 cases refN (core k) with
 | none => rfl
 | some n =>
  show (findT (tys vs) n).isSome = _
  rw [← findV_ty]; simp
theorem core_kOk {k : List UInt8} (h : kOk k = true) : kOk (core k) = true := by
 induction k with
 | nil => cases h
 | cons c r ih =>
  unfold core
  split
  ·rename_i hc; rw [kOk, if_pos hc] at h; exact ih h
  ·exact h
theorem core_len' : ∀ s : List UInt8, (core s).length ≤ s.length
 | [] => Nat.le_refl _
 | c :: r => by
  unfold core
  split
  ·have := core_len' r; simp; omega
  ·exact Nat.le_refl _
theorem c_valid {u : Value} {vs : List TyX} (h : SchR G u vs) (hn : vs.length ≤ 1000) (hw : ∀ x ∈ vs, TyW x.2) :
    PuG Try.prog 47 [u] G (· = Bo (decide (ValidT (tys vs)))) := by
  have hsl := h.sl
  have hlen := tys_len vs
  refine jE [(0, _)] Try.func47 Try.ntmps47 fun B hB => ?_
  repeat' (refine jR ?_)
  refine k_loop (ι := Nat) (fun i => i ≤ vs.length ∧ ∀ j, j < i → NamesAt (tys vs) j ∧ KindsOk (tys vs) (nth (tys vs) j)) (fun i => [(0, u), (3, I i)]) (fun _ => G) (fun i => []) (fun i => vs.length - i) 0 ?_ (by repeat' constructor) rfl sRr (fun i Hi => ?_)
  · exact ⟨Nat.zero_le _, fun j hj => absurd hj (by omega)⟩
  by_cases hi : i < vs.length
  case neg =>
    have ei : i = vs.length := by omega
    subst ei
    have Hall := Hi.2
    repeat' (first | (refine jR ?_) | (refine k_op rfl ?_; (refine jV (g_lenV rfl (by assumption)) ?_)) | (refine k_ff rfl (dFf (by omega)) ?_))
    refine k_loop (ι := Nat) (fun i => i ≤ vs.length ∧ ∀ j, j < i → endsN (tys vs) ((tys vs).length + 1) (nth (tys vs) j) = true) (fun i => [(0, u), (10, I i)]) (fun _ => G) (fun i => []) (fun i => vs.length - i) 0 ?_ (by repeat' constructor) rfl sRr (fun i Hi => ?_)
    · exact ⟨Nat.zero_le _, fun j hj => absurd hj (by omega)⟩
    by_cases hi : i < vs.length
    · obtain ⟨b, o, cap, rfl, hs⟩ := hsl.expl (by omega)
      have hm := nth_mem hi
      have cx_en := c_ends h hn hw hm
      by_cases he : endsN (tys vs) (vs.length + 1) (nth vs i).2 = true
      · have he2 : (!endsN (tys vs) (vs.length + 1) (nth vs i).2) = false := by rw [he]; rfl
        repeat' (first | refine jM ?_ | (refine k_op rfl ?_; first | refine jV (g_lenL rfl) ?_ | (refine jV (g_iaddrN rfl rfl (by omega)) ?_) | (refine jV (g_ldR rfl rfl (by assumption) ?_) ?_; (focus ((omega); done))) | (refine c_rt rfl rfl rfl cx_en rfl ?_)) | (refine k_tt rfl (dTt (by omega)) ?_) | (refine k_ff rfl ‹_› ?_))
        refine k_rd (i + 1) ⟨by omega, fun j hj => ?_⟩ (by omega) (by repeat' constructor) rfl sRr
        rcases Nat.lt_or_ge j i with h3 | h3
        · exact Hi.2 j h3
        · have : j = i := by omega
          subst this; rw [hlen, nth_tys hi]; exact he
      · have he2 : (!endsN (tys vs) (vs.length + 1) (nth vs i).2) = true := by simpa using he
        repeat' (first | (refine jR ?_) | (refine k_op rfl ?_; first | refine jV (g_lenL rfl) ?_ | (refine jV (g_iaddrN rfl rfl (by omega)) ?_) | (refine jV (g_ldR rfl rfl (by assumption) ?_) ?_; (focus ((omega); done))) | (refine c_rt rfl rfl rfl cx_en rfl ?_)) | (refine k_tt rfl (by first | assumption | (refine decide_eq_true ?_; (omega))) ?_))
        refine jZ (vs := [_]) rfl ⟨rfl, trivial⟩ rfl ⟨rfl, rfl, ?_⟩
        refine congrArg Bo (decide_eq_false fun hv => he ?_).symm
        have := hv.2 i (by omega)
        rwa [hlen, nth_tys hi] at this
    · repeat' (first | (refine jR ?_) | (refine k_op rfl ?_; (refine jV (g_lenV rfl (by assumption)) ?_)) | (refine k_ff rfl (dFf (by omega)) ?_))
      refine jZ (vs := [_]) rfl ⟨rfl, trivial⟩ rfl ⟨rfl, rfl, ?_⟩
      exact congrArg Bo (decide_eq_true ⟨fun j hj => Hall j (by omega), fun j hj => Hi.2 j (by omega)⟩).symm
  obtain ⟨b, o, cap, rfl, hs⟩ := hsl.expl (by omega)
  rcases hxi : nth vs i with ⟨⟨a, ca⟩, t⟩
  have hm : ((a, ca), t) ∈ vs := by rw [← hxi]; exact nth_mem hi
  have hW := hw _ hm
  dsimp only at hW
  have hti : nth (tys vs) i = t := by rw [nth_tys hi, hxi]
  have hE1 : (((a, ca), t) : TyX).2.sort = t.sort := rfl
  have hE2 : (((a, ca), t) : TyX).2.fields.length = t.fields.length := rfl
  have h8 := hW.len
  have hfl := h.fl _ hm
  repeat' (first | (refine jR ?_) | (refine k_op rfl ?_; (refine jV (g_lenL rfl) ?_)) | (refine k_tt rfl (dTt (by omega)) ?_))
  refine k_loop (ι := Nat) (fun k => k ≤ i ∧ ∀ j, j < k → (nth (tys vs) j).name ≠ (nth (tys vs) i).name) (fun k => [(0, .slice (some ⟨b, o, none⟩) vs.length cap), (3, I i), (4, I k)]) (fun _ => G) (fun k => []) (fun k => i - k) 0 ?_ (by repeat' constructor) rfl sRr (fun k Hk => ?_)
  · exact ⟨Nat.zero_le _, fun j hj => absurd hj (by omega)⟩
  by_cases hk : k < i
  · have hkv : k < vs.length := by omega
    by_cases hnm : (nth vs k).2.name = t.name
    · repeat' (first | (refine jR ?_) | (refine k_tt rfl (by refine decide_eq_true ?_; first | assumption | omega) ?_) | (refine k_any (s_any (id := 7) _ (fun _ h => h) mixed ?_); refine jT 7 [0, 1, 5, 6] (bts 11 99) ?_; (refine jG (bts 11 103) 2 rfl (g_iaddrN rfl rfl (by omega)) ?_); refine jT 5 [3] (bts 11 111) ?_; ((refine jG (bts 11 127) 4 rfl (g_ldRF rfl rfl (by assumption) ?_ rfl rfl) ?_; (focus ((omega); done)))); (refine jG (bts 11 255) 7 rfl (g_iaddrN rfl rfl (by omega)) ?_); refine jT 2 [8] (bts 11 511) ?_; ((refine jG (bts 11 1023) 9 rfl (g_ldRFx rfl rfl (by assumption) ?_ (by assumption) rfl rfl) ?_; (focus ((omega); done)))); refine jT 0 [10] (bts 11 2047) ?_; refine x_done (by kernel_rfl) (k_bk ?_)))
      refine jZ (vs := [_]) rfl ⟨rfl, trivial⟩ rfl ⟨rfl, rfl, ?_⟩
      refine congrArg Bo (decide_eq_false fun hv => ?_).symm
      have := (hv.1 i (by omega)).1 k hk
      rw [nth_tys hkv, hti] at this
      exact this hnm
    · repeat' (first | refine jM ?_ | (refine k_tt rfl (dTt (by omega)) ?_) | (refine k_ff rfl (dFf ‹_›) ?_) | (refine k_any (s_any (id := 7) _ (fun _ h => h) mixed ?_); refine jT 7 [0, 1, 5, 6] (bts 11 99) ?_; (refine jG (bts 11 103) 2 rfl (g_iaddrN rfl rfl (by omega)) ?_); refine jT 5 [3] (bts 11 111) ?_; ((refine jG (bts 11 127) 4 rfl (g_ldRF rfl rfl (by assumption) ?_ rfl rfl) ?_; (focus ((omega); done)))); (refine jG (bts 11 255) 7 rfl (g_iaddrN rfl rfl (by omega)) ?_); refine jT 2 [8] (bts 11 511) ?_; ((refine jG (bts 11 1023) 9 rfl (g_ldRFx rfl rfl (by assumption) ?_ (by assumption) rfl rfl) ?_; (focus ((omega); done)))); refine jT 0 [10] (bts 11 2047) ?_; refine x_done (by kernel_rfl) (k_bk ?_)))
      refine k_rd (k + 1) ⟨by omega, fun j hj => ?_⟩ (by omega) (by repeat' constructor) rfl sRr
      rcases Nat.lt_or_ge j k with h3 | h3
      · exact Hk.2 j h3
      · have : j = k := by omega
        subst this; rw [nth_tys hkv, hti]; exact hnm
  have hna : NamesAt (tys vs) i := fun j hj => Hk.2 j (by omega)
  repeat' (first | (refine jR ?_) | (refine k_ff rfl (dFf (by omega)) ?_))
  refine k_loop (ι := Nat) (fun k => (t.sort = 69 ∨ ∀ j, j < k → hasK (tys vs) (nth t.fields j).kind = true) ∧ k ≤ t.fields.length) (fun k => [(0, .slice (some ⟨b, o, none⟩) vs.length cap), (3, I i), (5, I k)]) (fun _ => G) (fun k => []) (fun k => t.fields.length - k) 0 ?_ (by repeat' constructor) rfl sRr (fun k Hk => ?_)
  · exact ⟨.inr fun j hj => absurd hj (by omega), Nat.zero_le _⟩
  by_cases hk : k < t.fields.length ∧ t.sort ≠ 69
  case neg =>
    have hko : KindsOk (tys vs) (nth (tys vs) i) := by
      rw [hti]
      by_cases h69 : t.sort = 69
      · exact .inl h69
      · refine .inr fun j hj => ?_
        rcases Hk.1 with h3 | h3
        · exact absurd h3 h69
        · exact h3 j (by omega)
    repeat' (first | refine jM ?_ | (refine k_op rfl ?_; first | refine jV (g_lenL rfl) ?_ | (refine jV (g_iaddrN rfl rfl (by omega)) ?_) | (refine jV (g_ldRFx rfl rfl (by assumption) ?_ (by assumption) rfl rfl) ?_; (focus ((omega); done))) | (refine jV (g_pickT rfl rfl rfl) ?_) | (refine jV (g_pickF rfl rfl rfl) ?_)) | refine k_g rfl rfl (fun _ => ?_) (fun _ => ?_) | (refine k_ff rfl (by first | rfl | (refine decide_eq_false ?_; (omega))) ?_))
    all_goals refine k_rd (i + 1) ⟨by omega, fun j hj => ?_⟩ (by omega) (by repeat' constructor) rfl sRr
    all_goals (rcases Nat.lt_or_ge j i with h3 | h3; · exact Hi.2 j h3)
    all_goals (have : j = i := by omega)
    all_goals (subst this; exact ⟨hna, hko⟩)
  obtain ⟨hk1, hk2⟩ := hk
  obtain ⟨bf, of, cf, ef, hsf⟩ := hfl.expl (by dsimp only; omega)
  simp only [slX, Value.slice.injEq] at ef
  obtain ⟨rfl, -, rfl⟩ := ef
  dsimp only at hsf
  have hE1 : (((some ⟨bf, of, none⟩, ca), t) : TyX).2.sort = t.sort := rfl
  have hE2 : (((some ⟨bf, of, none⟩, ca), t) : TyX).2.fields.length = t.fields.length := rfl
  have hkk := kindOk_kOk ((hW.fld _ (nth_mem hk1)).kind hk2)
  have hkk1 := hkk.1
  have hcl := core_len' (nth t.fields k).kind
  have cx_ref : PuG Try.prog 29 [S (core (nth t.fields k).kind)] G (· = Tu [S ((refN (core (nth t.fields k).kind)).getD []), Bo (refN (core (nth t.fields k).kind)).isSome]) := c_l2RefK (core_kOk hkk1) (by omega)
  have hhas := hasK_find (vs := vs) (k := (nth t.fields k).kind)
  repeat' (first | refine jM ?_ | (refine k_op rfl ?_; first | refine jV (g_lenL rfl) ?_ | (refine jV (g_iaddrN rfl rfl (by omega)) ?_) | (refine jV (g_ldRFx rfl rfl (by assumption) ?_ (by assumption) rfl rfl) ?_; (focus ((omega); done))) | (refine jV (g_ldRF rfl rfl (by assumption) ?_ rfl rfl) ?_; (focus ((omega); done))) | (refine jV (g_pickT rfl rfl rfl) ?_) | (refine jV (g_pickF rfl rfl rfl) ?_) | refine c_al rfl rfl fun _ => ?_ | refine c_stA rfl rfl rfl rfl rfl rfl ?_ | (refine c_rt rfl rfl rfl (c_l2Core (by (repeat (assumption)); done)) rfl ?_) | (refine c_rt rfl rfl rfl cx_ref rfl ?_) | (refine c_rt rfl rfl rfl (c_find (by (repeat (assumption)); done) (by omega)) rfl ?_)) | (refine k_gt rfl rfl (dTt (by omega)) ?_) | refine k_gb rfl rfl (fun _ => ?_) (fun _ => ?_) | (refine k_tt rfl (dTt (by omega)) ?_) | (refine k_ff rfl rfl ?_) | refine k_cd rfl (fun _ => ?_) (fun _ => ?_))
  all_goals first
    | (rename_i h1 h2
       have hK : hasK (tys vs) (nth t.fields k).kind = false := by rw [hhas, h1]; simpa using h2
       refine jZ (vs := [_]) rfl ⟨rfl, trivial⟩ rfl ⟨rfl, rfl, ?_⟩
       refine congrArg Bo (decide_eq_false fun hv => ?_).symm
       have h5 := (hv.1 i (by omega)).2
       rw [hti] at h5
       rcases h5 with h3 | h3
       · exact hk2 h3
       · have h6 := h3 k hk1
         rw [hK] at h6; cases h6)
    | (have hK : hasK (tys vs) (nth t.fields k).kind = true := by rw [hhas]; simp_all
       refine k_rd (k + 1) ⟨.inr fun j hj => ?_, by omega⟩ (by omega) (by repeat' constructor) rfl (by repeat (exact List.nil_sublist _))
       rcases Nat.lt_or_ge j k with h3 | h3
       · rcases Hk.1 with h4 | h4
         · exact absurd h4 hk2
         · exact h4 j h3
       · have : j = k := by omega
         subst this; exact hK)
theorem typesOf_snoc : ∀ {xs : List (List UInt8)} {ts : List Ty} {x : List UInt8}, typesOf xs = some ts → typesOf (xs ++ [x]) = (tyOf x).map (fun t => ts ++ [t])
 | [], ts, x, h => by
  simp only [typesOf, Option.some.injEq] at h; subst h
  simp only [List.nil_append, typesOf]
  cases tyOf x <;> rfl
 | y :: xs, ts, x, h => by
  unfold typesOf at h
  rw [List.cons_append, typesOf]
  cases hy : tyOf y with
  | none => rw [hy] at h; cases h
  | some t =>
   rw [hy] at h
   dsimp only at h ⊢
   cases hr : typesOf xs with
   | none => rw [hr] at h; cases h
   | some us =>
    rw [hr] at h
    simp only [Option.map_some, Option.some.injEq] at h; subst h
    rw [typesOf_snoc hr]
    cases tyOf x <;> rfl
theorem typesOf_app_none : ∀ {xs ys : List (List UInt8)}, typesOf xs = none → typesOf (xs ++ ys) = none
 | [], ys, h => by cases h
 | y :: xs, ys, h => by
  unfold typesOf at h
  rw [List.cons_append, typesOf]
  cases hy : tyOf y with
  | none => rfl
  | some t =>
   rw [hy] at h
   dsimp only at h ⊢
   cases hr : typesOf xs with
   | none => rw [typesOf_app_none hr]; rfl
   | some us => rw [hr] at h; cases h
def OfPost (s : List UInt8) (v : Value) (G : Gh) : Prop := ∃ u vs, v = Tu [u, Bo (schemaOf s).isSome] ∧ SchR G u vs ∧ vs.length ≤ 8 ∧ ∀ ts, schemaOf s = some ts → tys vs = ts
theorem SchR.nil : SchR G nilS [] := ⟨SlV.nil0, by simp⟩
theorem c_cutE {s : List UInt8} {k : Nat} (h : s.length ≤ 100000000) : FnS Try.prog 41 [S s, U8 k] G (fun v G' => ∃ b o cap, v = .slice (some ⟨b, o, none⟩) (cut k s).length cap ∧ Seg G' b o (rows strF (cut k s))) := by
 refine (c_l3CutS (G := G) (k := k) h).mono ?_
 rintro v G' L' ⟨h1, h2, h3⟩
 obtain ⟨b, o, cap, rfl, hs⟩ := h3.expl cut_pos
 exact ⟨h1, h2, b, o, cap, rfl, hs⟩
theorem c_l3ReadTypeX {s : List UInt8} (h : s.length ≤ 1000) : FnS Try.prog 46 [S s] G (fun v G' => ∃ (x : TyX) (ok : Bool), v = Tu [Ag [U8 x.2.sort, S x.2.name, .slice x.1.1 x.2.fields.length x.1.2], Bo ok] ∧ (tyOf s = if ok = true then some x.2 else none) ∧ SlV G' (slX x) 4 x.2.fields.length (rows fldF x.2.fields)) := by
 refine (c_l3ReadType (G := G) h).mono ?_
 rintro v G' L' ⟨h1, h2, fv, t, ok, rfl, h3, h4⟩
 obtain ⟨a, cap, rfl⟩ := h4.sl
 exact ⟨h1, h2, ((a, cap), t), ok, rfl, h3, h4⟩
theorem c_l3Of0 {s : List UInt8} (h : s.length ≤ 10000000) (hb : ¬ (s.length ≤ 400 ∧ (cut 10 s).length ≤ 9 ∧ nth (cut 10 s) ((cut 10 s).length - 1) = [])) (hno : schemaOf s = none) : FnS Try.prog 27 [S s] G (OfPost s) := by
 have hpos := cut_pos (k := 10) (s := s)
 have hcnt := cut_count (k := 10) (s := s)
 have cx_cutE := c_cutE (G := G) (s := s) (k := 10) (by omega)
 generalize cut 10 s = xs at *
 have e1 : (((xs.length : Nat) : Int) - 1).toNat = xs.length - 1 := by omega
 refine jB [(0, _)] Try.func27 Try.ntmps27 fun B hok hB hW => ?_
 by_cases h1 : s.length ≤ 400
 case neg =>
  repeat' (first | (refine jR ?_) | (refine k_op rfl ?_; first | (refine jV (g_pickT rfl rfl rfl) ?_) | (refine c_fns rfl rfl rfl cx_cutE rfl ?_; rintro _ G hle ⟨b1, o1, cap1, rfl, hseg⟩; skip)) | (refine k_gt rfl rfl (by first | rfl | (refine decide_eq_true ?_; (omega))) ?_) | (refine k_tt rfl rfl ?_))
  all_goals refine jZ (vs := [_, _]) rfl ⟨rfl, rfl, trivial⟩ rfl ⟨hle, rfl, ?_⟩
  all_goals exact ⟨nilS, [], by rw [hno]; rfl, SchR.nil, by simp, fun ts h => by rw [hno] at h; cases h⟩
 by_cases h2 : xs.length ≤ 9
 case neg =>
  repeat' (first | (refine jR ?_) | (refine k_op rfl ?_; first | refine jV (g_lenL rfl) ?_ | (refine jV (g_pickT rfl rfl rfl) ?_) | (refine jV (g_pickF rfl rfl rfl) ?_) | (refine c_fns rfl rfl rfl cx_cutE rfl ?_; rintro _ G hle ⟨b1, o1, cap1, rfl, hseg⟩; skip)) | (refine k_gt rfl rfl (dTt (by omega)) ?_) | (refine k_gf rfl rfl (dFf (by omega)) ?_) | (refine k_tt rfl rfl ?_))
  all_goals refine jZ (vs := [_, _]) rfl ⟨rfl, rfl, trivial⟩ rfl ⟨hle, rfl, ?_⟩
  all_goals exact ⟨nilS, [], by rw [hno]; rfl, SchR.nil, by simp, fun ts h => by rw [hno] at h; cases h⟩
 have h3 : ¬ nth xs (((xs.length : Nat) : Int) - 1).toNat = [] := by rw [e1]; exact fun h => hb ⟨h1, h2, h⟩
 clear hb
 repeat' (first | refine jM ?_ | (refine k_op rfl ?_; first | refine jV (g_lenL rfl) ?_ | (refine jV (g_pickF rfl rfl rfl) ?_) | (refine jV (g_iaddr rfl rfl (by omega)) ?_) | (refine jV (g_ldRS rfl rfl (by assumption) ?_) ?_; (focus ((omega); done))) | (refine c_fns rfl rfl rfl cx_cutE rfl ?_; rintro _ G hle ⟨b1, o1, cap1, rfl, hseg⟩; skip)) | (refine k_gf rfl rfl (dFf (by omega)) ?_) | (refine k_tt rfl (dTt ‹_›) ?_))
 all_goals refine jZ (vs := [_, _]) rfl ⟨rfl, rfl, trivial⟩ rfl ⟨hle, rfl, ?_⟩
 all_goals exact ⟨nilS, [], by rw [hno]; rfl, SchR.nil, by simp, fun ts h => by rw [hno] at h; cases h⟩
theorem c_l3Of1 {s : List UInt8} (h : s.length ≤ 400) (h2 : (cut 10 s).length ≤ 9) (h3 : nth (cut 10 s) ((cut 10 s).length - 1) = []) (hsc : schemaOf s = match typesOf ((cut 10 s).take ((cut 10 s).length - 1)) with
    | some ts => if ValidT ts then some ts else none
    | none => none) : FnS Try.prog 27 [S s] G (OfPost s) := by
  have hpos := cut_pos (k := 10) (s := s)
  have hall : ∀ y ∈ cut 10 s, y.length ≤ s.length := fun y hy => cut_len hy
  have cx_cutE := c_cutE (G := G) (s := s) (k := 10) (by omega)
  generalize cut 10 s = xs at *
  have e1 : (((xs.length : Nat) : Int) - 1).toNat = xs.length - 1 := by omega
  have h4 : nth xs (((xs.length : Nat) : Int) - 1).toNat = [] := by rw [e1]; exact h3
  have h5 : ¬ nth xs (((xs.length : Nat) : Int) - 1).toNat ≠ [] := fun h => h h4
  clear e1 h3 h4
  refine jB [(0, _)] Try.func27 Try.ntmps27 fun B hok hB hW => ?_
  repeat' (first | refine jM ?_ | (refine k_op rfl ?_; first | refine jV (g_lenL rfl) ?_ | (refine jV (g_pickF rfl rfl rfl) ?_) | (refine jV (g_iaddr rfl rfl (by omega)) ?_) | (refine jV (g_ldRS rfl rfl (by assumption) ?_) ?_; (focus ((omega); done))) | refine c_bsl rfl rfl rfl rfl rfl rfl fun _ => ?_ | (refine c_fns rfl rfl rfl cx_cutE rfl ?_; rintro _ G hle ⟨b1, o1, cap1, rfl, hseg⟩; skip)) | (refine k_gf rfl rfl (dFf (by omega)) ?_) | (refine k_ff rfl (dFf ‹_›) ?_))
  rename_i x0
  refine Nx.blkAcc (m := 0) (sz := 3) .here rfl ?_
  refine k_loop (ι := Value × List TyX × Nat × Gh) (fun i => ((i.2.2.1 + 1 ≤ xs.length ∧ i.2.1.length = i.2.2.1) ∧ typesOf (xs.take i.2.2.1) = some (tys i.2.1)) ∧ (∀ y ∈ i.2.1, SlV i.2.2.2 (slX y) 4 y.2.fields.length (rows fldF y.2.fields)) ∧ Gh.le G i.2.2.2) (fun i => [(4, .slice (some ⟨b1, o1, none⟩) xs.length cap1), (5, i.1), (6, I i.2.2.1)]) (fun i => i.2.2.2) (fun i => [.acc i.1 tTy 3 i.2.1.length (rows tyF i.2.1)]) (fun i => xs.length - i.2.2.1) (.slice (some ⟨x0, 0, none⟩) 0 0, [], 0, G) ?_ (by repeat' constructor) rfl sRr (fun i Hi => ?_)
  · exact ⟨⟨⟨by dsimp only; omega, rfl⟩, rfl⟩, by simp, Gh.le.refl _⟩
  obtain ⟨u, vs, i, Gk⟩ := i
  dsimp only at Hi ⊢
  obtain ⟨⟨⟨hi1, hi2⟩, hty⟩, hfs, hgk⟩ := Hi
  have hsk := hseg.mono hgk
  have hle0 := hle
  by_cases hix : i + 1 < xs.length
  case neg =>
    have ei : i = xs.length - 1 := by omega
    rw [← ei, hty] at hsc
    dsimp only at hsc
    refine Nx.sealS (v := u) fun G1 hle1 hsl => ?_
    have hS : SchR G1 u vs := ⟨hsl, fun x hx => (hfs x hx).mono hle1⟩
    have hw : ∀ x ∈ vs, TyW x.2 := fun x hx => (typesOf_w hty).1 x.2 (show x.2 ∈ vs.map (fun y => y.2) from List.mem_map_of_mem hx)
    have cx_val := c_valid hS (by omega) hw
    repeat' (first | refine jM ?_ | (refine k_op rfl ?_; first | refine jV (g_lenL rfl) ?_ | (refine c_rt rfl rfl rfl cx_val rfl ?_)) | (refine k_ff rfl (dFf (by omega)) ?_))
    all_goals refine jZ (vs := [_, _]) rfl ⟨rfl, rfl, trivial⟩ rfl ⟨(hle0.trans hgk).trans hle1, rfl, ?_⟩
    all_goals refine ⟨u, vs, ?_, hS, by omega, fun ts h => ?_⟩
    · rw [hsc, oneOf_two]
      by_cases hv : ValidT (tys vs)
      · rw [if_pos hv, decide_eq_true hv]; rfl
      · rw [if_neg hv, decide_eq_false hv]; rfl
    · rw [hsc] at h
      split at h
      · exact Option.some.inj h
      · cases h
  have hx2 : (nth xs i).length ≤ 1000 := by have := hall _ (nth_mem (show i < xs.length by omega)); omega
  have hsn := typesOf_snoc (x := nth xs i) hty
  rw [← take_nth (by omega)] at hsn
  repeat' (first | refine jM ?_ | (refine k_op rfl ?_; first | refine jV (g_lenL rfl) ?_ | (refine jV (g_iaddrN rfl rfl (by omega)) ?_) | refine jV (g_ldA rfl rfl rfl rfl) ?_ | (refine jV (g_ldRS rfl rfl (by assumption) ?_) ?_; (focus ((omega); done))) | refine c_bsl rfl rfl rfl rfl rfl rfl fun _ => ?_ | refine c_al rfl rfl fun _ => ?_ | refine c_stA rfl rfl rfl rfl rfl rfl ?_ | (refine c_apX rfl rfl rfl rfl rfl rfl rfl rfl rfl (by omega) fun _ _ => ?_) | (refine c_fns rfl rfl rfl (c_l3ReadTypeX (by omega)) rfl ?_; rintro _ G hle ⟨x, ok, rfl, htyp, hfl⟩; skip)) | (refine k_tt rfl (dTt (by omega)) ?_) | refine k_cd rfl (fun _ => ?_) (fun _ => ?_))
  all_goals first
    | (rename_i hq
       have hq2 : ok = false := by simpa using hq
       subst hq2
       have hf0 : tyOf (nth xs i) = none := htyp
       have hno : schemaOf s = none := by
         rw [hf0] at hsn
         have e2 : xs.take (xs.length - 1) = xs.take (i + 1) ++ (xs.take (xs.length - 1)).drop (i + 1) := by
           have := List.take_append_drop (i + 1) (xs.take (xs.length - 1))
           rw [List.take_take, Nat.min_eq_left (by omega)] at this
           exact this.symm
         rw [hsc, e2, typesOf_app_none hsn]
       refine jZ (vs := [_, _]) rfl ⟨rfl, rfl, trivial⟩ rfl ⟨(hle0.trans hgk).trans hle, rfl, ?_⟩
       exact ⟨nilS, [], by rw [hno]; rfl, SchR.nil, by simp, fun ts h => by rw [hno] at h; cases h⟩)
    | (rename_i z hq w b2 c2
       have hq2 : ok = true := by simpa using hq
       subst hq2
       have hf1 : tyOf (nth xs i) = some x.2 := htyp
       rw [hf1] at hsn
       have e3 : rows tyF vs ++ [U8 x.2.sort, S x.2.name, .slice x.1.1 x.2.fields.length x.1.2] = rows tyF (vs ++ [x]) := (rows_snoc tyF vs x).symm
       refine k_rd (.slice (some ⟨b2, 0, none⟩) (vs.length + 1) c2, vs ++ [x], i + 1, G) ⟨⟨⟨by dsimp only; omega, by simp; omega⟩, ?_⟩, ?_, hgk.trans hle⟩ (by dsimp only; omega) (by repeat' constructor) rfl (by dsimp only; rw [e3]; simp only [List.length_append, List.length_cons, List.length_nil, Nat.zero_add]; repeat (first | exact List.nil_sublist _ | apply List.Sublist.cons_cons))
       · dsimp only; rw [hsn]; simp [tys]
       · intro y hy
         rcases List.mem_append.1 hy with hy | hy
         · exact (hfs y hy).mono hle
         · simp only [List.mem_singleton] at hy; subst hy; exact hfl)
theorem c_l3Of {s : List UInt8} (h : s.length ≤ 10000000) : FnS Try.prog 27 [S s] G (OfPost s) := by
 have hpos := cut_pos (k := 10) (s := s)
 have hlast : (cut 10 s).getLastD [] = nth (cut 10 s) ((cut 10 s).length - 1) := by
  rw [nth_eq (by omega), List.getLastD_eq_getLast?, List.getLast?_eq_getElem?]
  rw [List.getElem?_eq_getElem (by omega)]; rfl
 by_cases hc : s.length ≤ 400 ∧ (cut 10 s).length ≤ 9 ∧ nth (cut 10 s) ((cut 10 s).length - 1) = []
 ·refine c_l3Of1 hc.1 hc.2.1 hc.2.2 ?_
  unfold schemaOf
  rw [hlast, if_pos hc, List.dropLast_eq_take]
  all_goals rfl
 ·refine c_l3Of0 h hc ?_
  unfold schemaOf
  rw [hlast, if_neg hc]
def kindS (s k : List UInt8) : Bool := match schemaOf s with
 | some ts => kindIn ts k
 | none => false
theorem c_SchemaOkS {s : List UInt8} (h : s.length ≤ 10000000) : PuG Try.prog 16 [S s] G (· = Bo (schemaOf s).isSome) := by
 refine jB (Post := fun v G' L' => G' = G ∧ L' = [] ∧ _) [(0, _)] Try.func16 Try.ntmps16 fun B hok hB hW => ?_
 repeat' (first | (refine jR ?_) | (refine k_op rfl ?_; (refine c_fns rfl rfl rfl (c_l3Of (by omega)) rfl ?_; rintro _ G hle ⟨u, vs, rfl, hsch, hvl, hvs⟩; skip)))
 refine Nx.base hok hB ?_
 refine jZ (vs := [_]) rfl ⟨rfl, trivial⟩ rfl ⟨rfl, rfl, ?_⟩
 rfl
def KindPost (s k : List UInt8) (v : Value) (G : Gh) : Prop := ∃ u vs, v = Tu [u, Bo (kindS s k)] ∧ SchR G u vs ∧ vs.length ≤ 8 ∧ ∀ ts, schemaOf s = some ts → kindIn ts k = true → tys vs = ts
theorem c_l3Kind {s k : List UInt8} (h : s.length ≤ 10000000) (hk : k.length ≤ 10000000) : FnS Try.prog 18 [S s, S k] G (KindPost s k) := by
  cases hs : schemaOf s with
  | none =>
    have hno : kindS s k = false := by unfold kindS; rw [hs]
    have e1 : (!(schemaOf s).isSome) = true := by rw [hs]; rfl
    refine jB [(0, _), (1, _)] Try.func18 Try.ntmps18 fun B hok hB hW => ?_
    repeat' (first | (refine jR ?_) | (refine k_op rfl ?_; first | (refine jV (g_pickT rfl rfl rfl) ?_) | (refine c_fns rfl rfl rfl (c_l3Of (by omega)) rfl ?_; rintro _ G hle ⟨u, vs, rfl, hsch, hvl, hvs⟩; skip)) | (refine k_gt rfl rfl ‹_› ?_) | (refine k_tt rfl rfl ?_))
    all_goals refine jZ (vs := [_, _]) rfl ⟨rfl, rfl, trivial⟩ rfl ⟨hle, rfl, ?_⟩
    all_goals exact ⟨nilS, [], by rw [hno]; rfl, SchR.nil, by simp, fun ts h => by rw [hs] at h; cases h⟩
  | some ts =>
    have e1 : (!(schemaOf s).isSome) = false := by rw [hs]; rfl
    by_cases hko : kindOk k = true
    case neg =>
      have hno : kindS s k = false := by unfold kindS kindIn; rw [hs]; simp [hko]
      have e2 : (!kindOk k) = true := by simpa using hko
      refine jB [(0, _), (1, _)] Try.func18 Try.ntmps18 fun B hok hB hW => ?_
      repeat' (first | (refine jR ?_) | (refine k_op rfl ?_; first | (refine jV (g_pickF rfl rfl rfl) ?_) | (refine c_fns rfl rfl rfl (c_l3Of (by omega)) rfl ?_; rintro _ G hle ⟨u, vs, rfl, hsch, hvl, hvs⟩; skip) | (refine c_rt rfl rfl rfl c_KindOkS rfl ?_)) | (refine k_gf rfl rfl ‹_› ?_) | (refine k_tt rfl ‹_› ?_))
      all_goals refine jZ (vs := [_, _]) rfl ⟨rfl, rfl, trivial⟩ rfl ⟨hle, rfl, ?_⟩
      all_goals exact ⟨nilS, [], by rw [hno]; rfl, SchR.nil, by simp, fun ts h1 h2 => by unfold kindIn at h2; simp [hko] at h2⟩
    have e2 : (!kindOk k) = false := by rw [hko]; rfl
    have hkk := kindOk_kOk hko
    have hkk1 := hkk.1
    have hcl := core_len' k
    have cx_rf2 : ∀ G, PuG Try.prog 29 [S (core k)] G (· = Tu [S ((refN (core k)).getD []), Bo (refN (core k)).isSome]) := fun G => c_l2RefK (core_kOk hkk1) (by omega)
    refine jB [(0, _), (1, _)] Try.func18 Try.ntmps18 fun B hok hB hW => ?_
    repeat' (first | (refine jR ?_) | (refine k_op rfl ?_; first | (refine jV (g_pickT rfl rfl rfl) ?_) | (refine jV (g_pickF rfl rfl rfl) ?_) | refine c_al rfl rfl fun _ => ?_ | refine c_stA rfl rfl rfl rfl rfl rfl ?_ | (refine c_fns rfl rfl rfl (c_l3Of (by omega)) rfl ?_; rintro _ G hle ⟨u, vs, rfl, hsch, hvl, hvs⟩; skip) | (refine c_rt rfl rfl rfl c_KindOkS rfl ?_) | (refine c_rt rfl rfl rfl (c_l2Core (by (repeat (assumption)); done)) rfl ?_) | (refine c_rt rfl rfl rfl (cx_rf2 _) rfl ?_) | (refine c_rt rfl rfl rfl (c_find (by (repeat (assumption)); done) (by omega)) rfl ?_)) | (refine k_gf rfl rfl ‹_› ?_) | refine k_gb rfl rfl (fun _ => ?_) (fun _ => ?_) | (refine k_ff rfl ‹_› ?_))
    all_goals rename_i hq
    all_goals refine jZ (vs := [_, _]) rfl ⟨rfl, rfl, trivial⟩ rfl ⟨hle, rfl, ?_⟩
    all_goals have hks : kindS s k = (!(refN (core k)).isSome || (findV vs ((refN (core k)).getD [])).isSome) := by
                unfold kindS kindIn
                rw [hs]
                dsimp only
                rw [hko, Bool.true_and, ← hvs ts hs, hasK_find]
    all_goals exact ⟨u, vs, by rw [hks, hq]; rfl, hsch, hvl, fun ts' h1 _ => hvs ts' h1⟩
abbrev TyP := Nat × Ty
def ptF (q : TyP) : List Value := [Pt q.1 0]
instance : RowF ptF 1 := ⟨fun _ => rfl⟩
def kvsOf (qs : List TyP) : List (List UInt8 × Value) := qs.map fun q => (q.2.name, Pt q.1 0)
def tyq (qs : List TyP) : List Ty := qs.map (·.2)
structure ScI (G : Gh) (b : Nat) (qs : List TyP) : Prop where
 at' : ∃ u m, Seg G b 0 [u, .map (some m)] ∧ SlV G u 1 qs.length (rows ptF qs) ∧ G m = some (.ex (mapO (kvsOf qs)))
 ty : ∀ q ∈ qs, TyI G q.1 q.2
theorem ScI.mono {G G' : Gh} {b : Nat} {qs : List TyP} (h : ScI G b qs) (hl : Gh.le G G') : ScI G' b qs := by
 obtain ⟨u, m, h1, h2, h3⟩ := h.at'
 exact ⟨⟨u, m, h1.mono hl, h2.mono hl, hl _ _ h3⟩, fun q hq => (h.ty q hq).mono hl⟩
end Go.E
namespace Go.E
set_option maxRecDepth 20000
set_option maxHeartbeats 2000000
structure Rdg (s : List UInt8) (ls : List (List UInt8)) (ts : List Ty) (t : List UInt8) : Prop where
 cutE : cut 10 s = ls ++ cut 10 t
 tyE : typesOf ls = some ts
theorem Rdg.len {s : List UInt8} {ls : List (List UInt8)} {ts : List Ty} {t : List UInt8} (h : Rdg s ls ts t) : ts.length = ls.length := (typesOf_w h.tyE).2
theorem Rdg.fin {s : List UInt8} {ls : List (List UInt8)} {ts : List Ty} (h : Rdg s ls ts []) (hl : s.length ≤ 400) (h8 : ts.length ≤ 8) : schemaOf s = if ValidT ts then some ts else none := by
 have hlen := h.len
 have e : cut 10 s = ls ++ [[]] := h.cutE
 unfold schemaOf
 rw [e, if_pos ⟨hl, by simp; omega, by simp⟩, List.dropLast_concat, h.tyE]
end Go.E
namespace Go.E
set_option maxRecDepth 20000
set_option maxHeartbeats 2000000
open Go.Proofs
variable {G : Gh}
theorem kind0_nth {t : Ty} : kind0 t = (nth t.fields 0).kind := by
 unfold kind0 nth
 cases t.fields with
 | nil => rfl
 | cons f r => rfl
theorem tag0_nth {t : Ty} : tag0 t = (nth t.fields 0).tag := by
 unfold tag0 nth
 cases t.fields with
 | nil => rfl
 | cons f r => rfl
theorem decI_len6 {n : Int} (h : 0 ≤ n ∧ n ≤ 9223372036854775807) : (decI n).length ≤ 19 := decI_len h.2
theorem plainOf_len (k : List UInt8) : (plainOf k).length ≤ 2 := by
 unfold plainOf
 split
 ·simp
 ·split
  ·simp
  ·split <;> simp
theorem SchW.tag0 {ts : List Ty} (h : SchW ts) {t : Ty} (ht : t ∈ ts) : 0 ≤ Go.E.tag0 t ∧ Go.E.tag0 t ≤ 200 := by
 rw [tag0_nth]
 by_cases h0 : 0 < t.fields.length
 ·have := ((h.ty t ht).fld _ (nth_mem h0)).tag; omega
 ·have : t.fields = [] := List.eq_nil_of_length_eq_zero (by omega)
  rw [this]; exact ⟨Int.le_refl _, by decide⟩
theorem standN_len {ts : List Ty} (h : SchW ts) : ∀ (n : Nat) (k : List UInt8), (standN ts n k).length ≤ 30 * n
 | 0, k => by simp [standN]
 | n + 1, [] => by simp [standN]
 | n + 1, c :: r => by
  unfold standN
  split
  ·simp; omega
  ·split
   ·simp; omega
   ·split
    ·have := plainOf_len (c :: r); omega
    ·rename_i t ht
     have h1 := h.tag0 (refT_mem ht)
     have h2 := decI_len6 (n := tag0 t) (by omega)
     have h3 := standN_len h n (kind0 t)
     split
     ·simp; omega
     ·split
      ·simp; omega
      ·simp; omega
theorem kind_in {ts : List Ty} (h : SchW ts) {t : Ty} (ht : t ∈ ts) (hs : t.sort ≠ 69) {f : Fld} (hf : f ∈ t.fields) : kindIn ts f.kind = true := by
 unfold kindIn
 rw [((h.ty t ht).fld f hf).kind hs, Bool.true_and]
 obtain ⟨i, hi, rfl⟩ := List.mem_iff_getElem.1 ht
 obtain ⟨j, hj, rfl⟩ := List.mem_iff_getElem.1 hf
 have h1 := (h.valid.1 i hi).2
 rw [nth_eq hi] at h1
 rcases h1 with h1 | h1
 ·exact absurd h1 hs
 ·have := h1 j hj
  rwa [nth_eq hj] at this
theorem kindIn_ok {ts : List Ty} {k : List UInt8} (h : kindIn ts k = true) : kindOk k = true := by
 unfold kindIn at h; simp only [Bool.and_eq_true] at h; exact h.1
theorem core_self {c : UInt8} {r : List UInt8} (h : ¬ (c.toNat = 91 ∨ c.toNat = 63)) : core (c :: r) = c :: r := by rw [core, if_neg h]
theorem ends_of {ts : List Ty} (h : SchW ts) {k : List UInt8} (t : Ty) (ht : refT ts k = some t) : endsN ts (ts.length + 1) t = true := by
 obtain ⟨i, hi, rfl⟩ := List.mem_iff_getElem.1 (refT_mem ht)
 have := h.valid.2 i hi
 rwa [nth_eq hi] at this
theorem c_standsS {u : Value} {vs : List TyX} (h : SchR G u vs) (hw : SchW (tys vs)) : ∀ (n : Nat) {k : List UInt8}, n ≤ 1000 → kindIn (tys vs) k = true → (∀ t, refT (tys vs) k = some t → endsN (tys vs) n t = true) →
  PuG Try.prog 62 [u, S k] G (· = S (standN (tys vs) (n + 1) k)) := by
 have hvl : vs.length ≤ 1000000 := by have := hw.len; rw [tys_len] at this; omega
 intro n
 induction n with
 | zero =>
  intro k hn hk he
  have hko := kindIn_ok hk
  have hkk := kindOk_kOk hko
  match k, hkk with
  | c :: r, hkk =>
   have e0 := bt_c0 c r
   by_cases h1 : c.toNat = 91
   ·refine jE [(0, _), (1, _)] Try.func62 Try.ntmps62 fun B hB => ?_
    repeat' (first | (refine run (t := tb) 400 rfl ?_ ?_; (focus (repeat' (first | exact trivial | apply And.intro | omega | (simp only [List.length_append, List.length_cons, List.length_nil, Int.toNat_natCast]; omega))))) | (refine k_tt rfl ?_ ?_; (focus ((simp [*]; done); done))))
    all_goals refine jZ (vs := [_]) rfl ⟨rfl, trivial⟩ rfl ⟨rfl, rfl, ?_⟩
    all_goals (rw [oneOf_one]; unfold standN; rw [if_pos h1])
   by_cases h2 : c.toNat = 63
   ·refine jE [(0, _), (1, _)] Try.func62 Try.ntmps62 fun B hB => ?_
    repeat' (first | (refine run (t := tb) 400 rfl ?_ ?_; (focus (repeat' (first | exact trivial | apply And.intro | omega | (simp only [List.length_append, List.length_cons, List.length_nil, Int.toNat_natCast]; omega))))) | (refine k_tt rfl ?_ ?_; (focus ((simp [*]; done); done))) | (refine k_ff rfl ?_ ?_; (focus ((simp [*]; done); done))))
    all_goals refine jZ (vs := [_]) rfl ⟨rfl, trivial⟩ rfl ⟨rfl, rfl, ?_⟩
    all_goals (rw [oneOf_one]; unfold standN; rw [if_neg h1, if_pos h2])
   have href := refV_ty vs (c :: r)
   have cx_rf := c_ref (k := c :: r) h hvl hkk.1 (by omega)
   cases hr : refV vs (c :: r) with
   | some x => rw [hr] at href; have := he _ href.symm; cases this
   | none =>
    rw [hr] at href cx_rf
    refine jE [(0, _), (1, _)] Try.func62 Try.ntmps62 fun B hB => ?_
    repeat' (first | (refine run (t := tb) 400 rfl ?_ ?_; (focus (repeat' (first | exact trivial | apply And.intro | omega | (simp only [List.length_append, List.length_cons, List.length_nil, Int.toNat_natCast]; omega))))) | (refine k_op rfl ?_; first | refine c_al rfl rfl fun _ => ?_ | refine c_stA rfl rfl rfl rfl rfl rfl ?_ | (refine c_rt rfl rfl rfl cx_rf rfl ?_) | (refine c_rt rfl rfl rfl c_l3Plain rfl ?_)) | (refine k_tt rfl rfl ?_) | (refine k_ff rfl ?_ ?_; (focus ((simp; omega); done))))
    all_goals refine jZ (vs := [_]) rfl ⟨rfl, trivial⟩ rfl ⟨rfl, rfl, ?_⟩
    all_goals (rw [oneOf_one]; unfold standN; rw [if_neg h1, if_neg h2, ← href]; rfl)
 | succ n ih =>
  intro k hn hk he
  have hko := kindIn_ok hk
  have hkk := kindOk_kOk hko
  match k, hkk with
  | c :: r, hkk =>
   have e0 := bt_c0 c r
   by_cases h1 : c.toNat = 91
   ·refine jE [(0, _), (1, _)] Try.func62 Try.ntmps62 fun B hB => ?_
    repeat' (first | (refine run (t := tb) 400 rfl ?_ ?_; (focus (repeat' (first | exact trivial | apply And.intro | omega | (simp only [List.length_append, List.length_cons, List.length_nil, Int.toNat_natCast]; omega))))) | (refine k_tt rfl ?_ ?_; (focus ((simp [*]; done); done))))
    all_goals refine jZ (vs := [_]) rfl ⟨rfl, trivial⟩ rfl ⟨rfl, rfl, ?_⟩
    all_goals (rw [oneOf_one]; unfold standN; rw [if_pos h1])
   by_cases h2 : c.toNat = 63
   ·refine jE [(0, _), (1, _)] Try.func62 Try.ntmps62 fun B hB => ?_
    repeat' (first | (refine run (t := tb) 400 rfl ?_ ?_; (focus (repeat' (first | exact trivial | apply And.intro | omega | (simp only [List.length_append, List.length_cons, List.length_nil, Int.toNat_natCast]; omega))))) | (refine k_tt rfl ?_ ?_; (focus ((simp [*]; done); done))) | (refine k_ff rfl ?_ ?_; (focus ((simp [*]; done); done))))
    all_goals refine jZ (vs := [_]) rfl ⟨rfl, trivial⟩ rfl ⟨rfl, rfl, ?_⟩
    all_goals (rw [oneOf_one]; unfold standN; rw [if_neg h1, if_pos h2])
   have href := refV_ty vs (c :: r)
   have cx_rf := c_ref (k := c :: r) h hvl hkk.1 (by omega)
   rcases hr : refV vs (c :: r) with _ | ⟨⟨a, ca⟩, t⟩
   ·rw [hr] at href cx_rf
    refine jE [(0, _), (1, _)] Try.func62 Try.ntmps62 fun B hB => ?_
    repeat' (first | (refine run (t := tb) 400 rfl ?_ ?_; (focus (repeat' (first | exact trivial | apply And.intro | omega | (simp only [List.length_append, List.length_cons, List.length_nil, Int.toNat_natCast]; omega))))) | (refine k_op rfl ?_; first | refine c_al rfl rfl fun _ => ?_ | refine c_stA rfl rfl rfl rfl rfl rfl ?_ | (refine c_rt rfl rfl rfl cx_rf rfl ?_) | (refine c_rt rfl rfl rfl c_l3Plain rfl ?_)) | (refine k_tt rfl rfl ?_) | (refine k_ff rfl ?_ ?_; (focus ((simp; omega); done))))
    all_goals refine jZ (vs := [_]) rfl ⟨rfl, trivial⟩ rfl ⟨rfl, rfl, ?_⟩
    all_goals (rw [oneOf_one]; unfold standN; rw [if_neg h1, if_neg h2, ← href]; rfl)
   rw [hr] at href cx_rf
   have hrf : refT (tys vs) (c :: r) = some t := href.symm
   have htm := refT_mem hrf
   have hW := hw.ty t htm
   have htg := hw.tag0 htm
   rw [tag0_nth] at htg
   have e3 : standN (tys vs) (n + 1 + 1) (c :: r) = if t.sort = 82 then [123, 125] else if t.sort = 69 then 35 :: decI (tag0 t) else 60 :: (decI (tag0 t) ++ 61 :: (standN (tys vs) (n + 1) (kind0 t) ++ [62])) := by
    rw [standN, if_neg h1, if_neg h2, hrf]
   rw [e3, tag0_nth, kind0_nth]
   clear e3
   by_cases s1 : t.sort = 82
   ·rw [if_pos s1]
    refine jE [(0, _), (1, _)] Try.func62 Try.ntmps62 fun B hB => ?_
    repeat' (first | (refine run (t := tb) 400 rfl ?_ ?_; (focus (repeat' (first | exact trivial | apply And.intro | omega | (simp only [List.length_append, List.length_cons, List.length_nil, Int.toNat_natCast]; omega))))) | (refine k_op rfl ?_; first | refine c_al rfl rfl fun _ => ?_ | refine c_stA rfl rfl rfl rfl rfl rfl ?_ | refine jV (g_ld rfl rfl rfl) ?_ | (refine c_rt rfl rfl rfl cx_rf rfl ?_)) | (refine k_tt rfl ?_ ?_; (focus ((simp [*]; done); done))) | (refine k_ff rfl ?_ ?_; (focus ((first | rfl | (simp; omega)); done))))
    all_goals refine jZ (vs := [_]) rfl ⟨rfl, trivial⟩ rfl ⟨rfl, rfl, ?_⟩
    all_goals rfl
   have h0 : 0 < t.fields.length := List.length_pos_iff.2 (hW.ne s1)
   obtain ⟨bf, of, cf, ef, hsf⟩ := (h.fl _ (refV_mem hr)).expl h0
   simp only [slX, Value.slice.injEq] at ef
   obtain ⟨rfl, -, rfl⟩ := ef
   dsimp only at hsf
   have cx_rf : PuG Try.prog 49 [u, S (c :: r)] G (· = Tu [Ag [U8 t.sort, S t.name, .slice (some ⟨bf, of, none⟩) t.fields.length ca], Bo true]) := cx_rf
   have hdl := decI_len6 (n := (nth t.fields 0).tag) (by omega)
   rw [if_neg s1]
   by_cases s2 : t.sort = 69
   ·rw [if_pos s2]
    refine jE [(0, _), (1, _)] Try.func62 Try.ntmps62 fun B hB => ?_
    repeat' (first | (refine run (t := tb) 400 rfl ?_ ?_; (focus (repeat' (first | exact trivial | apply And.intro | omega | (simp only [List.length_append, List.length_cons, List.length_nil, Int.toNat_natCast]; omega))))) | (refine k_op rfl ?_; first | refine c_al rfl rfl fun _ => ?_ | refine c_stA rfl rfl rfl rfl rfl rfl ?_ | refine jV (g_ld rfl rfl rfl) ?_ | (refine jV (g_ldRF rfl rfl (by assumption) ?_ rfl rfl) ?_; (focus ((omega); done))) | (refine jV (g_iaddrN rfl rfl (by omega)) ?_) | (refine c_rt rfl rfl rfl cx_rf rfl ?_) | (refine c_rt rfl rfl rfl (c_l6Dec ?_) rfl ?_; (focus ((simp; omega); done)))) | (refine k_tt rfl (dTt (by omega)) ?_) | (refine k_ff rfl ?_ ?_; (focus ((first | rfl | (refine decide_eq_false ?_; (omega)) | (simp; omega)); done))))
    all_goals refine jZ (vs := [_]) rfl ⟨rfl, trivial⟩ rfl ⟨rfl, rfl, ?_⟩
    all_goals rfl
   have hin := kind_in hw htm s2 (nth_mem h0)
   have hen : ∀ t', refT (tys vs) (nth t.fields 0).kind = some t' → endsN (tys vs) n t' = true := by
    intro t' ht'
    have := he t hrf
    have s3 : t.sort = 85 := by rcases hW.sort with h | h | h <;> omega
    rw [endsN, if_neg (by simp [s3]), kind0_nth, ht'] at this
    exact this
   have cx_std := ih (k := (nth t.fields 0).kind) (by omega) hin hen
   have hsl := standN_len hw (n + 1) (nth t.fields 0).kind
   rw [if_neg s2]
   refine jE [(0, _), (1, _)] Try.func62 Try.ntmps62 fun B hB => ?_
   repeat' (first | (refine run (t := tb) 400 rfl ?_ ?_; (focus (repeat' (first | exact trivial | apply And.intro | omega | (simp only [List.length_append, List.length_cons, List.length_nil, Int.toNat_natCast]; omega))))) | (refine k_op rfl ?_; first | refine c_al rfl rfl fun _ => ?_ | refine c_stA rfl rfl rfl rfl rfl rfl ?_ | refine jV (g_ld rfl rfl rfl) ?_ | (refine c_rt rfl rfl rfl cx_rf rfl ?_)) | (refine k_ff rfl ?_ ?_; (focus ((first | rfl | (refine decide_eq_false ?_; (omega)) | (simp; omega)); done))) | (refine k_any (s_any (id := 13) _ (fun _ h => h) mixed ?_); refine jT 15 [0, 8, 9] (bts 18 769) ?_; (refine jG (bts 18 771) 1 rfl (g_ld rfl rfl rfl) ?_); (refine jG (bts 18 775) 2 rfl (g_iaddrN rfl rfl (by omega)) ?_); refine jT 12 [3] (bts 18 783) ?_; ((refine jG (bts 18 799) 4 rfl (g_ldRF rfl rfl (by assumption) ?_ rfl rfl) ?_; (focus ((omega); done)))); (refine jG (bts 18 1823) 10 rfl (g_ld rfl rfl rfl) ?_); (refine jG (bts 18 3871) 11 rfl (g_iaddrN rfl rfl (by omega)) ?_); refine jT 8 [12] (bts 18 7967) ?_; ((refine jG (bts 18 16159) 13 rfl (g_ldRF rfl rfl (by assumption) ?_ rfl rfl) ?_; (focus ((omega); done)))); refine jA 5 rfl ?_; ((refine c_rt rfl rfl rfl (c_l6Dec ?_) rfl ?_; (focus ((simp; omega); done)))); refine jS (bts 18 16191) ?_; refine jU 4 [6, 7] (bts 18 16383) ?_ ?_; (focus (repeat' (first | exact trivial | apply And.intro | (simp only [List.length_append, List.length_cons, List.length_nil, Int.toNat_natCast]; omega)))); refine jA 14 rfl ?_; (refine c_rt rfl rfl rfl cx_std rfl ?_); refine jS (bts 18 32767) ?_; refine jU 0 [15, 16, 17] (bts 18 262143) ?_ ?_; (focus (repeat' (first | exact trivial | apply And.intro | (simp only [List.length_append, List.length_cons, List.length_nil, Int.toNat_natCast]; omega)))); refine x_done (by kernel_rfl) (k_bk ?_)))
   all_goals refine jZ (vs := [_]) rfl ⟨rfl, trivial⟩ rfl ⟨rfl, rfl, ?_⟩
   all_goals (rw [oneOf_one]; simp)
theorem c_standKS {u : Value} {vs : List TyX} (h : SchR G u vs) (hw : SchW (tys vs)) {k : List UInt8} (hk : kindIn (tys vs) k = true) : PuG Try.prog 62 [u, S k] G (· = S (standK (tys vs) k)) :=
 c_standsS h hw ((tys vs).length + 1) (by have := hw.len; omega) hk (fun t ht => ends_of hw t ht)
theorem sg_cons {c : UInt8} {r : List UInt8} (h : c.toNat = 91 ∨ c.toNat = 63) : sg (c :: r) = c :: sg r := by
 unfold sg
 rw [core, if_pos h]
 have := core_len' r
 rw [List.length_cons, show r.length + 1 - (core r).length = (r.length - (core r).length) + 1 by omega]
 rfl
theorem bs_plain {k : List UInt8} (hk : kindOk k = true) (hr : refN (core k) = none) : bs k = [110] ∨ bs k = [116] ∨ bs k = [102] := by
 have h := core_kOk (kindOk_kOk hk).1
 unfold bs
 cases hc : core k with
 | nil => rw [hc] at h; cases h
 | cons c r =>
  rw [hc] at h hr
  have h64 : ¬ c.toNat = 64 := by
   intro h64
   simp [refN, h64] at hr
  have h91 : ¬ (c.toNat = 91 ∨ c.toNat = 63) := core_head hc
  have e : bsT (c :: r) = c :: r := by simp [bsT, h64]
  rw [e]
  rw [kOk, if_neg h91, if_neg h64] at h
  simp only [Bool.and_eq_true, Bool.or_eq_true, decide_eq_true_eq] at h
  obtain ⟨rfl, h⟩ := h
  have hu : ∀ n : Nat, c.toNat = n → n < 256 → c = UInt8.ofNat n := fun n h1 h2 => by
   apply UInt8.toNat_inj.1; rw [h1, UInt8.toNat_ofNat']; omega
  rcases h with (h | h) | h
  ·exact .inl (by rw [hu _ h (by decide)]; rfl)
  ·exact .inr (.inl (by rw [hu _ h (by decide)]; rfl))
  ·exact .inr (.inr (by rw [hu _ h (by decide)]; rfl))
theorem ScI.W {b : Nat} {qs : List TyP} (_ : ScI G b qs) (hw : SchW (tyq qs)) {q : TyP} (hq : q ∈ qs) : q.2 ∈ tyq qs ∧ TyW q.2 := by
 have h1 : q.2 ∈ tyq qs := List.mem_map_of_mem hq
 exact ⟨h1, hw.ty _ h1⟩
theorem find_at {α : Type} [Inhabited α] {p : α → Bool} : ∀ {l : List α} {i : Nat}, i < l.length → (∀ k, k < i → p (nth l k) = false) → p (nth l i) = true → l.find? p = some (nth l i)
 | [], i, hi, _, _ => by simp at hi
 | a :: l, 0, _, _, h => by
  have h : p a = true := h
  rw [List.find?_cons, h]; rfl
 | a :: l, i + 1, hi, hno, h => by
  have h0 : p a = false := hno 0 (by omega)
  rw [List.find?_cons, h0]
  exact find_at (l := l) (i := i) (by simpa using hi) (fun k hk => hno (k + 1) (by omega)) h
theorem find_no {α : Type} [Inhabited α] {p : α → Bool} {l : List α} (hno : ∀ k, k < l.length → p (nth l k) = false) : l.find? p = none := by
 rw [List.find?_eq_none]
 intro x hx
 obtain ⟨i, hi, rfl⟩ := List.mem_iff_getElem.1 hx
 have := hno i hi
 rw [nth_eq hi] at this
 simp [this]
theorem fldT_at {fs : List Fld} {tag : Int} {i : Nat} (hi : i < fs.length) (hno : ∀ k, k < i → (nth fs k).tag ≠ tag) (h : (nth fs i).tag = tag) : fldT fs tag = some (nth fs i) :=
 find_at hi (fun k hk => by simpa using hno k hk) (by simpa using h)
theorem fldT_no {fs : List Fld} {tag : Int} (hno : ∀ k, k < fs.length → (nth fs k).tag ≠ tag) : fldT fs tag = none := find_no fun k hk => by simpa using hno k hk
abbrev zF : Fld := ⟨0, [], [], []⟩
abbrev tFldS : TypeId := 87
abbrev tTyS : TypeId := 64
theorem c_fieldS {x : TyX} {tag : Int} (hf : SlV G (slX x) 4 x.2.fields.length (rows fldF x.2.fields)) (hl : x.2.fields.length ≤ 1000) :
  PuG Try.prog 67 [Ag [U8 x.2.sort, S x.2.name, slX x], I tag] G (· = Tu [Ag (fldF ((fldT x.2.fields tag).getD zF)), Bo (fldT x.2.fields tag).isSome]) := by
 obtain ⟨⟨a, ca⟩, t⟩ := x
 simp only [slX] at hf ⊢
 dsimp only at hl
 refine jE [(0, _), (1, _)] Try.func67 Try.ntmps67 fun B hB => ?_
 repeat' (first | (refine jR ?_) | (refine k_op rfl ?_; first | refine c_bx rfl rfl rfl fun _ => ?_ | refine c_al rfl rfl fun _ => ?_))
 rename_i y z
 refine k_loop (ι := Nat) (fun i => i ≤ t.fields.length ∧ ∀ k, k < i → (nth t.fields k).tag ≠ tag) (fun i => [(1, I tag), (2, Pt y 0), (4, Pt z 0), (6, I i)]) (fun _ => G) (fun i => [.blk z (.cells [I 0, S [], S [], S []].toArray tFldS (0, 0)), .blk y (.cells [U8 t.sort, S t.name, .slice a t.fields.length ca].toArray tTyS (0, 0))]) (fun i => t.fields.length - i) 0 ?_ (by repeat' constructor) rfl sRr (fun i Hi => ?_)
 ·exact ⟨Nat.zero_le _, fun k hk => absurd hk (by omega)⟩
 by_cases hi : i < t.fields.length
 ·obtain ⟨bf, of, cf, e, hs⟩ := hf.expl (by omega)
  simp only [Value.slice.injEq] at e
  obtain ⟨rfl, -, rfl⟩ := e
  repeat' (first | refine jM ?_ | (refine k_op rfl ?_; first | refine jV (g_ld rfl rfl rfl) ?_ | (refine jV (g_ldR rfl rfl (by assumption) ?_) ?_; (focus ((omega); done))) | (refine jV (g_ldRF rfl rfl (by assumption) ?_ rfl rfl) ?_; (focus ((omega); done))) | refine jV (g_lenL rfl) ?_ | (refine jV (g_iaddrN rfl rfl (by omega)) ?_) | refine c_stA rfl rfl rfl rfl rfl rfl ?_) | (refine k_tt rfl (dTt (by omega)) ?_) | refine k_if rfl (fun _ => ?_) (fun _ => ?_))
  ·rename_i he
   refine jZ (vs := [_, _]) rfl ⟨rc_A rfl rfl rfl rfl, rfl, trivial⟩ rfl ⟨rfl, rfl, ?_⟩
   rw [fldT_at hi Hi.2 he]; rfl
  ·rename_i he
   refine k_rd (i + 1) ⟨by omega, fun k hk => ?_⟩ (by omega) (by repeat' constructor) rfl sRr
   rcases Nat.lt_or_ge k i with h3 | h3
   ·exact Hi.2 k h3
   ·have : k = i := by omega
    subst this; exact he
 ·repeat' (first | (refine jR ?_) | (refine k_op rfl ?_; first | refine jV (g_ld rfl rfl rfl) ?_ | refine jV (g_lenL rfl) ?_ | refine c_stA rfl rfl rfl rfl rfl rfl ?_ | refine jV (g_bld rfl rfl) ?_) | (refine k_ff rfl (dFf (by omega)) ?_))
  refine jZ (vs := [_, _]) rfl ⟨rc_A rfl rfl rfl rfl, rfl, trivial⟩ rfl ⟨rfl, rfl, ?_⟩
  rw [fldT_no fun k hk => Hi.2 k (by omega)]; rfl
theorem c_standS {u : Value} {vs : List TyX} {f : Fld} (h : SchR G u vs) (hw : SchW (tys vs)) (hk : kindIn (tys vs) f.kind = true) :
  PuG Try.prog 50 [u, Ag [I f.tag, S f.name, S f.kind, S f.stand]] G (· = S (standF (tys vs) f)) := by
 have cx_std := c_standKS h hw hk
 unfold standF
 by_cases hs : f.stand = []
 ·rw [if_pos hs, hs]
  refine jE [(0, _), (1, _)] Try.func50 Try.ntmps50 fun B hB => ?_
  repeat' (first | (refine jR ?_) | (refine k_op rfl ?_; first | refine c_bx rfl rfl rfl fun _ => ?_ | refine jV (g_ld rfl rfl rfl) ?_ | (refine c_rt rfl rfl rfl cx_std rfl ?_)) | (refine k_ff rfl rfl ?_))
  all_goals refine jZ (vs := [_]) rfl ⟨rfl, trivial⟩ rfl ⟨rfl, rfl, ?_⟩
  all_goals rfl
 ·rw [if_neg hs]
  refine jE [(0, _), (1, _)] Try.func50 Try.ntmps50 fun B hB => ?_
  repeat' (first | (refine jR ?_) | (refine k_op rfl ?_; first | refine c_bx rfl rfl rfl fun _ => ?_ | refine jV (g_ld rfl rfl rfl) ?_) | (refine k_tt rfl (dTt ‹_›) ?_))
  all_goals refine jZ (vs := [_]) rfl ⟨rfl, trivial⟩ rfl ⟨rfl, rfl, ?_⟩
  all_goals rfl
theorem nd_tot {w : Nat} {x : List UInt8} {t : Int} {ks : List V} : V.tot (.nd w x t ks) = 20 + x.length + V.tots ks := by rw [V.tot]
end Go.E
namespace Go.E
set_option maxRecDepth 20000
set_option maxHeartbeats 2000000
theorem while_len (q : UInt8 → Bool) (s : List UInt8) : (s.takeWhile q).length + (s.dropWhile q).length = s.length := by
 have h := List.takeWhile_append_dropWhile (p := q) (l := s)
 have := congrArg List.length h
 rwa [List.length_append] at this
end Go.E
namespace Go.E
set_option maxRecDepth 20000
set_option maxHeartbeats 2000000
open Go.Proofs
variable {G : Gh}
def rdList (f : List UInt8 → Option (V × List UInt8)) : List UInt8 → Option (V × List UInt8)
 | [] => none
 | d :: s' => if d.toNat = 91 then (match s' with
   | [] => none
   | e :: r => if e.toNat = 93 then some (.nd 91 [] 0 [], r) else (rdItems f 20 s' []).map fun x => (.nd 91 [] 0 x.1, x.2)) else none
theorem items_none {f : List UInt8 → Option (V × List UInt8)} {t : List UInt8} {vs : List V} : ∀ {m : Nat}, (f t = none ∨ ∃ u, f t = some (u, [])) → rdItems f m t vs = none
 | 0, _ => rfl
 | m + 1, h => by
  rw [rdItems]
  rcases h with h | ⟨u, h⟩ <;> rw [h]
theorem items_step {f : List UInt8 → Option (V × List UInt8)} {t t2 : List UInt8} {c : UInt8} {u : V} {vs : List V} {m : Nat} (h : f t = some (u, c :: t2)) (hm : 0 < m) :
  rdItems f m t vs = if c.toNat = 44 then rdItems f (m - 1) t2 (vs ++ [u]) else if c.toNat = 93 then some (vs ++ [u], t2) else none := by
 obtain ⟨m, rfl⟩ : ∃ k, m = k + 1 := ⟨m - 1, by omega⟩
 rw [rdItems, h]; rfl
theorem rd_short {ts : List Ty} {n : Nat} {k s : List UInt8} {x : V × List UInt8} (h : rd ts n k s = some x) : x.2.length < s.length := by
 have := rd_tot n k s x h
 have := tot_pos x.1
 omega
abbrev zP : Value := Ag [U8 0, S [], I 0, nilS]
theorem field_none {f : List UInt8 → List UInt8 → Option (V × List UInt8)} {t : Ty} {s : List UInt8} (h : numOf (s.takeWhile isDg) 200 = none ∨ ∃ m, numOf (s.takeWhile isDg) 200 = some m ∧ fldT t.fields m = none) : rdField f t s = none := by
 unfold rdField rdNum
 rcases h with h | ⟨m, h, h2⟩
 ·rw [h]; rfl
 ·rw [h]; dsimp only [Option.map_some]; rw [h2]
theorem field_noeq {f : List UInt8 → List UInt8 → Option (V × List UInt8)} {t : Ty} {s : List UInt8} {m : Int} (h : numOf (s.takeWhile isDg) 200 = some m) (h2 : ∀ s2, s.dropWhile isDg ≠ 61 :: s2) : rdField f t s = none := by
 unfold rdField rdNum
 rw [h]; dsimp only [Option.map_some]
 cases fldT t.fields m with
 | none => rfl
 | some d =>
  dsimp only
  cases hd : s.dropWhile isDg with
  | nil => rfl
  | cons c r =>
   dsimp only
   rw [if_neg]
   intro hc
   exact h2 r (by rw [hd, show c = 61 from UInt8.toNat_inj.1 hc])
theorem field_some {f : List UInt8 → List UInt8 → Option (V × List UInt8)} {t : Ty} {s s2 : List UInt8} {m : Int} {d : Fld} (h : numOf (s.takeWhile isDg) 200 = some m) (hd : fldT t.fields m = some d) (h2 : s.dropWhile isDg = 61 :: s2) : rdField f t s = (f d.kind s2).map fun x => ((d, x.1), x.2) := by
 unfold rdField rdNum
 rw [h]; dsimp only [Option.map_some]; rw [hd, h2]; dsimp only; rw [if_pos (show (61 : UInt8).toNat = 61 from rfl)]
theorem flds_none {ts : List Ty} {f : List UInt8 → List UInt8 → Option (V × List UInt8)} {t : Ty} {s : List UInt8} {vs : List V} {last : Int} : ∀ {m : Nat}, rdField f t s = none → rdFlds ts f t m last s vs = none
 | 0, _ => rfl
 | m + 1, h => by rw [rdFlds, h]
theorem flds_step {ts : List Ty} {f : List UInt8 → List UInt8 → Option (V × List UInt8)} {t : Ty} {s r : List UInt8} {vs : List V} {last : Int} {d : Fld} {v : V} {m : Nat} (h : rdField f t s = some ((d, v), r)) (hm : 0 < m) :
  rdFlds ts f t m last s vs = if d.tag ≤ last ∨ v.out = standF ts d then none else match r with
   | [] => none
   | c :: r' => if c.toNat = 44 then rdFlds ts f t (m - 1) d.tag r' (vs ++ [.nd 61 [] d.tag [v]]) else if c.toNat = 125 then some (vs ++ [.nd 61 [] d.tag [v]], r') else none := by
 obtain ⟨m, rfl⟩ : ∃ k, m = k + 1 := ⟨m - 1, by omega⟩
 rw [rdFlds, h]; rfl
theorem rdField_nil {f : List UInt8 → List UInt8 → Option (V × List UInt8)} {t : Ty} : rdField f t [] = none := by
 unfold rdField rdNum
 have : numOf (([] : List UInt8).takeWhile isDg) 200 = none := by
  cases h : numOf (([] : List UInt8).takeWhile isDg) 200 with
  | none => rfl
  | some m =>
   have := (numOf_le h).2.1
   have h2 := decI_pos m
   rw [← this] at h2; simp at h2
 rw [this]; rfl
theorem kdF_cons {c : UInt8} {k : List UInt8} (h : c.toNat = 91 ∨ c.toNat = 63) : sg (c :: k) = c :: sg k ∧ bs (c :: k) = bs k ∧ nm (c :: k) = nm k ∧ core (c :: k) = core k := by
 have hc : core (c :: k) = core k := by rw [core, if_pos h]
 exact ⟨sg_cons h, by unfold bs; rw [hc], by unfold nm; rw [hc], hc⟩
theorem kindIn_tail {ts : List Ty} {c : UInt8} {k : List UInt8} (hc : c.toNat = 91 ∨ c.toNat = 63) (h : kindIn ts (c :: k) = true) : kindIn ts k = true := by
 unfold kindIn at h ⊢
 simp only [Bool.and_eq_true] at h ⊢
 obtain ⟨h1, h2⟩ := h
 refine ⟨?_, ?_⟩
 ·unfold kindOk at h1 ⊢
  simp only [Bool.and_eq_true, decide_eq_true_eq, List.length_cons] at h1 ⊢
  refine ⟨by omega, ?_⟩
  have := h1.2
  rw [kOk, if_pos hc] at this
  exact this
 ·unfold hasK at h2 ⊢
  rw [(kdF_cons hc).2.2.2] at h2
  exact h2
theorem rdK_list {ts : List Ty} {f : List UInt8 → List UInt8 → Option (V × List UInt8)} {c : UInt8} {k s : List UInt8} (hc : c.toNat = 91) : rdK ts f (c :: k) s = rdList (f k) s := by
 unfold rdK rdList
 dsimp only
 rw [if_pos hc]
 all_goals (cases s <;> rfl)
theorem plain_kinds {ts : List Ty} {c : UInt8} {k : List UInt8} (hk : kindIn ts (c :: k) = true) (h91 : ¬ (c.toNat = 91 ∨ c.toNat = 63)) (hr : refT ts (c :: k) = none) : c :: k = [110] ∨ c :: k = [116] ∨ c :: k = [102] := by
 have hko := kindIn_ok hk
 have hcs := core_self (r := k) h91
 have hrn : refN (core (c :: k)) = none := by
  cases hx : refN (core (c :: k)) with
  | none => rfl
  | some x =>
   obtain ⟨t, ht⟩ := kind_refT hk (by rw [hx]; rfl)
   rw [hcs, hr] at ht; cases ht
 have h := bs_plain hko hrn
 have h64 : ¬ c.toNat = 64 := by
  intro h64
  rw [hcs] at hrn
  simp [refN, h64] at hrn
 have e : bs (c :: k) = c :: k := by unfold bs; rw [hcs]; simp [bsT, h64]
 rwa [e] at h
theorem rd_plain {ts : List Ty} {n : Nat} {s : List UInt8} {c : UInt8} (hc : c = 110 ∨ c = 116 ∨ c = 102) (hr : refT ts [c] = none) : rd ts (n + 1) [c] s = if c = 110 then (rdNum 999999 s).map fun x => (.nd 110 (decI x.1) 0 [], x.2) else if c = 116 then rdQuote s else rdFlag s := by
 rw [rd]; unfold rdK
 dsimp only
 rcases hc with rfl | rfl | rfl <;> simp [hr]
end Go.E
