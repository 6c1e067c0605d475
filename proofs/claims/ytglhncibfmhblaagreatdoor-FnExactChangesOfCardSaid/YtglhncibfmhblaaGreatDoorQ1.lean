/- Contracts and plain laws that the statement rests on, part 1. Conditions: as each says. -/
import Derived.OrdersHeld
import Derived.Deep.Quiet
import Derived.Tactics
import Derived.KernelRfl
import Derived.Deep.LoopGhost
import Derived.Laws.Strings
import Derived.Laws.Cover1
import Derived.Laws.StructEq
import Derived.Lib.SmallJoins
import Derived.Laws.BytesString
import Derived.Laws.AppendOwn
import Derived.Below
import Derived.Laws.MakeOwn
import Derived.OpenShut
import Derived.ChangeArms
import Derived.DataReads
import Derived.Laws.Externs
import Derived.MapKept
import Derived.Lib.MinMax
import Derived.DeepKeys5
import Derived.Lib.Builder
import Derived.Lib.UnsafeStr
import Derived.Lib.MakeNoZero
import Derived.Laws.CopyRow
import Derived.Defers
import Derived.Test.YtglhncibfmhblaaGreatDoorRows
import Derived.Lib.Bytealg
set_option linter.unusedVariables false
set_option linter.unusedSimpArgs false
namespace Go.E
theorem F.{u} {α : Sort u} {a : α} : a=a:=rfl
abbrev adB:=List UInt8
theorem ax {p : Prop} [Decidable p] (h : p) : decide p = true:=decide_eq_true h
theorem aF {p : Prop} [Decidable p] (h : ¬ p) : decide p = false:=decide_eq_false h
theorem a7 {α : Type _} {l : List α} : List.Sublist l l:=List.Sublist.refl l
theorem oM {p : Prop} (h : p:=by omega) : p:=h
theorem aS {p : Prop} (h : p:=by assumption) : p:=h
theorem dC {p : Prop} (h : p:=by decide) : p:=h
theorem kR {p : Prop} (h : p:=by kernel_rfl) : p:=h
theorem tU {p : Prop} (h : p:=by repeat' constructor) : p:=h
theorem sB {p : Prop} (h : p:=by repeat (first | exact List.Sublist.refl _ | exact List.nil_sublist _ | apply List.Sublist.cons_cons | apply List.Sublist.cons)) : p:=h
abbrev bN:=List (Nat × Value)
def look : bN → Nat → Option Value
 | [],_=>none
 | (k,v) :: r,n=>match Nat.beq k n with
  | true=>some v
  | false=>look r n
theorem kL (d : Nat) (v : Value) (E : bN) (t : Nat) : look ((d,v) :: E) t = if d = t then some v else look E t:=by
 simp only [look]
 by_cases h : d = t
 ·subst h;simp
 ·have : Nat.beq d t = false:=by cases hb : Nat.beq d t with | false=>rfl | true=>exact absurd (Nat.eq_of_beq_eq_true hb) h
  simp [this,h]
def ev (E : bN) : Operand → Option Value
 | .tmp t=>look E t
 | .const v=>some v
 | .global g=>some (.pointer (some ⟨g,0,none⟩))
 | .func f=>some (.func (.func f) #[] #[])
def evs (E : bN) : List Operand → Option (List Value)
 | []=>some []
 | x :: r=>match ev E x with
  | some v=>(match evs E r with | some vs=>some (v :: vs) | none=>none)
  | none=>none
structure Sat (n : Nat) (D : List Deferred) (E : bN) (a : Act) : Prop where
 size : a.tmps.size = n
 defers : a.defers = D
 at' : ∀ t v,look E t = some v → a.tmps[t]? = some v
theorem Sat.ev {n D E a} (h : Sat n D E a) {x : Operand} {v : Value} (hv : Go.E.ev E x = some v) : a.eval x = v:=by
 cases x with
 | tmp t =>
  have:=h.at' t v hv
  simp [Act.eval,this]
 | const u=>simpa [Go.E.ev,Act.eval] using hv
 | global g=>simpa [Go.E.ev,Act.eval] using hv
 | func f=>simpa [Go.E.ev,Act.eval] using hv
theorem Sat.evs {n D E a} (h : Sat n D E a) : ∀ {xs : List Operand} {vs : List Value},Go.E.evs E xs = some vs → xs.map a.eval = vs
 | [],vs,hv=>by simpa [Go.E.evs] using hv
 | x :: xs,vs,hv=>by
  simp only [Go.E.evs] at hv
  cases hx : Go.E.ev E x with
  | none=>simp [hx] at hv
  | some v =>
   cases hr : Go.E.evs E xs with
   | none=>simp [hx,hr] at hv
   | some ws =>
    simp only [hx,hr,Option.some.injEq] at hv
    subst hv
    simp [h.ev hx,Sat.evs h hr]
theorem Sat.put {n D E a} (h : Sat n D E a) {d : Nat} {v : Value} (hd : d < n) : Sat n D ((d,v) :: E) (a.put (some d) v):=by
 obtain ⟨h1,h2,h3⟩:=h
 refine ⟨by simp [Act.put,h1],by simp [Act.put,h2],fun t u hu=>?_⟩
 rw [kL] at hu
 by_cases hdt : d = t
 ·subst hdt
  simp only [↓reduceIte,Option.some.injEq] at hu
  subst hu
  simp [Act.put,h1,hd]
 ·rw [if_neg hdt] at hu
  simp [Act.put,Array.getElem?_setIfInBounds_ne hdt,h3 t u hu]
def iG : bN → bN → Prop
 | [],_=>True
 | (k,v) :: r,E=>look E k = some v ∧ iG r E
theorem iG.look {E' E : bN} (h : iG E' E) : ∀ t v,look E' t = some v → look E t = some v:=by
 induction E' with
 | nil=>intro t v hv;simp [Go.E.look] at hv
 | cons p r ih =>
  intro t v hv
  obtain ⟨k,u⟩:=p
  obtain ⟨h1,h2⟩:=h
  rw [kL] at hv
  by_cases hk : k = t
  ·subst hk
   simp only [↓reduceIte,Option.some.injEq] at hv
   subst hv;exact h1
  ·rw [if_neg hk] at hv;exact ih h2 t v hv
theorem Sat.sub {n D E E' a} (h : Sat n D E a) (hs : iG E' E) : Sat n D E' a:=⟨h.size,h.defers,fun t v hv=>h.at' t v (hs.look t v hv)⟩
inductive GO where
 | pre (cs : List Value)
 | ex (o : Obj)
abbrev Gh:=Nat → Option GO
def GO.at : GO → Obj → Prop
 | .pre cs,.cells c _ _=>∃ rest,c = (cs ++ rest).toArray
 | .pre _,_=>False
 | .ex o,o'=>o' = o
def Gh.ok (G : Gh) (w : World) : Prop:=∀ b g,G b = some g → ∃ o,w.heap[b]? = some o ∧ g.at o
def Gh.le (G G' : Gh) : Prop:=∀ b g,G b = some g → G' b = some g
theorem Gh.le.refl (G : Gh) : Gh.le G G:=fun _ _ h=>h
theorem gRr {G : Gh} : Gh.le G G:=Gh.le.refl G
theorem Gh.le.trans {G G' G'' : Gh} (h : Gh.le G G') (h' : Gh.le G' G'') : Gh.le G G'':=fun b g hb=>h' b g (h b g hb)
inductive Own where
 | blk (b : Nat) (o : Obj)
 | acc (v : Value) (ty : TypeId) (sz n : Nat) (xs : List Value)
def we : Value → List Nat
 | .slice (some a) _ _=>[a.block]
 | _=>[]
def Own.bk : Own → List Nat
 | .blk b _=>[b]
 | .acc v _ _ _ _=>we v
def gV (w : World) (v : Value) (ty : TypeId) (sz n : Nat) (xs : List Value) : Prop :=
 xs.length = n * sz ∧ ((v = .slice none 0 0 ∧ n = 0) ∨
  ∃ b cap rest,v = .slice (some ⟨b,0,none⟩) n cap ∧ n ≤ cap ∧ (xs ++ rest).length = cap * sz ∧ w.heap[b]? = some (.cells (xs ++ rest).toArray ty (0,0)))
def Own.at (w : World) : Own → Prop
 | .blk b o=>w.heap[b]? = some o
 | .acc v ty sz n xs=>gV w v ty sz n xs
def cO (L : List Own) : List Nat:=L.flatMap Own.bk
theorem lh {L : List Own} {b : Nat} : b ∈ cO L ↔ ∃ x ∈ L,b ∈ x.bk:=by simp [cO]
theorem Own.at_lt {w : World} {x : Own} (h : x.at w) : ∀ b ∈ x.bk,b < w.heap.size:=by
 intro b hb
 cases x with
 | blk c o =>
  simp only [Own.bk,List.mem_singleton] at hb;subst hb
  exact (Array.getElem?_eq_some_iff.1 h).1
 | acc v ty sz n xs =>
  obtain ⟨_,⟨rfl,rfl⟩ | ⟨c,cap,rest,rfl,_,_,h⟩⟩:=h
  ·simp [Own.bk,we] at hb
  ·simp only [Own.bk,we,List.mem_singleton] at hb;subst hb
   exact (Array.getElem?_eq_some_iff.1 h).1
theorem Own.at_same {w w' : World} {x : Own} (h : x.at w) (hs : ∀ b ∈ x.bk,w'.heap[b]? = w.heap[b]?) : x.at w':=by
 cases x with
 | blk c o=>show w'.heap[c]? = some o;rw [hs c (by simp [Own.bk])];exact h
 | acc v ty sz n xs =>
  obtain ⟨h1,h2 | ⟨c,cap,rest,rfl,h3,h4,h⟩⟩:=h
  ·exact ⟨h1,.inl h2⟩
  ·exact ⟨h1,.inr ⟨c,cap,rest,F,h3,h4,by rw [hs c (by simp [Own.bk,we])];exact h⟩⟩
structure Base where
 w : World
 G : Gh
 W : List Nat
structure St (B : Base) (G : Gh) (L : List Own) (w : World) : Prop where
 ok : G.ok w
 own : ∀ x ∈ L,x.at w
 fresh : ∀ b ∈ cO L,G b = none ∧ (B.w.heap.size ≤ b ∨ b ∈ B.W)
 nd : (cO L).Nodup
 os : w.os = B.w.os
 tape : w.tape = B.w.tape
 output : w.output = B.w.output
 size : B.w.heap.size ≤ w.heap.size
 frame : ∀ b,b < B.w.heap.size → b ∉ B.W → w.heap[b]? = B.w.heap[b]? ∧ G b = B.G b
theorem St.drew {B G L w} (h : St B G L w) : St B G L w.drew:=⟨h.ok,h.own,h.fresh,h.nd,h.os,h.tape,h.output,h.size,h.frame⟩
theorem Gh.ok.lt {G : Gh} {w : World} (h : G.ok w) {b g} (hb : G b = some g) : b < w.heap.size:=by
 obtain ⟨o,ho,_⟩:=h b g hb
 exact (Array.getElem?_eq_some_iff.1 ho).1
theorem iP (w : World) (o : Obj) {b : Nat} (h : b < w.heap.size) : (w.alloc o).heap[b]? = w.heap[b]?:=by
 show (w.heap.push o)[b]? = _
 rw [Array.getElem?_push,if_neg oM]
theorem qA (w : World) (o : Obj) : (w.alloc o).heap[w.heap.size]? = some o:=by
 show (w.heap.push o)[w.heap.size]? = _
 simp
theorem St.lt {B G L w} (h : St B G L w) {b : Nat} (hb : b ∈ cO L) : b < w.heap.size:=by
 obtain ⟨x,hx,hbx⟩:=lh.1 hb
 exact Own.at_lt (h.own x hx) b hbx
theorem St.alloc {B G L w} (h : St B G L w) (o : Obj) : St B G (.blk w.heap.size o :: L) (w.alloc o):=by
 have hnew : w.heap.size ∉ cO L:=fun hb=>by have:=h.lt hb;omega
 refine ⟨fun b g hb=>?_,fun x hx=>?_,fun b hb=>?_,?_,h.os,h.tape,h.output,?_,fun b hb hW=>?_⟩
 ·obtain ⟨o',ho',hg⟩:=h.ok b g hb
  exact ⟨o',by rw [iP _ _ (h.ok.lt hb)];exact ho',hg⟩
 ·cases List.mem_cons.1 hx with
  | inl e=>subst e;exact qA w o
  | inr hx=>exact Own.at_same (h.own x hx) fun b hb=>iP _ _ (Own.at_lt (h.own x hx) b hb)
 ·simp only [cO,List.flatMap_cons,Own.bk,List.singleton_append,List.mem_cons] at hb
  rcases hb with rfl | hb
  ·refine ⟨?_,.inl h.size⟩
   cases hG : G w.heap.size with
   | none=>rfl
   | some g=>have:=h.ok.lt hG;omega
  ·exact h.fresh b hb
 ·simp only [cO,List.flatMap_cons,Own.bk,List.singleton_append,List.nodup_cons]
  exact ⟨hnew,h.nd⟩
 ·simpa using Nat.le_succ_of_le h.size
 ·obtain ⟨h1,h2⟩:=h.frame b hb hW
  exact ⟨by rw [iP _ _ (Nat.lt_of_lt_of_le hb h.size)];exact h1,h2⟩
theorem aat {L L' : List Own} (hs : L'.Sublist L) : (cO L').Sublist (cO L):=by
 induction hs with
 | slnil=>exact .slnil
 | cons a _ ih=>simp only [cO,List.flatMap_cons];exact ih.trans (List.sublist_append_right _ _)
 | cons_cons a _ ih=>simp only [cO,List.flatMap_cons];exact List.Sublist.append (List.Sublist.refl _) ih
theorem St.weaken {B G L L' w} (h : St B G L w) (hs : L'.Sublist L) : St B G L' w:=by
 have hb : (cO L').Sublist (cO L):=aat hs
 exact ⟨h.ok,fun x hx=>h.own x (hs.subset hx),fun b hx=>h.fresh b (hb.subset hx),hb.nodup h.nd,h.os,h.tape,h.output,h.size,h.frame⟩
theorem St.perm {B G L L' w} (h : St B G L w) (hs : L.Perm L') : St B G L' w:=by
 have hb : (cO L).Perm (cO L'):=hs.flatMap_right _
 exact ⟨h.ok,fun x hx=>h.own x (hs.symm.subset hx),fun b hx=>h.fresh b (hb.symm.subset hx),hb.nodup_iff.1 h.nd,h.os,h.tape,h.output,h.size,h.frame⟩
theorem f5 (L R : List Own) : cO (L ++ R) = cO L ++ cO R:=by simp [cO]
theorem St.enter {B G L R w} (h : St B G (L ++ R) w) : St ⟨w,G,cO L⟩ G L w:=by
 have h':=h.weaken (L':=L) (List.sublist_append_left L R)
 exact ⟨h'.ok,h'.own,fun b hb=>⟨(h'.fresh b hb).1,.inr hb⟩,h'.nd,F,F,F,Nat.le_refl _,fun _ _ _=>⟨F,F⟩⟩
theorem St.back {B G L R w G' L' w'} (h : St B G (L ++ R) w) (k : St ⟨w,G,cO L⟩ G' L' w') : St B G' (L' ++ R) w':=by
 have hnd:=h.nd
 rw [f5] at hnd
 have hR : ∀ b ∈ cO R,b < w.heap.size ∧ b ∉ cO L:=fun b hb =>
  ⟨h.lt (by rw [f5];exact List.mem_append_right _ hb),fun hL=>(List.nodup_append.1 hnd).2.2 b hL b hb F⟩
 have hL' : ∀ b ∈ cO L',b ∉ cO R:=fun b hb hbR=>by
  obtain ⟨h1,h2⟩:=hR b hbR
  rcases (k.fresh b hb).2 with h3 | h3
  ·simp only at h3;omega
  ·exact h2 h3
 refine ⟨k.ok,fun x hx=>?_,fun b hb=>?_,?_,k.os.trans h.os,k.tape.trans h.tape,k.output.trans h.output,Nat.le_trans h.size k.size,fun b hb hW=>?_⟩
 ·rcases List.mem_append.1 hx with hx | hx
  ·exact k.own x hx
  ·refine Own.at_same (h.own x (List.mem_append_right _ hx)) fun b hb=>?_
   obtain ⟨h1,h2⟩:=hR b (lh.2 ⟨x,hx,hb⟩)
   exact (k.frame b h1 h2).1
 ·rw [f5] at hb
  rcases List.mem_append.1 hb with hb | hb
  ·refine ⟨(k.fresh b hb).1,?_⟩
   rcases (k.fresh b hb).2 with h3 | h3
   ·exact .inl (Nat.le_trans h.size h3)
   ·exact (h.fresh b (by rw [f5];exact List.mem_append_left _ h3)).2
  ·obtain ⟨h1,h2⟩:=hR b hb
   have:=h.fresh b (by rw [f5];exact List.mem_append_right _ hb)
   exact ⟨by rw [(k.frame b h1 h2).2];exact this.1,this.2⟩
 ·rw [f5]
  refine List.nodup_append.2 ⟨k.nd,(List.nodup_append.1 hnd).2.1,fun a ha b hb e=>?_⟩
  subst e;exact hL' a ha hb
 ·obtain ⟨h1,h2⟩:=h.frame b hb hW
  have hbL : b ∉ cO L:=fun hbL=>by
   rcases (h.fresh b (by rw [f5];exact List.mem_append_left _ hbL)).2 with h3 | h3
   ·omega
   ·exact hW h3
  obtain ⟨h3,h4⟩:=k.frame b (Nat.lt_of_lt_of_le hb h.size) hbL
  exact ⟨h3.trans h1,h4.trans h2⟩
theorem St.le {B G L w} (h : St B G L w) (h0 : B.G.ok B.w) (hB : ∀ b ∈ B.W,B.G b = none) : Gh.le B.G G:=by
 intro b g hb
 by_cases hW : b ∈ B.W
 ·rw [hB b hW] at hb;cases hb
 ·rw [(h.frame b (h0.lt hb) hW).2];exact hb
structure Nx (n : Nat) (D : List Deferred) (E : bN) (B : Base) (G : Gh) (L : List Own) (K : Act → World → Prop) : Prop where
 go : ∀ a w,Sat n D E a → St B G L w → K a w
def cw (P : Program) (c : Code) (Q : Exit → Act → World → Prop) : Act → World → Prop:=c.wp P Q
def lw (P : Program) (ops : Array Oper) (Q : Exit → Act → World → Prop) (l : List Oper) : Act → World → Prop:=wpList P ops Q l
def tn (K : Act → World → Prop) (Q : Exit → Act → World → Prop) : Exit → Act → World → Prop:=Exit.then K Q
def bl (id : Nat) (Q : Exit → Act → World → Prop) : Exit → Act → World → Prop:=Exit.inBlock id Q
def bp (P : Program) (fn : Func) (R : Ending → World → Prop) : Exit → Act → World → Prop:=bodyPost P fn R
def qw (P : Program) (ops : Array Oper) (C : World → Prop) (R : Act → Prop) (l : List Oper) : Act → Prop:=wpQuiet P ops C R l
def qK (C : World → Prop) (K : Act → World → Prop) : Act → Prop:=fun a'=>∀ w',C w' → K a' w'
def ow (P : Program) (o : Oper) (Q : Exit → Act → World → Prop) (K : Act → World → Prop) : Act → World → Prop:=fun a w=>o.wp P a w K Q
section
variable {n : Nat} {D : List Deferred} {E : bN} {B : Base} {G : Gh} {L : List Own} {P : Program}
variable {Q : Exit → Act → World → Prop} {K : Act → World → Prop}
theorem Nx.mono {K' : Act → World → Prop} (h : Nx n D E B G L K) (hk : ∀ a w,K a w → K' a w) : Nx n D E B G L K':=Nx.mk fun a w hs hw=>hk a w (h.go a w hs hw)
theorem Nx.drop {L' : List Own} (hL : L'.Sublist L) (h : Nx n D E B G L' K) : Nx n D E B G L K:=Nx.mk fun a w hs hw=>h.go a w hs (hw.weaken hL)
theorem Nx.perm {L' : List Own} (hL : L.Perm L') (h : Nx n D E B G L' K) : Nx n D E B G L K:=Nx.mk fun a w hs hw=>h.go a w hs (hw.perm hL)
theorem acb {x y : Code} (h : Nx n D E B G L (cw P x (tn (cw P y Q) Q))) : Nx n D E B G L (cw P (.seq x y) Q):=Nx.mk fun a w hs hw=>wp_seq (h.go a w hs hw)
theorem aaM (h : Nx n D E B G L (Q .normal)) : Nx n D E B G L (cw P .skip Q):=Nx.mk fun a w hs hw=>wp_skip (h.go a w hs hw)
theorem acd (h : Nx n D E B G L (Q .ret)) : Nx n D E B G L (cw P .ret Q):=Nx.mk fun a w hs hw=>wp_ret (h.go a w hs hw)
theorem aaO {id : Nat} (h : Nx n D E B G L (Q (.exit id))) : Nx n D E B G L (cw P (.exit id) Q):=Nx.mk fun a w hs hw=>wp_exit (h.go a w hs hw)
theorem zj {id : Nat} {c : Code} (h : Nx n D E B G L (cw P c (bl id Q))) : Nx n D E B G L (cw P (.block id c) Q):=Nx.mk fun a w hs hw=>wp_block (h.go a w hs hw)
theorem pr {c : Operand} {x y : Code} {b : Bool} (hc : ev E c = some (.bool b)) (ht : b = true → Nx n D E B G L (cw P x Q)) (hf : b = false → Nx n D E B G L (cw P y Q)) :
  Nx n D E B G L (cw P (.cond c x y) Q):=Nx.mk fun a w hs hw =>
 wp_cond_split (hs.ev hc) (fun h=>(ht h).go a w hs hw) (fun h=>(hf h).go a w hs hw)
theorem adk {c : Operand} {x y : Code} {p : Prop} [Decidable p] (hc : ev E c = some (.bool (decide p))) (ht : p → Nx n D E B G L (cw P x Q)) (hf : ¬ p → Nx n D E B G L (cw P y Q)) :
  Nx n D E B G L (cw P (.cond c x y) Q):=pr hc (fun h=>ht (of_decide_eq_true h)) (fun h=>hf (of_decide_eq_false h))
theorem aaL {c : Operand} {x y : Code} {b : Bool} (hc : ev E c = some (.bool b)) (hb : b = true) (ht : Nx n D E B G L (cw P x Q)) : Nx n D E B G L (cw P (.cond c x y) Q) :=
 pr hc (fun _=>ht) (fun h=>absurd (hb.symm.trans h) dC)
theorem zi {c : Operand} {x y : Code} {b : Bool} (hc : ev E c = some (.bool b)) (hb : b = false) (hf : Nx n D E B G L (cw P y Q)) : Nx n D E B G L (cw P (.cond c x y) Q) :=
 pr hc (fun h=>absurd (hb.symm.trans h) dC) (fun _=>hf)
theorem wx (h : Nx n D E B G L K) : Nx n D E B G L (tn K Q .normal):=⟨h.go⟩
theorem sT (h : Nx n D E B G L (Q .ret)) : Nx n D E B G L (tn K Q .ret):=⟨h.go⟩
theorem sU {i : Nat} (h : Nx n D E B G L (Q (.exit i))) : Nx n D E B G L (tn K Q (.exit i)):=⟨h.go⟩
theorem acj {id : Nat} (h : Nx n D E B G L (Q .normal)) : Nx n D E B G L (bl id Q .normal):=⟨h.go⟩
theorem zx {id : Nat} (h : Nx n D E B G L (Q .ret)) : Nx n D E B G L (bl id Q .ret):=⟨h.go⟩
theorem wy {id : Nat} (h : Nx n D E B G L (Q .normal)) : Nx n D E B G L (bl id Q (.exit id)):=Nx.mk fun a w hs hw=>by
 simp only [bl,Exit.inBlock,↓reduceIte];exact h.go a w hs hw
theorem vH {id i : Nat} (hne : Nat.beq i id = false) (h : Nx n D E B G L (Q (.exit i))) : Nx n D E B G L (bl id Q (.exit i)):=Nx.mk fun a w hs hw=>by
 have : i ≠ id:=fun e=>by subst e;simp at hne
 simp only [bl,Exit.inBlock,if_neg this];exact h.go a w hs hw
def LI {ι : Type} (n : Nat) (D : List Deferred) (B : Base) (Pre : ι → Prop) (Ei : ι → bN) (Gi : ι → Gh) (Li : ι → List Own) (μ : ι → Nat) (m : Nat) : Act → World → Prop :=
 fun a w=>∃ j,Pre j ∧ μ j < m ∧ Sat n D (Ei j) a ∧ St B (Gi j) (Li j) w
theorem aaN {ι : Type} {c : Code} (Pre : ι → Prop) (Ei : ι → bN) (Gi : ι → Gh) (Li : ι → List Own) (μ : ι → Nat) (i0 : ι) (h0 : Pre i0)
  (hE : iG (Ei i0) E) (hG : Gi i0 = G) (hL : (Li i0).Sublist L)
  (round : ∀ i,Pre i → Nx n D (Ei i) B (Gi i) (Li i) (cw P c (tn (LI n D B Pre Ei Gi Li μ (μ i)) Q))) : Nx n D E B G L (cw P (.loop c) Q):=Nx.mk fun a w hs hw=>by
 refine wp_loop_ghost (fun k a w=>∃ i,Pre i ∧ μ i = k ∧ Sat n D (Ei i) a ∧ St B (Gi i) (Li i) w) (μ i0) ⟨i0,h0,F,hs.sub hE,hG ▸ hw.weaken hL⟩ ?_
 rintro k a w ⟨i,hi,rfl,hs,hw⟩
 refine wp_mono ((round i hi).go a w hs hw) fun e a' w' q=>?_
 cases e with
 | normal =>
  obtain ⟨j,h1,h2,h3,h4⟩:=q
  exact ⟨μ j,h2,j,h1,F,h3,h4⟩
 | _=>exact q
theorem zw {ι : Type} {Pre : ι → Prop} {Ei : ι → bN} {Gi : ι → Gh} {Li : ι → List Own} {μ : ι → Nat} {m : Nat} (j : ι) (h1 : Pre j) (h2 : μ j < m)
  (hE : iG (Ei j) E) (hG : Gi j = G) (hL : (Li j).Sublist L) : Nx n D E B G L (LI n D B Pre Ei Gi Li μ m):=Nx.mk fun _ _ hs hw =>
 ⟨j,h1,h2,hs.sub hE,hG ▸ hw.weaken hL⟩
def CI {ι : Type} (n : Nat) (D : List Deferred) (B : Base) (Pre : ι → Prop) (Ei : ι → bN) (Gi : ι → Gh) (Li : ι → List Own) : Act → World → Prop :=
 fun a w=>∃ j,Pre j ∧ Sat n D (Ei j) a ∧ St B (Gi j) (Li j) w
theorem xz {id : Nat} {l : List Oper} (h : Nx n D E B G L (lw P l.toArray Q l)) : Nx n D E B G L (cw P (.region id l.toArray false) Q):=Nx.mk fun a w hs hw=>wp_region_lit (h.go a w hs hw)
theorem aci {ops : Array Oper} (h : Nx n D E B G L (Q .normal)) : Nx n D E B G L (lw P ops Q []):=⟨h.go⟩
theorem adl {ops : Array Oper} {o : Oper} {rest : List Oper} (hg : o.guard = none) (h : Nx n D E B G L (ow P o Q (lw P ops Q rest))) : Nx n D E B G L (lw P ops Q (o :: rest)):=Nx.mk fun a w hs hw=>by
 unfold lw wpList;rw [if_pos (by simp [Region.wanted,hg])];exact .inl (h.go a w hs hw)
def gb : Option Value → Option Bool
 | some (.bool b)=>some b
 | _=>none
def ic : Option Value → Bool
 | some _=>true
 | none=>false
theorem im {a : Act} {ops : Array Oper} {j dj : Nat} {g : Option Bool} (hs : Sat n D E a) (hj : (ops[j]?).bind (·.dst) = some dj) (hk : ic (look E dj) = true) (hy : gb (look E dj) = g) : yielded ops a.tmps j = g:=by
 unfold yielded
 cases hv : look E dj with
 | none=>rw [hv] at hk;simp [ic] at hk
 | some v =>
  have hx : ops[j]?.bind (fun o=>o.dst) = some dj:=hj
  rw [hx]
  simp only [Option.bind_some,hs.at' dj v hv]
  rw [hv] at hy
  cases v <;> simp_all [gb]
theorem ach {ops : Array Oper} {o : Oper} {rest : List Oper} {j dj : Nat} {want b : Bool} (hg : o.guard = some (j,want)) (hj : (ops[j]?).bind (·.dst) = some dj)
  (hk : ic (look E dj) = true) (hy : gb (look E dj) = some b) (hb : b = want) (h : Nx n D E B G L (ow P o Q (lw P ops Q rest))) : Nx n D E B G L (lw P ops Q (o :: rest)):=Nx.mk fun a w hs hw=>by
 unfold lw wpList;rw [if_pos (by simp [Region.wanted,hg,im hs hj hk hy,hb])];exact .inl (h.go a w hs hw)
theorem yL {ops : Array Oper} {o : Oper} {rest : List Oper} {j dj d : Nat} {want : Bool} {g : Option Bool} (hg : o.guard = some (j,want)) (hd : o.dst = some d) (hlt : Nat.blt d n = true) (hj : (ops[j]?).bind (·.dst) = some dj)
  (hk : ic (look E dj) = true) (hy : gb (look E dj) = g) (hb : g ≠ some want) (h : Nx n D ((d,undef) :: E) B G L (lw P ops Q rest)) : Nx n D E B G L (lw P ops Q (o :: rest)):=Nx.mk fun a w hs hw=>by
 unfold lw wpList
 rw [if_neg (by simpa [Region.wanted,hg,im hs hj hk hy] using hb),hd]
 exact h.go _ w (hs.put (by simpa using hlt)) hw
structure Gives (P : Program) (n : Nat) (D : List Deferred) (E : bN) (S : World → Prop) (o : Oper) (v : Value) : Prop where
 go : ∀ a w,Sat n D E a → S w → (execOp a.eval o).run P w = .ok (.value v) w
theorem kX {o : Oper} {d : Nat} {v : Value} (hg : Gives P n D E (St B G L) o v) (hd : o.dst = some d) (hlt : Nat.blt d n = true) (k : Nx n D ((d,v) :: E) B G L K) :
  Nx n D E B G L (ow P o Q K):=Nx.mk fun a w hs hw=>by
 unfold ow Oper.wp
 rw [hg.go a w hs hw]
 simp only [Oper.upon_value,hd]
 exact k.go _ w (hs.put (by simpa using hlt)) hw
structure Nq (n : Nat) (D : List Deferred) (E : bN) (K : Act → Prop) : Prop where
 go : ∀ a,Sat n D E a → K a
def oq (P : Program) (o : Oper) (C : World → Prop) (K : Act → Prop) : Act → Prop:=fun a=>o.quiet P a C K
def cG (B : Base) (G0 : Gh) (L0 : List Own) (w : World) : Prop:=∃ G L,Gh.le G0 G ∧ (∀ x ∈ L0,x ∈ L) ∧ St B G L w
theorem cG.of {G0 : Gh} {L0 : List Own} {w : World} (h : St B G L w) (hG : Gh.le G0 G) (hL : ∀ x ∈ L0,x ∈ L) : cG B G0 L0 w:=⟨G,L,hG,hL,h⟩
def xA (P : Program) (ops : Array Oper) (Q : Exit → Act → World → Prop) (S : World → Prop) (fuel : Nat) (listed : Array Bool) : Act → World → Prop:=wpAnyH P .any ops Q S fuel listed
def xK (P : Program) (ops : Array Oper) (Q : Exit → Act → World → Prop) (S : World → Prop) (fuel : Nat) (listed : Array Bool) : Act → World → Prop:=fun a w=>S w ∧ wpAnyH P .any ops Q S fuel listed a w
def xO (P : Program) (ops : Array Oper) (Q : Exit → Act → World → Prop) (i : Nat) (K : Act → World → Prop) : Act → World → Prop:=wpOp P ops Q i K
theorem ao {id : Nat} {l : List Oper} (L0 : List Own) (_hL : ∀ x ∈ L0,x ∈ L) (hm : P.follows .mixedOrders = true)
  (h : Nx n D E B G L (xA P l.toArray Q (cG B G L0) l.length (List.replicate l.length false).toArray)) : Nx n D E B G L (cw P (.region id l.toArray true) Q):=Nx.mk fun a w hs hw=>by
 refine wp_region_held (S:=cG B G L0) hm ?_
 have:=h.go a w.drew hs hw.drew
 simpa [xA] using this
theorem aay {ops : Array Oper} {S : World → Prop} {fuel : Nat} {listed : Array Bool} (hr : Region.ready .any ops listed = []) (h : Nx n D E B G L (Q .normal)) : Nx n D E B G L (xA P ops Q S fuel listed):=Nx.mk fun a w hs hw =>
 wpAnyH_done hr (h.go a w hs hw) fuel
theorem aax {ops : Array Oper} {G0 : Gh} {L0 : List Own} {fuel : Nat} {listed listed' : Array Bool} (i : Nat) {o : Oper} {d : Nat} {v : Value} (hi : ops[i]? = some o)
  (hs : Region.noSelect ops = true) (hf : Region.free .any ops listed i = true) (hr : (Region.ready .any ops listed).contains i = true)
  (hQ : ∀ c a w,Q (.panic c) (a.put o.dst v) w → Q (.panic c) a w) (hg : Gives P n D E (cG B G0 L0) o v) (hgu : o.guard = none) (hd : o.dst = some d) (hlt : Nat.blt d n = true)
  (hG : Gh.le G0 G) (hL : ∀ x ∈ L0,x ∈ L) (hl : listed.setIfInBounds i true = listed')
  (k : Nx n D ((d,v) :: E) B G L (xA P ops Q (cG B G0 L0) fuel listed')) : Nx n D E B G L (xA P ops Q (cG B G0 L0) (fuel + 1) listed):=Nx.mk fun a w hs' hw=>by
 refine wpAnyH_take hi hs hf hr hQ (.inl ⟨by simp [Region.wanted,hgu],fun w' hw'=>hg.go a w' hs' hw'⟩) (cG.of hw hG hL) ?_
 rw [hl,hd]
 exact k.go _ w (hs'.put (by simpa using hlt)) hw
theorem za {ops : Array Oper} {G0 : Gh} {L0 : List Own} {fuel : Nat} {listed listed' : Array Bool} (i : Nat) {o : Oper} {j dj d : Nat} {want b : Bool} {v : Value} (hi : ops[i]? = some o)
  (hs : Region.noSelect ops = true) (hf : Region.free .any ops listed i = true) (hr : (Region.ready .any ops listed).contains i = true)
  (hQ : ∀ c a w,Q (.panic c) (a.put o.dst v) w → Q (.panic c) a w) (hg : Gives P n D E (cG B G0 L0) o v) (hgu : o.guard = some (j,want)) (hj : (ops[j]?).bind (·.dst) = some dj)
  (hk : ic (look E dj) = true) (hy : gb (look E dj) = some b) (hb : b = want) (hd : o.dst = some d) (hlt : Nat.blt d n = true)
  (hG : Gh.le G0 G) (hL : ∀ x ∈ L0,x ∈ L) (hl : listed.setIfInBounds i true = listed')
  (k : Nx n D ((d,v) :: E) B G L (xA P ops Q (cG B G0 L0) fuel listed')) : Nx n D E B G L (xA P ops Q (cG B G0 L0) (fuel + 1) listed):=Nx.mk fun a w hs' hw=>by
 refine wpAnyH_take hi hs hf hr hQ (.inl ⟨by simp [Region.wanted,hgu,im hs' hj hk hy,hb],fun w' hw'=>hg.go a w' hs' hw'⟩) (cG.of hw hG hL) ?_
 rw [hl,hd]
 exact k.go _ w (hs'.put (by simpa using hlt)) hw
theorem uo {ops : Array Oper} {G0 : Gh} {L0 : List Own} {fuel : Nat} {listed listed' : Array Bool} (i : Nat) {o : Oper} {j dj d : Nat} {want : Bool} {g : Option Bool} (hi : ops[i]? = some o)
  (hs : Region.noSelect ops = true) (hf : Region.free .any ops listed i = true) (hr : (Region.ready .any ops listed).contains i = true)
  (hQ : ∀ c a w,Q (.panic c) (a.put o.dst undef) w → Q (.panic c) a w) (hgu : o.guard = some (j,want)) (hj : (ops[j]?).bind (·.dst) = some dj)
  (hk : ic (look E dj) = true) (hy : gb (look E dj) = g) (hb : g ≠ some want) (hd : o.dst = some d) (hlt : Nat.blt d n = true)
  (hG : Gh.le G0 G) (hL : ∀ x ∈ L0,x ∈ L) (hl : listed.setIfInBounds i true = listed')
  (k : Nx n D ((d,undef) :: E) B G L (xA P ops Q (cG B G0 L0) fuel listed')) : Nx n D E B G L (xA P ops Q (cG B G0 L0) (fuel + 1) listed):=Nx.mk fun a w hs' hw=>by
 refine wpAnyH_take hi hs hf hr hQ (.inr ⟨by simpa [Region.wanted,hgu,im hs' hj hk hy] using hb,F⟩) (cG.of hw hG hL) ?_
 rw [hl,hd]
 exact k.go _ w (hs'.put (by simpa using hlt)) hw
def aaz (n : Nat) (D : List Deferred) (E : bN) (B : Base) (G : Gh) (L : List Own) (P : Program) (ops : Array Oper) (Q : Exit → Act → World → Prop) (S : World → Prop) (fuel : Nat) (listed : Array Bool) : List Nat → Prop
 | []=>True
 | i :: r=>Nx n D E B G L (xO P ops Q i (xK P ops Q S fuel (listed.setIfInBounds i true))) ∧ aaz n D E B G L P ops Q S fuel listed r
theorem b7 {ops : Array Oper} {S : World → Prop} {fuel : Nat} {listed : Array Bool} (rs : List Nat) (hr : Region.ready .any ops listed = rs) (hne : rs ≠ []) (h : aaz n D E B G L P ops Q S fuel listed rs) : Nx n D E B G L (xA P ops Q S (fuel + 1) listed):=Nx.mk fun a w hs hw=>by
 refine wpAnyH_all hr hne ?_
 clear hr hne
 intro i hi
 induction rs with
 | nil=>cases hi
 | cons j r ih =>
  obtain ⟨h1,h2⟩:=h
  cases List.mem_cons.1 hi with
  | inl e=>subst e;exact h1.go a w hs hw
  | inr hi=>exact ih h2 hi
theorem ac9 {ops : Array Oper} {i : Nat} {o : Oper} (hi : ops[i]? = some o) (hg : o.guard = none) (h : Nx n D E B G L (ow P o Q K)) : Nx n D E B G L (xO P ops Q i K):=Nx.mk fun a w hs hw=>by
 unfold xO wpOp;simp only [hi];rw [if_pos (by simp [Region.wanted,hg])];exact .inl (h.go a w hs hw)
theorem ab6 {ops : Array Oper} {i j dj : Nat} {want b : Bool} {o : Oper} (hi : ops[i]? = some o) (hg : o.guard = some (j,want)) (hj : (ops[j]?).bind (·.dst) = some dj)
  (hk : ic (look E dj) = true) (hy : gb (look E dj) = some b) (hb : b = want) (h : Nx n D E B G L (ow P o Q K)) : Nx n D E B G L (xO P ops Q i K):=Nx.mk fun a w hs hw=>by
 unfold xO wpOp;simp only [hi];rw [if_pos (by simp [Region.wanted,hg,im hs hj hk hy,hb])];exact .inl (h.go a w hs hw)
theorem x_k {ops : Array Oper} {G0 : Gh} {L0 : List Own} {fuel : Nat} {listed listed' : Array Bool} (hG : Gh.le G0 G) (hL : ∀ x ∈ L0,x ∈ L) (hl : listed = listed')
  (h : Nx n D E B G L (xA P ops Q (cG B G0 L0) fuel listed')) : Nx n D E B G L (xK P ops Q (cG B G0 L0) fuel listed):=Nx.mk fun a w hs hw =>
 ⟨cG.of hw hG hL,by rw [hl];exact h.go a w hs hw⟩
def e7 (P : Program) (f : FuncId) : Bool :=
 match P.funcs[f]? with
 | some fn => !(fn.name == "runtime.NumGoroutine") && fn.body.isSome
 | none=>false
theorem sr {f : FuncId} {vs : Array Value} (h : e7 P f = true) (w : World) : (callFunc f vs).run P w = .ok (.enter f vs) w:=by
 unfold e7 at h
 cases hf : P.funcs[f]? with
 | none=>simp [hf] at h
 | some fn =>
  simp only [hf,Bool.and_eq_true,Bool.not_eq_true',beq_eq_false_iff_ne,ne_eq] at h
  obtain ⟨h1,h2⟩:=h
  cases hb : fn.body with
  | none=>simp [hb] at h2
  | some c=>simp [callFunc,hf,h1,hb]
def fc (B : Base) (Post : Value → Gh → List Own → Prop) : Ending → World → Prop :=
 fun e w'=>∃ v G' L',e = .returned v ∧ St B G' L' w' ∧ Post v G' L'
structure Fn (P : Program) (f : FuncId) (args : List Value) (G : Gh) (L : List Own) (Post : Value → Gh → List Own → Prop) : Prop where
 ok : e7 P f = true
 go : ∀ w,St ⟨w,G,cO L⟩ G L w → Calls P f args.toArray w (fc ⟨w,G,cO L⟩ Post)
def aZ (P : Program) (f : FuncId) (args : List Value) (G : Gh) (R : Value → Prop) : Prop:=Fn P f args G [] (fun v G' L'=>G' = G ∧ L' = [] ∧ R v)
theorem Fn.mono {f : FuncId} {args : List Value} {Post Post' : Value → Gh → List Own → Prop} (h : Fn P f args G L Post) (hp : ∀ v G' L',Post v G' L' → Post' v G' L') : Fn P f args G L Post' :=
 ⟨h.ok,fun w hw=>(h.go w hw).mono fun _ _ ⟨v,G',L',h1,h2,h3⟩=>⟨v,G',L',h1,h2,hp _ _ _ h3⟩⟩
theorem xC {fo : Operand} {l : List Operand} {ag : Array TypeId} {dst : Option Nat} {ty : TypeId} {pos : String} {aft : Array Edge} {g : Option (Nat × Bool)} {f : FuncId} {fi ca az : List Value} {a : Act} (hs : Sat n D E a)
  (hf : ev E fo = some (.func (.func f) fi.toArray ca.toArray)) (ha : evs E l = some az) (hb : e7 P f = true) (w : World) :
  (execOp a.eval ⟨dst,.call ⟨.value fo,l.toArray,ag⟩,ty,pos,aft,g⟩).run P w = .ok (.enter f (fi ++ az ++ ca).toArray) w:=by
 have h1 : l.toArray.map a.eval = az.toArray:=by rw [List.map_toArray,hs.evs ha]
 simp only [execOp,resolve,hs.ev hf,h1,Deferred.ofValue,Sem.run_bind,Sem.run_pure,Result.andThen_ok,invoke]
 rw [sr hb]
 simp
theorem iC {fo : Operand} {l : List Operand} {ag : Array TypeId} {d : Nat} {ty : TypeId} {pos : String} {aft : Array Edge} {g : Option (Nat × Bool)} {f : FuncId} {fi ca az vs : List Value} {Lp R : List Own} {Post : Value → Gh → List Own → Prop}
  (hf : ev E fo = some (.func (.func f) fi.toArray ca.toArray)) (ha : evs E l = some az) (hv : fi ++ az ++ ca = vs) (hc : Fn P f vs G Lp Post) (hL : L.Perm (Lp ++ R)) (hlt : Nat.blt d n = true)
  (k : ∀ v G' L',Post v G' L' → Nx n D ((d,v) :: E) B G' (L' ++ R) K) : Nx n D E B G L (ow P ⟨some d,.call ⟨.value fo,l.toArray,ag⟩,ty,pos,aft,g⟩ Q K):=Nx.mk fun a w hs hw=>by
 unfold ow Oper.wp
 rw [xC hs hf ha hc.ok w,Oper.upon_enter,hv]
 have hw':=hw.perm hL
 refine (hc.go w hw'.enter).mono ?_
 rintro e w' ⟨v,G',L',rfl,h2,h3⟩
 exact (k v G' L' h3).go _ w' (hs.put (by simpa using hlt)) (hw'.back h2)
theorem yr {fo : Operand} {l : List Operand} {ag : Array TypeId} {d : Nat} {ty : TypeId} {pos : String} {aft : Array Edge} {g : Option (Nat × Bool)} {f : FuncId} {fi ca az vs : List Value} {Post : Value → Gh → List Own → Prop}
  (hf : ev E fo = some (.func (.func f) fi.toArray ca.toArray)) (ha : evs E l = some az) (hv : fi ++ az ++ ca = vs) (hc : Fn P f vs G [] Post) (hlt : Nat.blt d n = true)
  (k : ∀ v G' L',Post v G' L' → Nx n D ((d,v) :: E) B G' (L' ++ L) K) : Nx n D E B G L (ow P ⟨some d,.call ⟨.value fo,l.toArray,ag⟩,ty,pos,aft,g⟩ Q K) :=
 iC (Lp:=[]) (R:=L) hf ha hv hc (List.Perm.refl _) hlt k
theorem ep {fo : Operand} {l : List Operand} {ag : Array TypeId} {d : Nat} {ty : TypeId} {pos : String} {aft : Array Edge} {g : Option (Nat × Bool)} {f : FuncId} {fi ca az vs : List Value} {R : Value → Prop}
  (hf : ev E fo = some (.func (.func f) fi.toArray ca.toArray)) (ha : evs E l = some az) (hv : fi ++ az ++ ca = vs) (hc : aZ P f vs G R) (hlt : Nat.blt d n = true)
  (k : ∀ v,R v → Nx n D ((d,v) :: E) B G L K) : Nx n D E B G L (ow P ⟨some d,.call ⟨.value fo,l.toArray,ag⟩,ty,pos,aft,g⟩ Q K) :=
 yr hf ha hv hc hlt fun v _ _ ⟨h1,h2,h3⟩=>by subst h1;subst h2;exact k v h3
theorem ae {fo : Operand} {l : List Operand} {ag : Array TypeId} {d : Nat} {ty : TypeId} {pos : String} {aft : Array Edge} {g : Option (Nat × Bool)} {f : FuncId} {fi ca az vs : List Value} {v : Value}
  (hf : ev E fo = some (.func (.func f) fi.toArray ca.toArray)) (ha : evs E l = some az) (hv : fi ++ az ++ ca = vs) (hc : aZ P f vs G (· = v)) (hlt : Nat.blt d n = true)
  (k : Nx n D ((d,v) :: E) B G L K) : Nx n D E B G L (ow P ⟨some d,.call ⟨.value fo,l.toArray,ag⟩,ty,pos,aft,g⟩ Q K) :=
 ep hf ha hv hc hlt fun u hu=>by subst hu;exact k
def k8 (P : Program) (S : World → Prop) (E : bN) : List ResultVar → List Value → Prop
 | [],[]=>True
 | .tmp t :: r,v :: vs=>look E t = some v ∧ k8 P S E r vs
 | .cell a T :: r,v :: vs=>(∃ b o,look E a = some (.pointer (some ⟨b,o,none⟩)) ∧ ∀ w,S w → (loadVar T ⟨b,o,none⟩).run P w = .ok v w) ∧ k8 P S E r vs
 | _,_=>False
def rF (a : Act) : ResultVar → Sem Value
 | .tmp t=>pure (a.tmps.getD t undef)
 | .cell x t=>do loadVar t (← asAddr (a.tmps.getD x undef))
theorem oC {S : World → Prop} {a : Act} {w : World} (hs : Sat n D E a) (hw : S w) : ∀ {rs : List ResultVar} {vs : List Value},k8 P S E rs vs →
  (rs.mapM (rF a)).run P w = .ok vs w
 | [],[],_=>rfl
 | [],_ :: _,h=>h.elim
 | .tmp t :: r,v :: vs,⟨h1,h2⟩=>by
  have h3 : (rF a (.tmp t)).run P w = .ok v w:=by simp [rF,hs.at' t v h1]
  have ih:=oC hs hw h2
  rw [List.mapM_cons,Sem.run_bind,h3]
  simp only [Result.andThen_ok,Sem.run_bind,ih,Sem.run_pure]
 | .cell x T :: r,v :: vs,⟨⟨b,o,h1,h1'⟩,h2⟩=>by
  have h3 : (rF a (.cell x T)).run P w = .ok v w:=by simp [rF,hs.at' x _ h1,asAddr,h1' w hw]
  have ih:=oC hs hw h2
  rw [List.mapM_cons,Sem.run_bind,h3]
  simp only [Result.andThen_ok,Sem.run_bind,ih,Sem.run_pure]
 | .tmp _ :: _,[],h=>h.elim
 | .cell _ _ :: _,[],h=>h.elim
def gJ : List Value → Value
 | [v]=>v
 | vs=>.tuple vs.toArray
theorem nU {S : World → Prop} {a : Act} {w : World} {fn : Func} {rs : List ResultVar} {vs : List Value} (hs : Sat n D E a) (hw : S w) (hr : fn.results = rs.toArray) (h : k8 P S E rs vs) :
  (results fn a.tmps).run P w = .ok (gJ vs) w:=by
 have h1:=oC hs hw h
 have h2 : results fn a.tmps = (do let vs ← fn.results.mapM (rF a);pure (if h : vs.size = 1 then vs[0] else .tuple vs)):=by
  unfold results
  congr 1
 rw [h2,hr,List.mapM_toArray]
 have h3 : (Functor.map List.toArray (rs.mapM (rF a))).run P w = .ok vs.toArray w:=by rw [Sem.run_map,h1];rfl
 rw [Sem.run_bind,h3]
 match vs with
 | []=>simp [gJ]
 | [v]=>simp [gJ]
 | u :: v :: r=>simp [gJ]
theorem acf {fn : Func} {rs : List ResultVar} {vs : List Value} {v : Value} {L' : List Own} {Post : Value → Gh → List Own → Prop} (hr : fn.results = rs.toArray) (h : k8 P (St B G L) E rs vs) (hv : gJ vs = v) (hL : L'.Sublist L) (hp : Post v G L') :
  Nx n [] E B G L (bp P fn (fc B Post) .ret):=Nx.mk fun a w hs hw =>
 ⟨hs.defers,v,by rw [nU hs hw hr h,hv],v,G,L',rfl,hw.weaken hL,hp⟩
theorem acg {fn : Func} {rs : List ResultVar} {vs : List Value} {v : Value} {L' : List Own} {Post : Value → Gh → List Own → Prop} (hr : fn.results = rs.toArray) (h : k8 P (St B G L) E rs vs) (hv : gJ vs = v) (hL : L'.Sublist L) (hp : Post v G L') :
  Nx n [] E B G L (bp P fn (fc B Post) .normal):=Nx.mk fun a w hs hw =>
 ⟨hs.defers,v,by rw [nU hs hw hr h,hv],v,G,L',rfl,hw.weaken hL,hp⟩
def params : Nat → List Value → bN
 | _,[]=>[]
 | i,v :: r=>(i,v) :: params (i + 1) r
theorem pq {n : Nat} (args : List Value) (hn : args.length ≤ n) :
  Sat n [] (params 0 args) { tmps:=args.toArray ++ Array.replicate (n - args.toArray.size) undef,defers:=[] }:=by
 refine ⟨by simp;omega,rfl,fun t v hv=>?_⟩
 have key : ∀ (l : List Value) (i : Nat),look (params i l) t = some v → i ≤ t ∧ l[t - i]? = some v:=by
  intro l
  induction l with
  | nil=>intro i h;simp [params,look] at h
  | cons u r ih =>
   intro i h
   rw [params,kL] at h
   by_cases hit : i = t
   ·subst hit;simpa using h
   ·rw [if_neg hit] at h
    obtain ⟨h1,h2⟩:=ih (i + 1) h
    refine ⟨oM,?_⟩
    rw [show t - i = (t - (i + 1)) + 1 by omega]
    simpa using h2
 have h:=(key args 0 hv).2
 have hlt : t < args.length:=(List.getElem?_eq_some_iff.1 h).1
 rw [Array.getElem?_append_left (by simpa using hlt)]
 simpa using h
theorem te {f : FuncId} {fn : Func} {c : Code} {args : List Value} {Post : Value → Gh → List Own → Prop} (E0 : bN) (hf : P.funcs[f]? = some fn) (hok : e7 P f = true) (hn : fn.ntmps = n) (hb : fn.body = some c)
  (hlen : Nat.ble args.length n = true) (hE : iG E0 (params 0 args))
  (h : ∀ B,B.G = G → B.W = cO L → Nx n [] E0 B G L (cw P c (bp P fn (fc B Post)))) : Fn P f args G L Post:=by
 refine ⟨hok,fun w hw=>calls_of_wp hf hb ?_⟩
 rw [hn]
 exact (h ⟨w,G,cO L⟩ F F).go _ w ((pq args (by simpa using hlen)).sub hE) hw
theorem xG {f : FuncId} {fn : Func} {c : Code} {args : List Value} {R : Value → Prop} (E0 : bN) (hf : P.funcs[f]? = some fn) (hok : e7 P f = true) (hn : fn.ntmps = n) (hb : fn.body = some c)
  (hlen : Nat.ble args.length n = true) (hE : iG E0 (params 0 args))
  (h : ∀ B,B.W = [] → Nx n [] E0 B G [] (cw P c (bp P fn (fc B (fun v G' L'=>G' = G ∧ L' = [] ∧ R v))))) : aZ P f args G R :=
 te E0 hf hok hn hb hlen hE fun B _ hW=>h B hW
class PQ (Q : Exit → Act → World → Prop) : Prop where
 hq : ∀ c (a : Act) w d v,Q (.panic c) (a.put d v) w → Q (.panic c) a w
instance {fn : Func} {R : Ending → World → Prop} : PQ (bp P fn R):=⟨fun c a w d v h=>by
 unfold bp at h ⊢;simp only [bodyPost] at h ⊢;cases d <;> exact h⟩
instance {K : Act → World → Prop} {Q : Exit → Act → World → Prop} [h : PQ Q] : PQ (tn K Q):=⟨fun c a w d v q=>h.hq c a w d v q⟩
instance {id : Nat} {Q : Exit → Act → World → Prop} [h : PQ Q] : PQ (bl id Q):=⟨fun c a w d v q=>h.hq c a w d v q⟩
def nP (ops : Array Oper) (listed : Array Bool) (i : Nat) (listed' : Array Bool) : Bool :=
 Region.noSelect ops && Region.free .any ops listed i && (Region.ready .any ops listed).contains i && (listed.setIfInBounds i true == listed')
theorem ac8 {ops : Array Oper} {G0 : Gh} {L0 : List Own} {fuel : Nat} {listed listed' : Array Bool} [PQ Q] (i : Nat) {o : Oper} {d : Nat} {v : Value} (hi : ops[i]? = some o)
  (hb : nP ops listed i listed' = true) (hgu : o.guard = none) (hG : Gh.le G0 G) (hL : L0.Sublist L) (hg : Gives P n D E (cG B G0 L0) o v) (hd : o.dst = some d) (hlt : Nat.blt d n = true)
  (k : Nx n D ((d,v) :: E) B G L (xA P ops Q (cG B G0 L0) fuel listed')) : Nx n D E B G L (xA P ops Q (cG B G0 L0) (fuel + 1) listed):=by
 simp only [nP,Bool.and_eq_true] at hb
 exact aax i hi hb.1.1.1 hb.1.1.2 hb.1.2 (fun c a w q=>PQ.hq c a w _ _ q) hg hgu hd hlt hG (fun _ h=>hL.subset h) (eq_of_beq hb.2) k
theorem mw {ops : Array Oper} {S S' : World → Prop} (hS : ∀ w,S' w → S w) : ∀ (fuel : Nat) (listed : Array Bool) (a : Act) (w : World),wpAnyH P .any ops Q S' fuel listed a w → wpAnyH P .any ops Q S fuel listed a w
 | 0,_,_,_,h=>h
 | fuel + 1,_,_,_,h=>⟨h.1,fun i hi=>wpOp_mono (fun a' w' h'=>⟨hS w' h'.1,mw hS fuel _ a' w' h'.2⟩) (h.2 i hi)⟩
theorem ada {ops : Array Oper} {G0 : Gh} {L0 : List Own} {fuel : Nat} {listed listed' : Array Bool} (hG : Gh.le G0 G) (hL : L0.Sublist L) (hl : (listed == listed') = true)
  (h : Nx n D E B G L (xA P ops Q (cG B G L) fuel listed')) : Nx n D E B G L (xK P ops Q (cG B G0 L0) fuel listed):=Nx.mk fun a w hs hw =>
 ⟨cG.of hw hG (fun _ h=>hL.subset h),mw (S:=cG B G0 L0) (S':=cG B G L) (fun w' hw'=>by obtain ⟨G',L',h1,h2,h3⟩:=hw';exact ⟨G',L',hG.trans h1,fun x hx=>h2 x (hL.subset hx),h3⟩) _ _ _ _ (by rw [eq_of_beq hl];exact h.go a w hs hw)⟩
theorem adb {ops : Array Oper} {G0 : Gh} {L0 : List Own} {fuel : Nat} {listed listed' : Array Bool} (hG : Gh.le G0 G) (hL : L0.Sublist L) (hl : (listed == listed') = true)
  (h : Nx n D E B G L (xA P ops Q (cG B G0 L0) fuel listed')) : Nx n D E B G L (xK P ops Q (cG B G0 L0) fuel listed):=x_k hG (fun _ h=>hL.subset h) (eq_of_beq hl) h
end
attribute [irreducible] cw lw tn bl bp qw qK ow oq xA xK xO LI CI
abbrev S (l : adB) : Value:=.string ⟨l.toArray⟩
abbrev I (n : Int) : Value:=.int .i64 n
abbrev U8 (n : Int) : Value:=.int .u8 n
abbrev Bo (b : Bool) : Value:=.bool b
abbrev Pt (b o : Nat) : Value:=.pointer (some ⟨b,o,none⟩)
abbrev Ag (l : List Value) : Value:=.agg l.toArray
abbrev Tu (l : List Value) : Value:=.tuple l.toArray
abbrev aK : Value:=.slice none 0 0
theorem og (l : adB) : (ByteArray.mk l.toArray).size = l.length:=by simp [ByteArray.size]
theorem yu (l : adB) (a b : Nat) : (ByteArray.mk l.toArray).extract a b = ⟨((l.take b).drop a).toArray⟩:=by
 have h : ((ByteArray.mk l.toArray).extract a b).data = (l.toArray).extract a b:=by simp [ByteArray.data_extract]
 have : (ByteArray.mk l.toArray).extract a b = ⟨(l.toArray).extract a b⟩:=by
  cases hx : (ByteArray.mk l.toArray).extract a b;rw [hx] at h;simp only at h;rw [h]
 rw [this];congr 1
 simp [List.take_drop]
 by_cases hab : a ≤ b
 ·rw [show a + (b - a) = b by omega]
 ·rw [List.drop_eq_nil_of_le (by simp;omega),List.drop_eq_nil_of_le (by simp;omega)]
theorem adr (a b : adB) : (ByteArray.mk a.toArray) ++ (ByteArray.mk b.toArray) = ⟨(a ++ b).toArray⟩:=by
 apply ByteArray.ext
 simp [ByteArray.data_append]
class TI (P : Program) (T : TypeId) (desc : outParam TypeDesc) (size bytes : outParam Nat) (zero : outParam Value) : Prop where
 und : P.underlying T = some desc
 inf : ∃ i,P.info? T = some i ∧ i.size = size ∧ i.bytes = bytes ∧ i.zero = some zero
section
variable {P : Program} {T : TypeId} {desc : TypeDesc} {size bytes : Nat} {zero : Value}
theorem cF [h : TI P T desc size bytes zero] (w : World) : (underlying T).run P w = .ok desc w:=by simp [underlying,h.und]
theorem dR [h : TI P T desc size bytes zero] (w : World) : (sizeOf T).run P w = .ok size w:=by
 obtain ⟨i,h1,h2,_,_⟩:=h.inf
 simp [sizeOf,typeInfo,h1,h2]
theorem lI [h : TI P T desc size bytes zero] (w : World) : (zeroValue T).run P w = .ok zero w:=by
 obtain ⟨i,h1,_,_,h4⟩:=h.inf
 simp [zeroValue,typeInfo,h1,h4]
def dJ : TypeDesc → Bool
 | .struct _ | .array _ _=>true
 | _=>false
theorem mL [h : TI P T desc size bytes zero] (w : World) : (isAgg T).run P w = .ok (dJ desc) w:=by
 unfold isAgg
 rw [Sem.run_bind,cF (desc:=desc) (size:=size) (bytes:=bytes) (zero:=zero)]
 cases desc <;> rfl
end
class FA (P : Program) (T : TypeId) (f : Nat) (off : outParam Nat) : Prop where
 run : ∀ (b o : Nat) (w : World),(Instr.fieldAt T (.pointer (some ⟨b,o,none⟩)) f).run P w = .ok (.pointer (some ⟨b,o + off,none⟩)) w
def cd (P : Program) (T : TypeId) : Array Field :=
 match P.underlying T with
 | some (.struct fs)=>fs
 | _=>#[]
theorem TI.mk' {P : Program} {T : TypeId} {desc : TypeDesc} {size bytes : Nat} {zero : Value} (h : P.underlying T = some desc) (h1 : (P.info? T).map (fun i=>(i.size,i.bytes)) = some (size,bytes)) (h2 : (P.info? T).bind (·.zero) = some zero) : TI P T desc size bytes zero:=⟨h,by
 cases hi : P.info? T with
 | none=>simp [hi] at h1
 | some i =>
  simp only [hi,Option.map_some,Option.some.injEq,Prod.mk.injEq] at h1
  simp only [hi,Option.bind_some] at h2
  exact ⟨i,F,h1.1,h1.2,h2⟩⟩
theorem FA.mk' {P : Program} {T : TypeId} {f off ft : Nat} {size bytes : Nat} {zero : Value} {desc' : TypeDesc} {size' bytes' : Nat} {zero' : Value} [TI P T (.struct (cd P T)) size bytes zero]
  (hf : ((cd P T)[f]?).map (fun fd=>(fd.type,fd.offset)) = some (ft,off)) (_h' : TI P ft desc' size' bytes' zero') (hs : Nat.beq size' 0 = false) : FA P T f off:=⟨fun b o w=>by
 have h0 : size' ≠ 0:=fun e=>by subst e;simp at hs
 cases hfd : (cd P T)[f]? with
 | none=>simp [hfd] at hf
 | some fd =>
  simp only [hfd,Option.map_some,Option.some.injEq,Prod.mk.injEq] at hf
  obtain ⟨rfl,rfl⟩:=hf
  simp [Instr.fieldAt,cF (desc:=.struct (cd P T)) (size:=size) (bytes:=bytes) (zero:=zero),hfd,Instr.sureAddr,fieldPlace,dR (desc:=desc') (size:=size') (bytes:=bytes') (zero:=zero'),h0,Addr.add]⟩
def oS (agg : Bool) (off size : Nat) (cs : List Value) : Option Value :=
 match agg with
 | true=>some (.agg ((cs.drop off).take size).toArray)
 | false=>cs[off]?
class FV (P : Program) (T : TypeId) (f : Nat) (agg : outParam Bool) (off size : outParam Nat) : Prop where
 run : ∀ (cs : List Value) (v : Value) (w : World),oS agg off size cs = some v → (Instr.field T (.agg cs.toArray) f).run P w = .ok v w
theorem xB {P : Program} {T : TypeId} {desc : TypeDesc} {size bytes : Nat} {zero : Value} [TI P T desc size bytes zero] (cs : List Value) (off : Nat) (v : Value) (w : World) (hv : oS (dJ desc) off size cs = some v) :
  (part T cs.toArray off).run P w = .ok v w:=by
 unfold part
 rw [Sem.run_bind,mL (desc:=desc) (size:=size) (bytes:=bytes) (zero:=zero),Result.andThen_ok]
 cases hd : dJ desc with
 | true =>
  rw [hd] at hv
  simp only [oS,Option.some.injEq] at hv
  simp only [if_true,Sem.run_bind,dR (desc:=desc) (size:=size) (bytes:=bytes) (zero:=zero),Result.andThen_ok,Sem.run_pure]
  rw [← hv]
  congr 2
  simp [List.extract_eq_take_drop]
 | false =>
  rw [hd] at hv
  simp only [oS] at hv
  simp [hv]
theorem FV.mk' {P : Program} {T : TypeId} {f off ft : Nat} {size bytes : Nat} {zero : Value} {desc' : TypeDesc} {size' bytes' : Nat} {zero' : Value} {agg : Bool} [TI P T (.struct (cd P T)) size bytes zero]
  (hf : ((cd P T)[f]?).map (fun fd=>(fd.type,fd.offset)) = some (ft,off)) (_h' : TI P ft desc' size' bytes' zero') (ha : dJ desc' = agg) : FV P T f agg off size':=⟨fun cs v w hv=>by
 subst ha
 cases hfd : (cd P T)[f]? with
 | none=>simp [hfd] at hf
 | some fd =>
  simp only [hfd,Option.map_some,Option.some.injEq,Prod.mk.injEq] at hf
  obtain ⟨rfl,rfl⟩:=hf
  simp [Instr.field,cF (desc:=.struct (cd P T)) (size:=size) (bytes:=bytes) (zero:=zero),hfd,asAgg,xB (desc:=desc') (size:=size') (bytes:=bytes') (zero:=zero') cs _ v w hv]⟩
class Kn (S : World → Prop) (G0 : outParam Gh) (L0 : outParam (List Own)) : Prop where
 kn : ∀ w,S w → ∃ B G L,Gh.le G0 G ∧ (∀ x ∈ L0,x ∈ L) ∧ St B G L w
instance (B : Base) (G : Gh) (L : List Own) : Kn (St B G L) G L:=⟨fun _ hw=>⟨B,G,L,Gh.le.refl G,fun _ h=>h,hw⟩⟩
instance (B : Base) (G : Gh) (L : List Own) : Kn (cG B G L) G L:=⟨fun _ ⟨G',L',h1,h2,h3⟩=>⟨B,G',L',h1,h2,h3⟩⟩
structure CellOf (S : World → Prop) (b o : Nat) (v : Value) : Prop where
 go : ∀ w,S w → w.cell? ⟨b,o,none⟩ = some v
structure CellsOf (S : World → Prop) (b o : Nat) (vs : List Value) : Prop where
 go : ∀ (i : Nat) v,vs[i]? = some v → CellOf S b (o + i) v
theorem kz {w : World} {b o : Nat} {cs : List Value} {ty : TypeId} {fr : Nat × Nat} {v : Value} (h : w.heap[b]? = some (.cells cs.toArray ty fr)) (hv : cs[o]? = some v) : w.cell? ⟨b,o,none⟩ = some v:=by
 simp [World.cell?,h,hv]
theorem en {S : World → Prop} {G0 : Gh} {L0 : List Own} [k : Kn S G0 L0] {b : Nat} {cs : List Value} {ty : TypeId} {fr : Nat × Nat} (hm : Own.blk b (.cells cs.toArray ty fr) ∈ L0) : CellsOf S b 0 cs:=CellsOf.mk fun i v hv=>CellOf.mk fun w hw=>by
 obtain ⟨B,G,L,_,hL,hst⟩:=k.kn w hw
 have h:=hst.own _ (hL _ hm)
 simp only [Nat.zero_add]
 exact kz h hv
theorem zW {S : World → Prop} {G0 : Gh} {L0 : List Own} [k : Kn S G0 L0] {b : Nat} {cs : List Value} (hG : G0 b = some (.pre cs)) : CellsOf S b 0 cs:=CellsOf.mk fun i v hv=>CellOf.mk fun w hw=>by
 obtain ⟨B,G,L,hle,_,hst⟩:=k.kn w hw
 obtain ⟨o,ho,hat⟩:=hst.ok b _ (hle b _ hG)
 cases o with
 | cells c ty fr =>
  obtain ⟨rest,rfl⟩:=hat
  simp only [Nat.zero_add]
  refine kz ho ?_
  rw [List.getElem?_append_left (List.getElem?_eq_some_iff.1 hv).1];exact hv
 | _=>exact hat.elim
def bT (G : Gh) (b o : Nat) (vs : List Value) : Prop:=∃ cs,G b = some (.pre cs) ∧ ∀ i v,vs[i]? = some v → cs[o + i]? = some v
theorem bT.mono {G G' : Gh} {b o : Nat} {vs : List Value} (h : bT G b o vs) (hl : Gh.le G G') : bT G' b o vs:=⟨h.choose,hl _ _ h.choose_spec.1,h.choose_spec.2⟩
theorem eG {S : World → Prop} {G0 : Gh} {L0 : List Own} [Kn S G0 L0] {b o : Nat} {vs : List Value} (h : bT G0 b o vs) : CellsOf S b o vs:=CellsOf.mk fun i v hv=>by
 obtain ⟨cs,h1,h2⟩:=h
 have:=(zW (S:=S) h1).go (o + i) v (h2 i v hv)
 simpa using this
theorem CellsOf.one {S : World → Prop} {b o : Nat} {vs : List Value} (h : CellsOf S b o vs) (i : Nat) {v : Value} (hv : vs[i]? = some v) : CellOf S b (o + i) v:=h.go i v hv
theorem CellsOf.sub {S : World → Prop} {b o : Nat} {vs us : List Value} (h : CellsOf S b o vs) (i : Nat) (hu : ∀ j u,us[j]? = some u → vs[i + j]? = some u) : CellsOf S b (o + i) us:=CellsOf.mk fun j u hj=>by
 have:=h.go (i + j) u (hu j u hj)
 rwa [← Nat.add_assoc] at this
theorem run_load {P : Program} {S : World → Prop} {b o : Nat} {v : Value} (h : CellOf S b o v) (w : World) (hw : S w) : (load ⟨b,o,none⟩).run P w = .ok v w:=by
 rw [Go.run_load];simp [h.go w hw]
theorem ju {P : Program} {S : World → Prop} {b o : Nat} : ∀ (vs : List Value) (i : Nat) (acc : Array Value) (w : World),CellsOf S b (o + i) vs → S w →
  (loadCellsFrom ⟨b,o,none⟩ i vs.length acc).run P w = .ok (acc ++ vs.toArray) w
 | [],i,acc,w,_,_=>by simp [loadCellsFrom]
 | v :: vs,i,acc,w,h,hw=>by
  have h0 : CellOf S b (o + i) v:=by have:=h.go 0 v rfl;simpa using this
  have hadd : (⟨b,o,none⟩ : Addr).add i = ⟨b,o + i,none⟩:=by by_cases hi : i = 0 <;> simp [Addr.add,hi]
  simp only [List.length_cons,loadCellsFrom,hadd,Sem.run_bind,run_load h0 w hw,Result.andThen_ok]
  rw [ju vs (i + 1) _ w (CellsOf.mk fun j u hj=>by have:=h.go (j + 1) u (by simpa using hj);rw [show o + (i + 1) + j = o + i + (j + 1) by omega];exact this) hw]
  simp
theorem mz {P : Program} {S : World → Prop} {b o : Nat} {vs : List Value} (h : CellsOf S b o vs) (w : World) (hw : S w) : (loadCells ⟨b,o,none⟩ vs.length).run P w = .ok vs.toArray w:=by
 unfold loadCells
 rw [ju vs 0 #[] w (by simpa using h) hw];simp
theorem sq {P : Program} {T : TypeId} {desc : TypeDesc} {size bytes : Nat} {zero : Value} [TI P T desc size bytes zero] {S : World → Prop} {b o : Nat} {v : Value} (ha : dJ desc = false) (h : CellOf S b o v) (w : World) (hw : S w) :
  (loadVar T ⟨b,o,none⟩).run P w = .ok v w:=by
 unfold loadVar
 rw [Sem.run_bind,mL (desc:=desc) (size:=size) (bytes:=bytes) (zero:=zero),Result.andThen_ok,ha]
 exact run_load h w hw
theorem kh {P : Program} {T : TypeId} {desc : TypeDesc} {size bytes : Nat} {zero : Value} [TI P T desc size bytes zero] {S : World → Prop} {b o : Nat} {vs : List Value} (ha : dJ desc = true) (hs : vs.length = size) (h : CellsOf S b o vs) (w : World) (hw : S w) :
  (loadVar T ⟨b,o,none⟩).run P w = .ok (.agg vs.toArray) w:=by
 unfold loadVar
 rw [Sem.run_bind,mL (desc:=desc) (size:=size) (bytes:=bytes) (zero:=zero),Result.andThen_ok,ha]
 simp only [if_true,Sem.run_bind,dR (desc:=desc) (size:=size) (bytes:=bytes) (zero:=zero),Result.andThen_ok]
 rw [← hs,mz h w hw];rfl
section
variable {n : Nat} {D : List Deferred} {E : bN} {P : Program} {M : World → Prop} {d : Option Nat} {ty : TypeId} {pos : String} {aft : Array Edge} {gd : Option (Nat × Bool)}
theorem abb {x : Operand} {v : Value} (h : ev E x = some v) : Gives P n D E M ⟨d,.move x,ty,pos,aft,gd⟩ v:=Gives.mk fun a w hs _=>by simp [execOp,hs.ev h]
theorem xW {x : Operand} {v : Value} (h : ev E x = some v) : Gives P n D E M ⟨d,.assign x,ty,pos,aft,gd⟩ v:=Gives.mk fun a w hs _=>by simp [execOp,hs.ev h]
theorem bO {c x y : Operand} {b : Bool} {v : Value} (hc : ev E c = some (.bool b)) (hx : ev E x = some v) (hb : b = true) : Gives P n D E M ⟨d,.pick c x y,ty,pos,aft,gd⟩ v:=Gives.mk fun a w hs _=>by
 simp [execOp,hs.ev hc,hb,asBool,hs.ev hx]
theorem bn {c x y : Operand} {b : Bool} {v : Value} (hc : ev E c = some (.bool b)) (hy : ev E y = some v) (hb : b = false) : Gives P n D E M ⟨d,.pick c x y,ty,pos,aft,gd⟩ v:=Gives.mk fun a w hs _=>by
 simp [execOp,hs.ev hc,hb,asBool,hs.ev hy]
theorem aba {x : Operand} {p : Addr} (h : ev E x = some (.pointer (some p))) : Gives P n D E M ⟨d,.nilCheck x,ty,pos,aft,gd⟩ (.pointer (some p)):=Gives.mk fun a w hs _=>by simp [execOp,hs.ev h]
theorem zH {T : TypeId} {x : Operand} {f b o off : Nat} [h : FA P T f off] (hx : ev E x = some (Pt b o)) : Gives P n D E M ⟨d,.fieldAddr T x f,ty,pos,aft,gd⟩ (Pt b (o + off)):=Gives.mk fun a w hs _=>by
 simp [execOp,hs.ev hx,h.run b o w]
theorem uN {T : TypeId} {x : Operand} {f off sz : Nat} {agg : Bool} {cs : List Value} {v : Value} [h : FV P T f agg off sz] (hx : ev E x = some (Ag cs)) (hv : oS agg off sz cs = some v) : Gives P n D E M ⟨d,.field T x f,ty,pos,aft,gd⟩ v:=Gives.mk fun a w hs _=>by
 simp [execOp,hs.ev hx,h.run cs v w hv]
theorem acv {x : Operand} {i : Nat} {vs : List Value} {v : Value} (hx : ev E x = some (Tu vs)) (hv : vs[i]? = some v) : Gives P n D E M ⟨d,.extract x i,ty,pos,aft,gd⟩ v:=Gives.mk fun a w hs _=>by
 simp [execOp,hs.ev hx,Instr.extract,hv]
theorem f8 {T : TypeId} {x : Operand} {desc : TypeDesc} {size bytes : Nat} {zero : Value} {b o : Nat} {v : Value} [TI P T desc size bytes zero] (hx : ev E x = some (Pt b o)) (ha : dJ desc = false) (hc : CellOf M b o v) :
  Gives P n D E M ⟨d,.load T x,ty,pos,aft,gd⟩ v:=Gives.mk fun a w hs hw=>by
 simp [execOp,hs.ev hx,Instr.loadAt,Instr.sureAddr,sq (T:=T) (desc:=desc) (size:=size) (bytes:=bytes) (zero:=zero) ha hc w hw]
theorem j6 {T : TypeId} {x : Operand} {desc : TypeDesc} {size bytes : Nat} {zero : Value} {b o : Nat} {vs : List Value} [TI P T desc size bytes zero] (hx : ev E x = some (Pt b o)) (ha : dJ desc = true) (hl : vs.length = size) (hc : CellsOf M b o vs) :
  Gives P n D E M ⟨d,.load T x,ty,pos,aft,gd⟩ (Ag vs):=Gives.mk fun a w hs hw=>by
 simp [execOp,hs.ev hx,Instr.loadAt,Instr.sureAddr,kh (T:=T) (desc:=desc) (size:=size) (bytes:=bytes) (zero:=zero) ha hl hc w hw]
theorem aQ {T el : TypeId} {x i : Operand} {desc' : TypeDesc} {size bytes size' bytes' : Nat} {zero zero' : Value} {k : IntKind} {m : Int} {b o len cap : Nat} [TI P T (.slice el) size bytes zero] [TI P el desc' size' bytes' zero']
  (hx : ev E x = some (.slice (some ⟨b,o,none⟩) len cap)) (hi : ev E i = some (.int k m)) (h0 : 0 ≤ m ∧ m < len) : Gives P n D E M ⟨d,.indexAddr T x i,ty,pos,aft,gd⟩ (Pt b (o + m.toNat * size')):=Gives.mk fun a w hs _=>by
 simp only [execOp,hs.ev hx,hs.ev hi,Instr.indexAt,asIntOf,Sem.run_bind,Sem.run_pure,Result.andThen_ok,cF (desc:=.slice el) (size:=size) (bytes:=bytes) (zero:=zero)]
 rw [if_pos h0]
 simp only [Sem.run_bind,dR (desc:=desc') (size:=size') (bytes:=bytes') (zero:=zero'),Result.andThen_ok,Sem.run_pure]
 by_cases hz : m.toNat * size' = 0 <;> simp [Addr.add,hz]
theorem ak {T el : TypeId} {x i : Operand} {desc' : TypeDesc} {size bytes size' bytes' : Nat} {zero zero' : Value} {k : IntKind} {m : Nat} {b o len cap : Nat} [TI P T (.slice el) size bytes zero] [TI P el desc' size' bytes' zero']
  (hx : ev E x = some (.slice (some ⟨b,o,none⟩) len cap)) (hi : ev E i = some (.int k (m : Int))) (h0 : m < len) : Gives P n D E M ⟨d,.indexAddr T x i,ty,pos,aft,gd⟩ (Pt b (o + m * size')):=by
 have:=aQ (P:=P) (n:=n) (D:=D) (M:=M) (d:=d) (ty:=ty) (pos:=pos) (aft:=aft) (gd:=gd) (T:=T) (el:=el) (desc':=desc') (size:=size) (bytes:=bytes) (size':=size') (bytes':=bytes') (zero:=zero) (zero':=zero') hx hi oM
 simpa using this
theorem aa3 {T : TypeId} {x i : Operand} {size bytes : Nat} {zero : Value} {k : IntKind} {m : Int} {l : adB} {c : UInt8} [TI P T .string size bytes zero] (hx : ev E x = some (S l)) (hi : ev E i = some (.int k m)) (h0 : 0 ≤ m) (hc : l[m.toNat]? = some c) :
  Gives P n D E M ⟨d,.index T x i,ty,pos,aft,gd⟩ (U8 c.toNat):=Gives.mk fun a w hs _=>by
 have h1 : (ByteArray.mk l.toArray)[m.toNat]? = some c:=by
  have hlt : m.toNat < l.length:=(List.getElem?_eq_some_iff.1 hc).1
  rw [getElem?_pos (ByteArray.mk l.toArray) m.toNat (by rw [og];exact hlt)]
  have : l[m.toNat] = c:=(List.getElem?_eq_some_iff.1 hc).2
  simp only [Option.some.injEq]
  rw [← this];rfl
 simp [execOp,hs.ev hx,hs.ev hi,Instr.index,asIntOf,cF (desc:=.string) (size:=size) (bytes:=bytes) (zero:=zero),h0,h1]
theorem dE {k : IntKind} {m : Int} {y : Nat} {code : BoundsCode} (h : 0 ≤ m ∧ m ≤ y) (w : World) : (Instr.sliceBound (.int k m) y code).run P w = .ok m.toNat w:=by
 simp [Instr.sliceBound,asIntOf,h]
theorem wD {T : TypeId} {x lo : Operand} {size bytes : Nat} {zero : Value} {k : IntKind} {m : Int} {l : adB} [TI P T .string size bytes zero] (hx : ev E x = some (S l)) (hl : ev E lo = some (.int k m)) (h0 : 0 ≤ m ∧ m ≤ l.length) :
  Gives P n D E M ⟨d,.slice T x (some lo) none none,ty,pos,aft,gd⟩ (S (l.drop m.toNat)):=Gives.mk fun a w hs _=>by
 simp [execOp,hs.ev hx,hs.ev hl,Instr.sliceAt,Instr.slice,cF (desc:=.string) (size:=size) (bytes:=bytes) (zero:=zero),Instr.sliceBounds,dE (P:=P) (m:=m) (y:=l.length) h0,og,yu]
theorem zC {T : TypeId} {x hi : Operand} {size bytes : Nat} {zero : Value} {k : IntKind} {m : Int} {l : adB} [TI P T .string size bytes zero] (hx : ev E x = some (S l)) (hh : ev E hi = some (.int k m)) (h0 : 0 ≤ m ∧ m ≤ l.length) :
  Gives P n D E M ⟨d,.slice T x none (some hi) none,ty,pos,aft,gd⟩ (S (l.take m.toNat)):=Gives.mk fun a w hs _=>by
 simp [execOp,hs.ev hx,hs.ev hh,Instr.sliceAt,Instr.slice,cF (desc:=.string) (size:=size) (bytes:=bytes) (zero:=zero),Instr.sliceBounds,dE (P:=P) (y:=(ByteArray.mk l.toArray).size) (by rw [og];exact h0),yu]
theorem wE {T : TypeId} {x lo hi : Operand} {size bytes : Nat} {zero : Value} {k k' : IntKind} {m m' : Int} {l : adB} [TI P T .string size bytes zero] (hx : ev E x = some (S l)) (hl : ev E lo = some (.int k m)) (hh : ev E hi = some (.int k' m'))
  (h0 : 0 ≤ m ∧ m ≤ m') (h1 : 0 ≤ m' ∧ m' ≤ l.length) : Gives P n D E M ⟨d,.slice T x (some lo) (some hi) none,ty,pos,aft,gd⟩ (S ((l.take m'.toNat).drop m.toNat)):=Gives.mk fun a w hs _=>by
 simp [execOp,hs.ev hx,hs.ev hl,hs.ev hh,Instr.sliceAt,Instr.slice,cF (desc:=.string) (size:=size) (bytes:=bytes) (zero:=zero),Instr.sliceBounds,dE (P:=P) (m:=m') (y:=(ByteArray.mk l.toArray).size) (by rw [og];exact h1),
  dE (P:=P) (m:=m) (y:=m'.toNat) oM,yu]
theorem xU {T el : TypeId} {x lo : Operand} {desc' : TypeDesc} {size bytes size' bytes' : Nat} {zero zero' : Value} {k : IntKind} {m : Int} {b o len cap : Nat} [TI P T (.slice el) size bytes zero] [TI P el desc' size' bytes' zero']
  (hx : ev E x = some (.slice (some ⟨b,o,none⟩) len cap)) (hl : ev E lo = some (.int k m)) (h0 : 0 ≤ m ∧ m ≤ len) : ∃ o',(m < cap → o' = o + m.toNat * size') ∧
  Gives P n D E M ⟨d,.slice T x (some lo) none none,ty,pos,aft,gd⟩ (.slice (some ⟨b,o',none⟩) (len - m.toNat) (cap - m.toNat)):=by
 refine ⟨if cap = m.toNat then o else o + m.toNat * size',fun hlt=>by rw [if_neg oM],Gives.mk fun a w hs _=>?_⟩
 simp only [execOp,hs.ev hx,Option.map_some,Option.map_none,hs.ev hl,Instr.sliceAt,Instr.slice,Sem.run_bind,cF (desc:=.slice el) (size:=size) (bytes:=bytes) (zero:=zero),Result.andThen_ok,Instr.sliceBounds,Sem.run_pure,
  dE (P:=P) (m:=m) (y:=len) h0,dR (desc:=desc') (size:=size') (bytes:=bytes') (zero:=zero')]
 by_cases hc : cap = m.toNat
 ·simp [hc]
 ·rw [if_neg hc,if_neg hc]
  by_cases hz : m.toNat * size' = 0 <;> simp [Addr.add,hz]
theorem s5 {T el : TypeId} {x hi : Operand} {desc' : TypeDesc} {size bytes size' bytes' : Nat} {zero zero' : Value} {k : IntKind} {m : Int} {p : Option Addr} {len cap : Nat} [TI P T (.slice el) size bytes zero] [TI P el desc' size' bytes' zero']
  (hx : ev E x = some (.slice p len cap)) (hl : ev E hi = some (.int k m)) (h0 : 0 ≤ m ∧ m ≤ cap) :
  Gives P n D E M ⟨d,.slice T x none (some hi) none,ty,pos,aft,gd⟩ (.slice p m.toNat cap):=Gives.mk fun a w hs _=>by
 simp only [execOp,hs.ev hx,Option.map_some,Option.map_none,hs.ev hl,Instr.sliceAt,Instr.slice,Sem.run_bind,cF (desc:=.slice el) (size:=size) (bytes:=bytes) (zero:=zero),Result.andThen_ok,Instr.sliceBounds,Sem.run_pure,
  dE (P:=P) (m:=m) (y:=cap) h0,dR (desc:=desc') (size:=size') (bytes:=bytes') (zero:=zero')]
 by_cases hc : cap = 0
 ·simp [hc]
 ·rw [if_neg hc]
  cases p <;> simp [Addr.add]
theorem xM (a b : adB) : (a == b) = decide (a = b):=by rw [Bool.eq_iff_iff];simp
theorem iH {x : Int} (h : -9223372036854775808 ≤ x ∧ x ≤ 9223372036854775807) : IntKind.i64.wrap x = x:=by
 simp only [IntKind.wrap,IntKind.bits,IntKind.signed]
 simp
 omega
theorem dS {op : BinOp} {T T' : TypeId} {x y : Operand} {u v r : Value} (hx : ev E x = some u) (hy : ev E y = some v) (h1 : eqGuard op T x y u v = pure ()) (h2 : ∀ w,(binOp op T u v).run P w = .ok r w) :
  Gives P n D E M ⟨d,.binOp op T x y T',ty,pos,aft,gd⟩ r:=Gives.mk fun a w hs _=>by
 simp only [execOp,hs.ev hx,hs.ev hy,h1,Sem.run_bind,Sem.run_pure,Result.andThen_ok,h2]
theorem acx {T T' : TypeId} {x y : Operand} {a b : Int} (hx : ev E x = some (I a)) (hy : ev E y = some (I b)) (h : -9223372036854775808 ≤ a + b ∧ a + b ≤ 9223372036854775807) : Gives P n D E M ⟨d,.binOp .add T x y T',ty,pos,aft,gd⟩ (I (a + b)):=dS hx hy rfl fun w=>(show _ = Result.ok (I (IntKind.i64.wrap (a + b))) w from rfl).trans (by rw [iH h])
theorem acl {T T' : TypeId} {x y : Operand} {a b : Int} (hx : ev E x = some (I a)) (hy : ev E y = some (I b)) (h : -9223372036854775808 ≤ a - b ∧ a - b ≤ 9223372036854775807) : Gives P n D E M ⟨d,.binOp .sub T x y T',ty,pos,aft,gd⟩ (I (a - b)):=dS hx hy rfl fun w=>(show _ = Result.ok (I (IntKind.i64.wrap (a - b))) w from rfl).trans (by rw [iH h])
theorem act {T T' : TypeId} {x y : Operand} {a b : Int} (hx : ev E x = some (I a)) (hy : ev E y = some (I b)) (h : -9223372036854775808 ≤ a * b ∧ a * b ≤ 9223372036854775807) : Gives P n D E M ⟨d,.binOp .mul T x y T',ty,pos,aft,gd⟩ (I (a * b)):=dS hx hy rfl fun w=>(show _ = Result.ok (I (IntKind.i64.wrap (a * b))) w from rfl).trans (by rw [iH h])
theorem aco {T T' : TypeId} {x y : Operand} {a b : Int} (hx : ev E x = some (I a)) (hy : ev E y = some (I b)) (h : 0 ≤ a ∧ 0 < b) : Gives P n D E M ⟨d,.binOp .rem T x y T',ty,pos,aft,gd⟩ (I (a % b)):=dS hx hy rfl fun w=>by
 have h1 : b ≠ 0:=oM
 have h2 : binOp .rem T (I a) (I b) = Op.intDiv .rem .i64 a b:=rfl
 rw [h2];simp only [Op.intDiv,if_neg h1,Sem.run_pure,Int.tmod_eq_emod_of_nonneg h.1]
theorem acp {T T' : TypeId} {x y : Operand} {a b : Int} (hx : ev E x = some (I a)) (hy : ev E y = some (I b)) (h : 0 ≤ a ∧ 0 < b ∧ a ≤ 9223372036854775807) : Gives P n D E M ⟨d,.binOp .quo T x y T',ty,pos,aft,gd⟩ (I (a / b)):=dS hx hy rfl fun w=>by
 have h1 : b ≠ 0:=oM
 have h3 : 0 ≤ a / b:=Int.ediv_nonneg h.1 oM
 have h4 : a / b ≤ a:=Int.ediv_le_self b h.1
 have h2 : binOp .quo T (I a) (I b) = Op.intDiv .quo .i64 a b:=rfl
 rw [h2];simp only [Op.intDiv,if_neg h1,Sem.run_pure,Int.tdiv_eq_ediv_of_nonneg h.1,iH (x:=a / b) oM]
theorem abj {T T' : TypeId} {x y : Operand} {k : IntKind} {a b : Int} (hx : ev E x = some (.int k a)) (hy : ev E y = some (.int k b)) : Gives P n D E M ⟨d,.binOp .add T x y T',ty,pos,aft,gd⟩ (.int k (k.wrap (a + b))):=dS hx hy rfl fun w=>by simp [binOp,Op.intArith]
theorem aa0 {T T' : TypeId} {x y : Operand} {k : IntKind} {a b : Int} (hx : ev E x = some (.int k a)) (hy : ev E y = some (.int k b)) : Gives P n D E M ⟨d,.binOp .sub T x y T',ty,pos,aft,gd⟩ (.int k (k.wrap (a - b))):=dS hx hy rfl fun w=>by simp [binOp,Op.intArith]
theorem aaZ {T T' : TypeId} {x y : Operand} {a b : Int} (hx : ev E x = some (I a)) (hy : ev E y = some (I b)) : Gives P n D E M ⟨d,.binOp .xor T x y T',ty,pos,aft,gd⟩ (I (IntKind.i64.wrap ((BitVec.ofInt 64 a ^^^ BitVec.ofInt 64 b).toNat))):=dS hx hy rfl fun _=>rfl
theorem yT {T T' : TypeId} {x y : Operand} {k : IntKind} {a b : Int} (hx : ev E x = some (.int k a)) (hy : ev E y = some (.int k b)) : Gives P n D E M ⟨d,.binOp .eql T x y T',ty,pos,aft,gd⟩ (Bo (decide (a = b))):=dS hx hy rfl fun w=>by
 have h2 : binOp .eql T (.int k a) (.int k b) = Op.intCmp .eql a b:=by simp [binOp]
 rw [h2];simp [Op.intCmp];rfl
theorem yO {T T' : TypeId} {x y : Operand} {k : IntKind} {a b : Int} (hx : ev E x = some (.int k a)) (hy : ev E y = some (.int k b)) : Gives P n D E M ⟨d,.binOp .neq T x y T',ty,pos,aft,gd⟩ (Bo (decide (a ≠ b))):=dS hx hy rfl fun w=>by
 have h2 : binOp .neq T (.int k a) (.int k b) = Op.intCmp .neq a b:=by simp [binOp]
 rw [h2];simp [Op.intCmp];rfl
theorem yP {T T' : TypeId} {x y : Operand} {k : IntKind} {a b : Int} (hx : ev E x = some (.int k a)) (hy : ev E y = some (.int k b)) : Gives P n D E M ⟨d,.binOp .lss T x y T',ty,pos,aft,gd⟩ (Bo (decide (a < b))):=dS hx hy rfl fun w=>by
 have h2 : binOp .lss T (.int k a) (.int k b) = Op.intCmp .lss a b:=by simp [binOp]
 rw [h2];simp [Op.intCmp]
theorem yQ {T T' : TypeId} {x y : Operand} {k : IntKind} {a b : Int} (hx : ev E x = some (.int k a)) (hy : ev E y = some (.int k b)) : Gives P n D E M ⟨d,.binOp .leq T x y T',ty,pos,aft,gd⟩ (Bo (decide (a ≤ b))):=dS hx hy rfl fun w=>by
 have h2 : binOp .leq T (.int k a) (.int k b) = Op.intCmp .leq a b:=by simp [binOp]
 rw [h2];simp [Op.intCmp]
theorem yR {T T' : TypeId} {x y : Operand} {k : IntKind} {a b : Int} (hx : ev E x = some (.int k a)) (hy : ev E y = some (.int k b)) : Gives P n D E M ⟨d,.binOp .gtr T x y T',ty,pos,aft,gd⟩ (Bo (decide (b < a))):=dS hx hy rfl fun w=>by
 have h2 : binOp .gtr T (.int k a) (.int k b) = Op.intCmp .gtr a b:=by simp [binOp]
 rw [h2];simp [Op.intCmp]
theorem yS {T T' : TypeId} {x y : Operand} {k : IntKind} {a b : Int} (hx : ev E x = some (.int k a)) (hy : ev E y = some (.int k b)) : Gives P n D E M ⟨d,.binOp .geq T x y T',ty,pos,aft,gd⟩ (Bo (decide (b ≤ a))):=dS hx hy rfl fun w=>by
 have h2 : binOp .geq T (.int k a) (.int k b) = Op.intCmp .geq a b:=by simp [binOp]
 rw [h2];simp [Op.intCmp]
theorem abf {T T' : TypeId} {x : Operand} {k k' : IntKind} {size bytes size' bytes' : Nat} {zero zero' : Value} {a : Int} [TI P T (.int k) size bytes zero] [TI P T' (.int k') size' bytes' zero'] (hx : ev E x = some (.int k a)) :
  Gives P n D E M ⟨d,.convert T T' x,ty,pos,aft,gd⟩ (.int k' (k'.wrap a)):=Gives.mk fun _ w hs _=>by
 simp [execOp,hs.ev hx,convert,cF (T:=T) (desc:=.int k) (size:=size) (bytes:=bytes) (zero:=zero),cF (T:=T') (desc:=.int k') (size:=size') (bytes:=bytes') (zero:=zero'),Conv.intToInt]
theorem zL {T T' : TypeId} {x : Operand} {k : IntKind} {size bytes size' bytes' : Nat} {zero zero' : Value} {a : Int} [TI P T (.int k) size bytes zero] [TI P T' (.int .i64) size' bytes' zero'] (hx : ev E x = some (.int k a)) (h : -9223372036854775808 ≤ a ∧ a ≤ 9223372036854775807) :
  Gives P n D E M ⟨d,.convert T T' x,ty,pos,aft,gd⟩ (I a):=Gives.mk fun _ w hs _=>by
 simp [execOp,hs.ev hx,convert,cF (T:=T) (desc:=.int k) (size:=size) (bytes:=bytes) (zero:=zero),cF (T:=T') (desc:=.int .i64) (size:=size') (bytes:=bytes') (zero:=zero'),Conv.intToInt,iH h]
theorem acr {T : TypeId} {x : Operand} {a : Int} (hx : ev E x = some (I a)) (h : -9223372036854775808 ≤ 0 - a ∧ 0 - a ≤ 9223372036854775807) : Gives P n D E M ⟨d,.unOp .neg T x,ty,pos,aft,gd⟩ (I (-a)):=Gives.mk fun _ w hs _=>by
 have : IntKind.i64.wrap (-a) = -a:=iH oM
 simp [execOp,hs.ev hx,Op.unary,Op.intArith,this]
theorem acq {T : TypeId} {x : Operand} {b : Bool} (hx : ev E x = some (.bool b)) : Gives P n D E M ⟨d,.unOp .not T x,ty,pos,aft,gd⟩ (Bo (!b)):=Gives.mk fun _ w hs _=>by
 simp [execOp,hs.ev hx,Op.unary]
theorem aa6 {T T' : TypeId} {x y : Operand} {a b : adB} (hx : ev E x = some (S a)) (hy : ev E y = some (S b)) : Gives P n D E M ⟨d,.binOp .eql T x y T',ty,pos,aft,gd⟩ (Bo (decide (a = b))):=dS hx hy rfl fun w=>by
 have h2 : binOp .eql T (S a) (S b) = Op.stringOp .eql ⟨a.toArray⟩ ⟨b.toArray⟩:=rfl
 rw [h2];simp [Op.stringOp,xM]
theorem aa1 {T T' : TypeId} {x y : Operand} {a b : adB} (hx : ev E x = some (S a)) (hy : ev E y = some (S b)) : Gives P n D E M ⟨d,.binOp .neq T x y T',ty,pos,aft,gd⟩ (Bo (decide (a ≠ b))):=dS hx hy rfl fun w=>by
 have h2 : binOp .neq T (S a) (S b) = Op.stringOp .neq ⟨a.toArray⟩ ⟨b.toArray⟩:=rfl
 rw [h2];simp [Op.stringOp,xM]
theorem aa2 {T T' : TypeId} {x y : Operand} {a b : adB} (hx : ev E x = some (S a)) (hy : ev E y = some (S b)) : Gives P n D E M ⟨d,.binOp .lss T x y T',ty,pos,aft,gd⟩ (Bo (Op.bytesLess a b)):=dS hx hy rfl fun w=>by
 have h2 : binOp .lss T (S a) (S b) = Op.stringOp .lss ⟨a.toArray⟩ ⟨b.toArray⟩:=rfl
 rw [h2];simp [Op.stringOp]
theorem aa5 {T T' : TypeId} {x y : Operand} {a b : adB} (hx : ev E x = some (S a)) (hy : ev E y = some (S b)) : Gives P n D E M ⟨d,.binOp .geq T x y T',ty,pos,aft,gd⟩ (Bo (!Op.bytesLess a b)):=dS hx hy rfl fun w=>by
 have h2 : binOp .geq T (S a) (S b) = Op.stringOp .geq ⟨a.toArray⟩ ⟨b.toArray⟩:=rfl
 rw [h2];simp [Op.stringOp]
theorem aa4 {T T' : TypeId} {x y : Operand} {a b : adB} (hx : ev E x = some (S a)) (hy : ev E y = some (S b)) : Gives P n D E M ⟨d,.binOp .gtr T x y T',ty,pos,aft,gd⟩ (Bo (!(Op.bytesLess a b || decide (a = b)))):=dS hx hy rfl fun w=>by
 have h2 : binOp .gtr T (S a) (S b) = Op.stringOp .gtr ⟨a.toArray⟩ ⟨b.toArray⟩:=rfl
 rw [h2];simp [Op.stringOp,xM]
theorem aa8 {T T' : TypeId} {x y : Operand} {a b : adB} (hx : ev E x = some (S a)) (hy : ev E y = some (S b)) (h : a.length + b.length ≤ 9223372036854775807) : Gives P n D E M ⟨d,.binOp .add T x y T',ty,pos,aft,gd⟩ (S (a ++ b)):=dS hx hy rfl fun w=>by
 have h2 : binOp .add T (S a) (S b) = Op.stringOp .add ⟨a.toArray⟩ ⟨b.toArray⟩:=rfl
 have h3 : ¬ ((((ByteArray.mk a.toArray).size + (ByteArray.mk b.toArray).size : Nat) : Int) > IntKind.i64.max):=by
  rw [og,og,show IntKind.i64.max = 9223372036854775807 from rfl];omega
 rw [h2];simp only [Op.stringOp,if_neg h3,Sem.run_pure,adr]
theorem abh {T T' : TypeId} {x y : Operand} {size bytes : Nat} {zero : Value} {a b : Bool} [TI P T .bool size bytes zero] (hx : ev E x = some (.bool a)) (hy : ev E y = some (.bool b)) : Gives P n D E M ⟨d,.binOp .eql T x y T',ty,pos,aft,gd⟩ (Bo (decide (a = b))):=dS hx hy rfl fun w=>by
 have h2 : binOp .eql T (.bool a) (.bool b) = (do pure (.bool (← Op.equal T (.bool a) (.bool b)))):=rfl
 have h4 : ∀ m,(Op.equalIn (m + 1) T (.bool a) (.bool b)).run P w = .ok (a == b) w:=fun m=>by simp [Op.equalIn,cF (T:=T) (desc:=.bool) (size:=size) (bytes:=bytes) (zero:=zero)]
 have h3 : (Op.equal T (.bool a) (.bool b)).run P w = .ok (a == b) w:=h4 9999
 rw [h2,Sem.run_bind,h3]
 cases a <;> cases b <;> rfl
theorem abg {T T' : TypeId} {x y : Operand} {size bytes : Nat} {zero : Value} {a b : Bool} [TI P T .bool size bytes zero] (hx : ev E x = some (.bool a)) (hy : ev E y = some (.bool b)) : Gives P n D E M ⟨d,.binOp .neq T x y T',ty,pos,aft,gd⟩ (Bo (decide (a ≠ b))):=dS hx hy rfl fun w=>by
 have h2 : binOp .neq T (.bool a) (.bool b) = (do pure (.bool (!(← Op.equal T (.bool a) (.bool b))))):=rfl
 have h4 : ∀ m,(Op.equalIn (m + 1) T (.bool a) (.bool b)).run P w = .ok (a == b) w:=fun m=>by simp [Op.equalIn,cF (T:=T) (desc:=.bool) (size:=size) (bytes:=bytes) (zero:=zero)]
 have h3 : (Op.equal T (.bool a) (.bool b)).run P w = .ok (a == b) w:=h4 9999
 rw [h2,Sem.run_bind,h3]
 cases a <;> cases b <;> rfl
theorem dh {T T' el : TypeId} {x y : Operand} {size bytes : Nat} {zero : Value} {p : Option Addr} [TI P T (.pointer el) size bytes zero] (hx : ev E x = some (.pointer p)) (hy : ev E y = some (.pointer none)) : Gives P n D E M ⟨d,.binOp .eql T x y T',ty,pos,aft,gd⟩ (Bo p.isNone):=dS hx hy rfl fun w=>by
 have h2 : binOp .eql T (.pointer p) (.pointer none) = (do pure (.bool (← Op.equal T (.pointer p) (.pointer none)))):=rfl
 have h4 : ∀ m,(Op.equalIn (m + 1) T (.pointer p) (.pointer none)).run P w = .ok p.isNone w:=fun m=>by cases p <;> simp [Op.equalIn,cF (T:=T) (desc:=.pointer el) (size:=size) (bytes:=bytes) (zero:=zero)]
 have h3 : (Op.equal T (.pointer p) (.pointer none)).run P w = .ok p.isNone w:=h4 9999
 rw [h2,Sem.run_bind,h3]
 cases p <;> rfl
theorem iv {T T' el : TypeId} {x y : Operand} {size bytes : Nat} {zero : Value} {p : Option Addr} [TI P T (.pointer el) size bytes zero] (hx : ev E x = some (.pointer p)) (hy : ev E y = some (.pointer none)) : Gives P n D E M ⟨d,.binOp .neq T x y T',ty,pos,aft,gd⟩ (Bo p.isSome):=dS hx hy rfl fun w=>by
 have h2 : binOp .neq T (.pointer p) (.pointer none) = (do pure (.bool (!(← Op.equal T (.pointer p) (.pointer none))))):=rfl
 have h4 : ∀ m,(Op.equalIn (m + 1) T (.pointer p) (.pointer none)).run P w = .ok p.isNone w:=fun m=>by cases p <;> simp [Op.equalIn,cF (T:=T) (desc:=.pointer el) (size:=size) (bytes:=bytes) (zero:=zero)]
 have h3 : (Op.equal T (.pointer p) (.pointer none)).run P w = .ok p.isNone w:=h4 9999
 rw [h2,Sem.run_bind,h3]
 cases p <;> rfl
theorem abc {x : Operand} {T : TypeId} {size bytes : Nat} {zero : Value} {l : adB} [TI P T .string size bytes zero] (hx : ev E x = some (S l)) : Gives P n D E M ⟨d,.call ⟨.builtin .len,[x].toArray,[T].toArray⟩,ty,pos,aft,gd⟩ (I l.length):=Gives.mk fun a w hs _=>by
 simp [execOp,resolve,hs.ev hx,invoke,builtin,Builtin.len_,cF (T:=T) (desc:=.string) (size:=size) (bytes:=bytes) (zero:=zero),goInt,og]
theorem af {x : Operand} {T el : TypeId} {size bytes : Nat} {zero : Value} {p : Option Addr} {len cap : Nat} [TI P T (.slice el) size bytes zero] (hx : ev E x = some (.slice p len cap)) : Gives P n D E M ⟨d,.call ⟨.builtin .len,[x].toArray,[T].toArray⟩,ty,pos,aft,gd⟩ (I len):=Gives.mk fun a w hs _=>by
 simp [execOp,resolve,hs.ev hx,invoke,builtin,Builtin.len_,cF (T:=T) (desc:=.slice el) (size:=size) (bytes:=bytes) (zero:=zero),goInt]
theorem l3 {f : FuncId} {fi ca : List Operand} {vf vc : List Value} (hf : evs E fi = some vf) (hc : evs E ca = some vc) : Gives P n D E M ⟨d,.makeFunc (.func f) fi.toArray ca.toArray,ty,pos,aft,gd⟩ (.func (.func f) vf.toArray vc.toArray):=Gives.mk fun a w hs _=>by
 simp [execOp,Instr.makeFunc,hs.evs hf,hs.evs hc]
end
inductive Del (x : Own) : List Own → List Own → Prop where
 | here {r} : Del x (x :: r) r
 | there {y r r'} : Del x r r' → Del x (y :: r) (y :: r')
theorem Del.perm {x : Own} {L L' : List Own} (h : Del x L L') : L.Perm (x :: L'):=by
 induction h with
 | here=>exact .refl _
 | there _ ih=>exact (List.Perm.cons _ ih).trans (List.Perm.swap _ _ _)
theorem Del.mem {x : Own} {L L' : List Own} (h : Del x L L') : x ∈ L:=h.perm.symm.subset List.mem_cons_self
inductive UpdO (x y : Own) : List Own → List Own → Prop where
 | here {r} : UpdO x y (x :: r) (y :: r)
 | there {z r r'} : UpdO x y r r' → UpdO x y (z :: r) (z :: r')
theorem UpdO.split {x y : Own} {L L' : List Own} (h : UpdO x y L L') : ∃ R,L.Perm (x :: R) ∧ (y :: R).Perm L':=by
 induction h with
 | @here r=>exact ⟨r,.refl _,.refl _⟩
 | @there z r r' _ ih=>obtain ⟨R,h1,h2⟩:=ih;exact ⟨z :: R,(List.Perm.cons z h1).trans (List.Perm.swap _ _ _),(List.Perm.swap _ _ _).trans (List.Perm.cons z h2)⟩
theorem UpdO.mem {x y : Own} {L L' : List Own} (h : UpdO x y L L') : x ∈ L:=by obtain ⟨R,h1,_⟩:=h.split;exact h1.symm.subset List.mem_cons_self
inductive PutsR : List Value → Nat → List Value → List Value → Prop where
 | nil {cs} : PutsR cs 0 [] cs
 | here {x v cs vs cs'} : PutsR cs 0 vs cs' → PutsR (x :: cs) 0 (v :: vs) (v :: cs')
 | there {x cs n v vs cs'} : PutsR cs n (v :: vs) cs' → PutsR (x :: cs) (n + 1) (v :: vs) (x :: cs')
theorem PutsR.zero {cs o cs'} (h : PutsR cs o [] cs') : o = 0 ∧ cs' = cs:=by
 generalize hw : ([] : List Value) = ws at h
 cases h with
 | nil=>exact ⟨F,F⟩
 | here _=>cases hw
 | there _=>cases hw
theorem PutsR.step {cs o v vs cs'} (h : PutsR cs o (v :: vs) cs') : o < cs.length ∧ (PutsR (cs.set o v) (o + 1) vs cs' ∨ vs = [] ∧ cs' = cs.set o v):=by
 generalize hw : v :: vs = ws at h
 induction h with
 | nil=>cases hw
 | @here x u cs us cs'' h ih =>
  simp only [List.cons.injEq] at hw
  obtain ⟨rfl,rfl⟩:=hw
  refine ⟨by simp,?_⟩
  cases vs with
  | nil=>obtain ⟨_,rfl⟩:=h.zero;right;simp
  | cons a b=>left;exact .there h
 | @there x cs m u us cs'' h ih =>
  simp only [List.cons.injEq] at hw
  obtain ⟨rfl,rfl⟩:=hw
  obtain ⟨h1,h2⟩:=ih rfl
  refine ⟨by simpa using h1,?_⟩
  rcases h2 with h2 | ⟨rfl,rfl⟩
  ·cases vs with
   | nil=>have:=h2.zero.1;omega
   | cons a b=>left;exact .there h2
  ·right;exact ⟨F,by simp⟩
def setBlk (w : World) (b : Nat) (o : Obj) : World:={ w with heap:=w.heap.setIfInBounds b o }
theorem gP (w : World) (b : Nat) (o : Obj) (c : Nat) : (setBlk w b o).heap[c]? = if b = c then (if b < w.heap.size then some o else none) else w.heap[c]?:=by
 simp [setBlk,Array.getElem?_setIfInBounds]
theorem rS (w : World) (b : Nat) (o o' : Obj) : setBlk (setBlk w b o) b o' = setBlk w b o':=by simp [setBlk]
theorem vy {w : World} {b i : Nat} {cs : List Value} {ty : TypeId} {fr : Nat × Nat} {v : Value} (h : w.heap[b]? = some (.cells cs.toArray ty fr)) : w.setCell ⟨b,i,none⟩ v = setBlk w b (.cells (cs.set i v).toArray ty fr):=by
 have hlt : b < w.heap.size:=(Array.getElem?_eq_some_iff.1 h).1
 unfold World.setCell setBlk
 congr 1
 apply Array.ext'
 simp only [Array.toList_modify,Array.toList_setIfInBounds]
 apply List.ext_getElem?
 intro k
 rw [List.getElem?_modify,List.getElem?_set]
 by_cases hk : b = k
 ·subst hk
  obtain ⟨_,hb'⟩:=Array.getElem?_eq_some_iff.1 h
  simp [hlt,hb']
 ·simp [hk]
theorem St.setBlk {B G L L' w} {b : Nat} {o o' : Obj} (h : St B G L w) (hu : UpdO (.blk b o) (.blk b o') L L') : St B G L' (setBlk w b o'):=by
 obtain ⟨R,h1,h2⟩:=hu.split
 have h:=h.perm h1
 refine St.perm ?_ h2
 have hlt : b < w.heap.size:=h.lt (by simp [cO,Own.bk])
 have hnd:=h.nd
 simp only [cO,List.flatMap_cons,Own.bk,List.singleton_append,List.nodup_cons] at hnd
 have hfr:=h.fresh b (by simp [cO,Own.bk])
 have hne : ∀ c,c ≠ b → (Go.E.setBlk w b o').heap[c]? = w.heap[c]?:=fun c hc=>by rw [gP,if_neg (Ne.symm hc)]
 refine ⟨fun c g hc=>?_,fun x hx=>?_,h.fresh,h.nd,h.os,h.tape,h.output,by simpa [Go.E.setBlk] using h.size,fun c hc hW=>?_⟩
 ·obtain ⟨o2,h3,h4⟩:=h.ok c g hc
  have : c ≠ b:=fun e=>by subst e;rw [hfr.1] at hc;cases hc
  exact ⟨o2,by rw [hne c this];exact h3,h4⟩
 ·rcases List.mem_cons.1 hx with rfl | hx
  ·show (Go.E.setBlk w b o').heap[b]? = some o'
   rw [gP,if_pos rfl,if_pos hlt]
  ·refine Own.at_same (h.own x (List.mem_cons_of_mem _ hx)) fun c hc=>hne c fun e=>?_
   have hxb:=lh.2 ⟨x,hx,hc⟩
   subst e
   exact hnd.1 hxb
 ·have : c ≠ b:=fun e=>by
   subst e
   rcases hfr.2 with h3 | h3
   ·omega
   ·exact hW h3
  rw [hne c this];exact h.frame c hc hW
def er : List Value → Bool
 | []=>true
 | v :: r=>v.oneCell' && er r
theorem wR {v : Value} (h : v.oneCell' = true) : v.cells = [v].toArray:=by cases v <;> first | rfl | cases h
theorem iL {P : Program} {b o : Nat} {ty : TypeId} : ∀ (vs cs cs' : List Value) (i : Nat) (w : World),w.heap[b]? = some (.cells cs.toArray ty (0,0)) → PutsR cs (o + i) vs cs' → er vs = true →
  (storeCells ⟨b,o,none⟩ vs i).run P w = .ok () (setBlk w b (.cells cs'.toArray ty (0,0))) ∨ vs = [] ∧ cs' = cs
 | [],cs,cs',i,w,_,hp,_=>by
  right
  generalize he : o + i = m at hp
  cases hp;exact ⟨F,F⟩
 | v :: vs,cs,cs',i,w,h,hp,h1=>by
  left
  simp only [er,Bool.and_eq_true] at h1
  have hadd : (⟨b,o,none⟩ : Addr).add i = ⟨b,o + i,none⟩:=by by_cases hi : i = 0 <;> simp [Addr.add,hi]
  have hfz : w.frozen? ⟨b,o + i,none⟩ = false:=by simp [World.frozen?,h]
  have hlt : o + i < cs.length:=hp.step.1
  have hcell : w.cell? ⟨b,o + i,none⟩ = some cs[o + i]:=by simp [World.cell?,h,hlt]
  have hst : (store ⟨b,o + i,none⟩ v).run P w = .ok () (w.setCell ⟨b,o + i,none⟩ v):=by rw [run_store P w _ v _ h1.1];simp [hcell,hfz]
  simp only [storeCells,hadd,Sem.run_bind,hst,Result.andThen_ok,vy h]
  rcases hp.step.2 with h2 | ⟨rfl,rfl⟩
  ·have hb' : (setBlk w b (.cells (cs.set (o + i) v).toArray ty (0,0))).heap[b]? = some (.cells (cs.set (o + i) v).toArray ty (0,0)):=by
    rw [gP,if_pos rfl,if_pos (Array.getElem?_eq_some_iff.1 h).1]
   rcases iL vs _ cs' (i + 1) _ hb' h2 h1.2 with h3 | ⟨rfl,rfl⟩
   ·rw [h3,rS]
   ·simp [storeCells]
  ·simp [storeCells]
section
variable {n : Nat} {D : List Deferred} {E : bN} {B : Base} {G : Gh} {L : List Own} {P : Program}
variable {Q : Exit → Act → World → Prop} {K : Act → World → Prop}
variable {d : Nat} {ty : TypeId} {pos : String} {aft : Array Edge} {gd : Option (Nat × Bool)}
theorem ve {T : TypeId} {desc : TypeDesc} {size bytes : Nat} {zero : Value} {cs : List Value} [TI P T desc size bytes zero] (hz : zero.cells = cs.toArray) (hlt : Nat.blt d n = true)
  (k : ∀ b,Nx n D ((d,Pt b 0) :: E) B G (.blk b (.cells cs.toArray T (0,0)) :: L) K) : Nx n D E B G L (ow P ⟨some d,.alloc T,ty,pos,aft,gd⟩ Q K):=Nx.mk fun a w hs hw=>by
 unfold ow Oper.wp
 have : (execOp a.eval ⟨some d,.alloc T,ty,pos,aft,gd⟩).run P w = .ok (.value (Pt w.heap.size 0)) (w.alloc (.cells cs.toArray T (0,0))):=by
  simp [execOp,Instr.alloc,lI (T:=T) (desc:=desc) (size:=size) (bytes:=bytes) (zero:=zero),newVar,newRow,hz]
 rw [this,Oper.upon_value]
 exact (k _).go _ _ (hs.put (by simpa using hlt)) (hw.alloc _)
theorem acN {T : TypeId} {x : Operand} {v : Value} {cs : List Value} (hx : ev E x = some v) (hz : v.cells = cs.toArray) (hlt : Nat.blt d n = true)
  (k : ∀ b,Nx n D ((d,Pt b 0) :: E) B G (.blk b (.cells cs.toArray T (0,0)) :: L) K) : Nx n D E B G L (ow P ⟨some d,.box T x,ty,pos,aft,gd⟩ Q K):=Nx.mk fun a w hs hw=>by
 unfold ow Oper.wp
 have : (execOp a.eval ⟨some d,.box T x,ty,pos,aft,gd⟩).run P w = .ok (.value (Pt w.heap.size 0)) (w.alloc (.cells cs.toArray T (0,0))):=by
  simp [execOp,Instr.box,newVar,newRow,hs.ev hx,hz]
 rw [this,Oper.upon_value]
 exact (k _).go _ _ (hs.put (by simpa using hlt)) (hw.alloc _)
theorem qL {T T0 : TypeId} {x y : Operand} {desc : TypeDesc} {size bytes : Nat} {zero v : Value} {b o : Nat} {cs vs cs' : List Value} {L' : List Own} [TI P T desc size bytes zero] (hx : ev E x = some (Pt b o)) (hy : ev E y = some v) (hv : v.cells = vs.toArray)
  (hl : Nat.beq vs.length size = true) (hne : vs.isEmpty = false) (h1 : er vs = true) (hu : UpdO (.blk b (.cells cs.toArray T0 (0,0))) (.blk b (.cells cs'.toArray T0 (0,0))) L L') (hp : PutsR cs o vs cs')
  (k : Nx n D E B G L' K) : Nx n D E B G L (ow P ⟨none,.store T x y,ty,pos,aft,gd⟩ Q K):=Nx.mk fun a w hs hw=>by
 unfold ow Oper.wp
 have hb : w.heap[b]? = some (.cells cs.toArray T0 (0,0)):=hw.own _ hu.mem
 have hst:=iL (P:=P) (o:=o) vs cs cs' 0 w hb (by simpa using hp) h1
 rcases hst with hst | ⟨rfl,_⟩
 ·have hsz : v.cells.size = size:=by rw [hv];simpa using hl
  have : (execOp a.eval ⟨none,.store T x y,ty,pos,aft,gd⟩).run P w = .ok .skip (setBlk w b (.cells cs'.toArray T0 (0,0))):=by
   simp [execOp,hs.ev hx,hs.ev hy,Instr.storeAt,Instr.sureAddr,storeVar,dR (T:=T) (desc:=desc) (size:=size) (bytes:=bytes) (zero:=zero),hsz]
   rw [hv];simp [hst]
  rw [this,Oper.upon_skip]
  exact k.go _ _ hs (hw.setBlk hu)
 ·simp at hne
theorem oX {T T0 : TypeId} {x y : Operand} {desc : TypeDesc} {bytes : Nat} {zero v : Value} {b o : Nat} {cs cs' : List Value} {L' : List Own} [TI P T desc 1 bytes zero] (hx : ev E x = some (Pt b o)) (hy : ev E y = some v) (h1 : v.oneCell' = true)
  (hu : UpdO (.blk b (.cells cs.toArray T0 (0,0))) (.blk b (.cells cs'.toArray T0 (0,0))) L L') (hp : PutsR cs o [v] cs')
  (k : Nx n D E B G L' K) : Nx n D E B G L (ow P ⟨none,.store T x y,ty,pos,aft,gd⟩ Q K) :=
 qL (T:=T) (size:=1) (bytes:=bytes) (zero:=zero) (desc:=desc) hx hy (wR h1) rfl rfl (by simp [er,h1]) hu hp k
def t9 (v : Value) (vc : List Value) : Prop:=v.cells = vc.toArray
def wJ (E : bN) : List (Nat × Operand) → List (Nat × List Value) → Prop
 | [],[]=>True
 | (i,x) :: r,(j,vc) :: s=>i = j ∧ (∃ v,ev E x = some v ∧ t9 v vc) ∧ wJ E r s
 | _,_=>False
def pn (cs : List Value) (off : Nat) (vs : List Value) : List Value:=cs.take off ++ vs ++ cs.drop (off + vs.length)
def jI (place : Nat → Option (Nat × Nat)) (cs : List Value) : List (Nat × List Value) → Option (List Value)
 | []=>some cs
 | (i,vc) :: rest=>match place i with
  | none=>none
  | some (off,size)=>match Nat.beq vc.length size && Nat.ble (off + vc.length) cs.length with
   | true=>jI place (pn cs off vc) rest
   | false=>none
theorem wG (vs : List Value) : ∀ (cs : List Value) (off k : Nat),off + k + vs.length ≤ cs.length →
  ((vs.zipIdx k).foldl (fun (cs : Array Value) (p : Value × Nat)=>cs.setIfInBounds (off + p.2) p.1) cs.toArray) = (cs.take (off + k) ++ vs ++ cs.drop (off + k + vs.length)).toArray:=by
 induction vs with
 | nil=>intro cs off k h;simp
 | cons v vs ih =>
  intro cs off k h
  simp only [List.length_cons] at h
  simp only [List.zipIdx_cons,List.foldl_cons,List.setIfInBounds_toArray]
  rw [ih _ off (k + 1) (by simp;omega)]
  congr 1
  have hlt : off + k < cs.length:=oM
  have h1 : (cs.set (off + k) v).take (off + (k + 1)) = cs.take (off + k) ++ [v]:=by
   apply List.ext_getElem?
   intro j
   rw [List.getElem?_take,List.getElem?_set]
   by_cases hj : j < off + k
   ·rw [if_pos oM,if_neg oM,List.getElem?_append_left (by simp;omega),List.getElem?_take,if_pos hj]
   ·rw [List.getElem?_append_right (by simp;omega)]
    by_cases hj' : j = off + k
    ·subst hj';simp [hlt,show off + k < off + (k + 1) by omega,Nat.min_eq_left (Nat.le_of_lt hlt)]
    ·rw [if_neg oM,List.getElem?_eq_none (by simp;omega)]
  have h2 : (cs.set (off + k) v).drop (off + (k + 1) + vs.length) = cs.drop (off + k + (vs.length + 1)):=by
   rw [List.drop_set,if_pos oM]
   congr 1
   omega
  rw [h1,h2]
  simp
theorem na (place : Nat → Option (Nat × Nat)) : ∀ (ps : List (Nat × Value)) (qs : List (Nat × List Value)) (cs cs' : List Value),ps.length = qs.length → (∀ (i : Nat) (p : Nat × Value) (q : Nat × List Value),ps[i]? = some p → qs[i]? = some q → p.1 = q.1 ∧ t9 p.2 q.2) →
  jI place cs qs = some cs' → Instr.fill place cs.toArray ps = some cs'.toArray
 | [],[],cs,cs',_,_,h=>by simp only [jI,Option.some.injEq] at h;subst h;rfl
 | [],_ :: _,_,_,hl,_,_=>by simp at hl
 | _ :: _,[],_,_,hl,_,_=>by simp at hl
 | (i,v) :: ps,(j,vc) :: qs,cs,cs',hl,hq,h=>by
  obtain ⟨h1,h2⟩:=hq 0 (i,v) (j,vc) rfl rfl
  simp only at h1 h2;subst h1
  have h2 : v.cells = vc.toArray:=h2
  simp only [jI] at h
  simp only [Instr.fill]
  cases hp : place i with
  | none=>simp [hp] at h
  | some q =>
   obtain ⟨off,size⟩:=q
   simp only [hp] at h
   cases hb : Nat.beq vc.length size && Nat.ble (off + vc.length) cs.length with
   | false=>simp [hb] at h
   | true =>
    simp only [hb] at h
    simp only [Bool.and_eq_true] at hb
    have e1 : vc.length = size:=Nat.eq_of_beq_eq_true hb.1
    have e2 : off + vc.length ≤ cs.length:=Nat.le_of_ble_eq_true hb.2
    have hns : ¬ ((decide (v.cells.size ≠ size) || decide (off + v.cells.size > cs.toArray.size)) = true):=by rw [h2];simp [e1];omega
    show (if (decide (v.cells.size ≠ size) || decide (off + v.cells.size > cs.toArray.size)) = true then none else _) = _
    rw [if_neg hns,h2]
    have h5:=wG vc cs off 0 oM
    simp only [Nat.add_zero] at h5
    have h6 : (vc.toArray.zipIdx.foldl (fun (cs : Array Value) (p : Value × Nat)=>cs.setIfInBounds (off + p.2) p.1) cs.toArray) = (pn cs off vc).toArray:=by
     rw [← Array.foldl_toList];simpa [pn] using h5
    have h7 : (vc.toArray.zipIdx.foldl (fun cs x=>match x with | (c,j)=>cs.setIfInBounds (off + j) c) cs.toArray) = (pn cs off vc).toArray:=h6
    rw [h7]
    exact na place ps qs _ cs' (by simpa using hl) (fun k p q hp hq'=>hq (k + 1) p q (by simpa using hp) (by simpa using hq')) h
theorem oL {a : Act} (hs : Sat n D E a) : ∀ {ps : List (Nat × Operand)} {qs : List (Nat × List Value)},wJ E ps qs →
  (ps.map fun (i,x)=>(i,a.eval x)).length = qs.length ∧ ∀ (i : Nat) (p : Nat × Value) (q : Nat × List Value),(ps.map fun (i,x)=>(i,a.eval x))[i]? = some p → qs[i]? = some q → p.1 = q.1 ∧ t9 p.2 q.2
 | [],[],_=>⟨rfl,fun i p q h=>by simp at h⟩
 | [],_ :: _,h=>h.elim
 | _ :: _,[],h=>h.elim
 | (i,x) :: ps,(j,vc) :: qs,⟨h1,⟨v,hv,hc⟩,h3⟩=>by
  obtain ⟨e1,e2⟩:=oL hs h3
  refine ⟨by simpa using e1,fun k p q hp hq=>?_⟩
  cases k with
  | zero =>
   simp only [List.map_cons,List.getElem?_cons_zero,Option.some.injEq] at hp hq
   subst hp hq
   exact ⟨h1,by simp only [hs.ev hv];exact hc⟩
  | succ k=>exact e2 k p q (by simpa using hp) (by simpa using hq)
class BT (P : Program) (T : TypeId) (places : outParam (List (Nat × Nat))) (zs : outParam (List Value)) : Prop where
 run : ∀ (ps : Array (Nat × Value)) (cs : Array Value) (w : World),Instr.fill (fun (i : Nat)=>places[i]?) zs.toArray ps.toList = some cs → (Instr.build T ps).run P w = .ok (.agg cs) w
theorem pu {P : Program} : ∀ (fs : List Field) (tos : List (TypeId × Nat × Nat)),fs.map (fun f=>(f.type,f.offset)) = tos.map (fun x=>(x.1,x.2.1)) → tos.all (fun x=>((P.info? x.1).map (·.size)) == some x.2.2) = true → ∀ w,
  (fs.mapM fun (f : Field)=>(do pure (f.offset,← sizeOf f.type) : Sem (Nat × Nat))).run P w = .ok (tos.map (·.2)) w
 | [],[],_,_,_=>rfl
 | [],_ :: _,h,_,_=>by simp at h
 | _ :: _,[],h,_,_=>by simp at h
 | f :: fs,(T,o,s) :: tos,h,ha,w=>by
  simp only [List.map_cons,List.cons.injEq,Prod.mk.injEq] at h
  obtain ⟨⟨rfl,rfl⟩,h⟩:=h
  simp only [List.all_cons,Bool.and_eq_true,beq_iff_eq] at ha
  have ih:=pu fs tos h ha.2 w
  have hs : (sizeOf f.type).run P w = .ok s w:=by
   cases hi : P.info? f.type with
   | none=>simp [hi] at ha
   | some i=>simp only [hi,Option.map_some,Option.some.injEq] at ha;simp [sizeOf,typeInfo,hi,ha.1]
  rw [List.mapM_cons,Sem.run_bind,Sem.run_bind,hs]
  simp only [Result.andThen_ok,Sem.run_pure,Sem.run_bind,ih,List.map_cons]
theorem BT.mk' {P : Program} {T : TypeId} {size bytes : Nat} {zero : Value} {places : List (Nat × Nat)} {zs : List Value} [TI P T (.struct (cd P T)) size bytes zero] (tos : List (TypeId × Nat × Nat)) (hz : zero.cells = zs.toArray)
  (h1 : (cd P T).toList.map (fun f=>(f.type,f.offset)) = tos.map (fun x=>(x.1,x.2.1))) (h2 : tos.all (fun x=>((P.info? x.1).map (·.size)) == some x.2.2) = true) (hp : tos.map (·.2) = places) : BT P T places zs:=⟨fun ps cs w h=>by
 subst hp
 have h2 : ∀ w,((cd P T).mapM fun (f : Field)=>(do pure (f.offset,← sizeOf f.type) : Sem (Nat × Nat))).run P w = .ok (tos.map (·.2)).toArray w:=fun w=>by
  have:=pu _ tos h1 h2 w
  rw [← Array.toArray_toList (xs:=cd P T),List.mapM_toArray,Sem.run_map,this];rfl
 have h3 : (fun (x : Nat)=>(tos.map (·.2)).toArray[x]?) = (fun (i : Nat)=>(tos.map (·.2))[i]?):=by funext i;simp
 simp only [Instr.build,Sem.run_bind,lI (T:=T) (desc:=.struct (cd P T)) (size:=size) (bytes:=bytes) (zero:=zero),Result.andThen_ok,cF (T:=T) (desc:=.struct (cd P T)) (size:=size) (bytes:=bytes) (zero:=zero),h2,hz,h3,h,Sem.run_pure]⟩
theorem zM {M : World → Prop} {d : Option Nat} {T : TypeId} {ps : List (Nat × Operand)} {qs : List (Nat × List Value)} {places : List (Nat × Nat)} {zs cs : List Value} [h : BT P T places zs] (he : wJ E ps qs) (hf : jI (fun i=>places[i]?) zs qs = some cs) :
  Gives P n D E M ⟨d,.build T ps.toArray,ty,pos,aft,gd⟩ (Ag cs):=Gives.mk fun a w hs _=>by
 obtain ⟨e1,e2⟩:=oL hs he
 have h1:=na (fun i=>places[i]?) _ qs zs cs e1 e2 hf
 have:=h.run (ps.map fun (i,x)=>(i,a.eval x)).toArray cs.toArray w (by simpa using h1)
 simp only [execOp,List.map_toArray,Sem.run_bind]
 rw [this];rfl
def cj (zs : List Value) : Nat → List Value
 | 0=>[]
 | k + 1=>zs ++ cj zs k
theorem f6 (zs : List Value) (k : Nat) : (cj zs k).length = k * zs.length:=by
 induction k with
 | zero=>simp [cj]
 | succ k ih=>simp [cj,ih,Nat.succ_mul,Nat.add_comm]
theorem o5 (zs : List Value) : ∀ (k j : Nat),j < k * zs.length → (cj zs k)[j]? = zs[j % zs.length]?
 | 0,j,h=>by simp at h
 | k + 1,j,h=>by
  simp only [cj]
  by_cases hj : j < zs.length
  ·rw [List.getElem?_append_left hj,Nat.mod_eq_of_lt hj]
  ·rw [List.getElem?_append_right oM,o5 zs k (j - zs.length) (by rw [Nat.succ_mul] at h;omega)]
   rw [← Nat.mod_eq_sub_mod oM]
theorem k5 (zs : List Value) (k : Nat) : (Array.range (k * zs.length)).map (fun j=>zs.toArray[j % zs.toArray.size]!) = (cj zs k).toArray:=by
 apply Array.ext'
 apply List.ext_getElem?
 intro j
 simp only [Array.toList_map,Array.toList_range,List.getElem?_map]
 by_cases hj : j < k * zs.length
 ·have hpos : 0 < zs.length:=Nat.pos_of_ne_zero fun e=>by rw [e] at hj;simp at hj
  have hm : j % zs.length < zs.length:=Nat.mod_lt _ hpos
  rw [List.getElem?_range hj,o5 zs k j hj]
  simp [hm]
 ·rw [List.getElem?_eq_none (by simp;omega),List.getElem?_eq_none (by rw [f6];omega)];rfl
def qe (size : Nat) (i : Nat) : Option (Nat × Nat):=some (i * size,size)
theorem tS {T el : TypeId} {len : Nat} {ps : List (Nat × Operand)} {qs : List (Nat × List Value)} {desc : TypeDesc} {size bytes size' bytes' : Nat} {zero zero' : Value} {zs cs : List Value} [TI P T (.slice el) size' bytes' zero'] [TI P el desc size bytes zero] (hz : zero.cells = zs.toArray)
  (hsz : Nat.beq zs.length size = true) (he : wJ E ps qs) (hf : jI (qe size) (cj zs len) qs = some cs) (hsm : Nat.ble (len * size) 16777216 = true) (hlt : Nat.blt d n = true)
  (k : ∀ b,Nx n D ((d,.slice (some ⟨b,0,none⟩) len len) :: E) B G (.blk b (.cells cs.toArray el (0,0)) :: L) K) : Nx n D E B G L (ow P ⟨some d,.buildSlice T len ps.toArray,ty,pos,aft,gd⟩ Q K):=Nx.mk fun a w hs hw=>by
 obtain ⟨e1,e2⟩:=oL hs he
 have hsz : zs.length = size:=Nat.eq_of_beq_eq_true hsz
 have h1:=na (qe size) _ qs (cj zs len) cs e1 e2 hf
 have hrun : (execOp a.eval ⟨some d,.buildSlice T len ps.toArray,ty,pos,aft,gd⟩).run P w = .ok (.value (.slice (some ⟨w.heap.size,0,none⟩) len len)) (w.alloc (.cells cs.toArray el (0,0))):=by
  have hle : ¬ (len * size > 2 ^ 24):=by have:=Nat.le_of_ble_eq_true hsm;omega
  simp only [execOp,Instr.buildSlice,Sem.run_bind,cF (T:=T) (desc:=.slice el) (size:=size') (bytes:=bytes') (zero:=zero'),Result.andThen_ok,dR (T:=el) (desc:=desc) (size:=size) (bytes:=bytes) (zero:=zero),if_neg hle]
  have h5 : Instr.fill (fun i=>some (i * size,size)) (cj zs len).toArray (Array.map (fun x=>(x.fst,a.eval x.snd)) ps.toArray).toList = some cs.toArray:=by
   have h6 : (Array.map (fun x=>(x.fst,a.eval x.snd)) ps.toArray).toList = ps.map fun (i,x)=>(i,a.eval x):=by simp
   rw [h6];exact h1
  by_cases h0 : len * size = 0
  ·have h3 : (Array.range (len * size)).map (fun x=>(#[] : Array Value)[x % (#[] : Array Value).size]!) = (cj zs len).toArray:=by
    have : (cj zs len).length = 0:=by rw [f6,hsz];exact h0
    rw [List.length_eq_zero_iff.1 this,h0];simp
   simp only [if_pos h0,Sem.run_bind,Sem.run_pure,Result.andThen_ok,h3,h5,newRow,run_newObj,World.alloc_eq]
  ·have h3 : (Array.range (len * size)).map (fun x=>zs.toArray[x % zs.toArray.size]!) = (cj zs len).toArray:=by rw [← hsz];exact k5 zs len
   simp only [if_neg h0,Sem.run_bind,Sem.run_pure,Result.andThen_ok,lI (T:=el) (desc:=desc) (size:=size) (bytes:=bytes) (zero:=zero),hz,h3,h5,newRow,run_newObj,World.alloc_eq]
 unfold ow Oper.wp
 rw [hrun,Oper.upon_value]
 exact (k _).go _ _ (hs.put (by simpa using hlt)) (hw.alloc _)
end
theorem St.conv {B G w x y R} (h : St B G (x :: R) w) (hbk : y.bk = x.bk) (hat : y.at w) : St B G (y :: R) w:=by
 have e : cO (y :: R) = cO (x :: R):=by simp [cO,hbk]
 exact ⟨h.ok,fun z hz=>by rcases List.mem_cons.1 hz with rfl | hz;exact hat;exact h.own z (List.mem_cons_of_mem _ hz),fun b hb=>h.fresh b (e ▸ hb),e ▸ h.nd,h.os,h.tape,h.output,h.size,h.frame⟩
theorem St.addNil {B G w L} (h : St B G L w) (ty : TypeId) (sz : Nat) : St B G (.acc aK ty sz 0 [] :: L) w:=by
 have e : cO (.acc aK ty sz 0 [] :: L) = cO L:=by simp [cO,Own.bk,we]
 exact ⟨h.ok,fun z hz=>by rcases List.mem_cons.1 hz with rfl | hz;exact ⟨by simp,.inl ⟨F,F⟩⟩;exact h.own z hz,fun b hb=>h.fresh b (e ▸ hb),e ▸ h.nd,h.os,h.tape,h.output,h.size,h.frame⟩
theorem St.upd {B G R w w'} {x y : Own} {b : Nat} (h : St B G (x :: R) w) (hx : x.bk = [b]) (hy : y.bk = [b]) (hat : y.at w') (hs : ∀ c,c ≠ b → w'.heap[c]? = w.heap[c]?)
  (ho : w'.os = w.os) (ht : w'.tape = w.tape) (hou : w'.output = w.output) (hsz : w'.heap.size = w.heap.size) : St B G (y :: R) w':=by
 have e : cO (y :: R) = cO (x :: R):=by simp only [cO,List.flatMap_cons,hx,hy]
 have hfr:=h.fresh b (lh.2 ⟨x,List.mem_cons_self,by rw [hx];exact List.mem_singleton.2 F⟩)
 have hnd : b ∉ cO R:=by
  have:=h.nd
  simp only [cO,List.flatMap_cons,hx,List.singleton_append,List.nodup_cons] at this
  exact this.1
 refine ⟨fun c g hc=>?_,fun z hz=>?_,fun c hc=>h.fresh c (e ▸ hc),e ▸ h.nd,ho.trans h.os,ht.trans h.tape,hou.trans h.output,by rw [hsz];exact h.size,fun c hc hW=>?_⟩
 ·obtain ⟨o2,h3,h4⟩:=h.ok c g hc
  have : c ≠ b:=fun e=>by subst e;rw [hfr.1] at hc;cases hc
  exact ⟨o2,by rw [hs c this];exact h3,h4⟩
 ·rcases List.mem_cons.1 hz with rfl | hz
  ·exact hat
  ·refine Own.at_same (h.own z (List.mem_cons_of_mem _ hz)) fun c hc=>hs c fun e=>?_
   have hzb:=lh.2 ⟨z,hz,hc⟩
   subst e
   exact hnd hzb
 ·have : c ≠ b:=fun e=>by
   subst e
   rcases hfr.2 with h3 | h3
   ·omega
   ·exact hW h3
  rw [hs c this];exact h.frame c hc hW
theorem gV.one {w v ty sz n xs} (h : gV w v ty sz n xs) : v.oneCell' = true:=by
 obtain ⟨_,⟨rfl,_⟩ | ⟨b,cap,rest,rfl,_⟩⟩:=h <;> rfl
section
variable {n : Nat} {D : List Deferred} {E : bN} {B : Base} {G : Gh} {L : List Own} {P : Program}
variable {Q : Exit → Act → World → Prop} {K : Act → World → Prop}
variable {d : Nat} {ty : TypeId} {pos : String} {aft : Array Edge} {gd : Option (Nat × Bool)}
theorem Nx.addNil (T : TypeId) (sz : Nat) (h : Nx n D E B G (.acc aK T sz 0 [] :: L) K) : Nx n D E B G L K:=Nx.mk fun a w hs hw=>h.go a w hs (hw.addNil T sz)
theorem Nx.acc {v : Value} {T : TypeId} {sz m : Nat} {xs : List Value} (hm : Own.acc v T sz m xs ∈ L)
  (h : xs.length = m * sz → (v = aK ∧ m = 0 ∨ ∃ b cap,v = .slice (some ⟨b,0,none⟩) m cap ∧ m ≤ cap) → Nx n D E B G L K) : Nx n D E B G L K:=Nx.mk fun a w hs hw=>by
 obtain ⟨h1,h2⟩ : gV w v T sz m xs:=hw.own _ hm
 exact (h h1 (h2.imp id fun ⟨b,cap,rest,e,hc,_⟩=>⟨b,cap,e,hc⟩)).go a w hs hw
def j3 (S : World → Prop) (size : Nat) (src : Value) (m : Nat) (news : List Value) : Prop :=
 (src = aK ∧ m = 0 ∧ news = []) ∨ ∃ b o c,src = .slice (some ⟨b,o,none⟩) m c ∧ news.length = m * size ∧ CellsOf S b o news
theorem kH {S : World → Prop} {size b o m c : Nat} {news : List Value} (hl : Nat.beq news.length (m * size) = true) (h : CellsOf S b o news) : j3 S size (.slice (some ⟨b,o,none⟩) m c) m news:=.inr ⟨b,o,c,rfl,Nat.eq_of_beq_eq_true hl,h⟩
theorem gB {S : World → Prop} {G0 : Gh} {L0 : List Own} [k : Kn S G0 L0] {b m cap : Nat} {T : TypeId} {sz : Nat} {xs : List Value} (hm : Own.acc (.slice (some ⟨b,0,none⟩) m cap) T sz m xs ∈ L0) : CellsOf S b 0 xs:=CellsOf.mk fun i v hv=>CellOf.mk fun w hw=>by
 obtain ⟨B,G,L,_,hL,hst⟩:=k.kn w hw
 obtain ⟨_,⟨h,_⟩ | ⟨b',cap',rest,h,_,_,h2⟩⟩ : gV w _ T sz m xs:=hst.own _ (hL _ hm)
 ·cases h
 ·simp only [Value.slice.injEq,Option.some.injEq,Addr.mk.injEq] at h
  obtain ⟨⟨rfl,_,_⟩,_,_⟩:=h
  simp only [Nat.zero_add]
  refine kz h2 ?_
  rw [List.getElem?_append_left (List.getElem?_eq_some_iff.1 hv).1];exact hv
theorem rq (nl : Nat) : ∀ (r c : Nat),c ≤ 2 * nl + 768 → Builtin.growBy nl r c ≤ 2 * nl + 768
 | 0,c,h=>h
 | r + 1,c,h=>by
  simp only [Builtin.growBy]
  split
  ·exact h
  ·exact rq nl r _ oM
theorem ir (need cap : Nat) (h : cap < need) : Builtin.nextslicecap need cap ≤ 2 * need + 768:=by
 unfold Builtin.nextslicecap
 split
 ·omega
 ·split
  ·omega
  ·exact rq _ _ _ oM
theorem il (zs : List Value) (k : Nat) : Builtin.zeroCells zs.toArray k = (cj zs k).toArray:=by
 unfold Builtin.zeroCells
 have:=k5 zs k
 simpa using this
theorem iV (b o k : Nat) : (⟨b,o,none⟩ : Addr).add k = ⟨b,o + k,none⟩:=by by_cases hi : k = 0 <;> simp [Addr.add,hi]
theorem vA {v src : Value} {m k : Nat} {T el : TypeId} {desc : TypeDesc} {size bytes s1 b1 : Nat} {z1 zero : Value} {zs xs news : List Value} {w : World} [h1' : TI P T (.slice el) s1 b1 z1] [he : TI P el desc size bytes zero]
  (hz : zero.cells = zs.toArray) (hzl : zs.length = size) (hb0 : bytes ≠ 0) (hb : (2 * (m + k) + 768) * bytes ≤ 281474976710656)
  {R : List Own} (hw : St B G (.acc v el size m xs :: R) w) (hsrc : j3 (St B G (.acc v el size m xs :: R)) size src k news) (h1 : er news = true) :
  ∃ v' w',(Builtin.append_ #[T,T] ty #[v,src]).run P w = .ok v' w' ∧ St B G (.acc v' el size (m + k) (xs ++ news) :: R) w':=by
 obtain ⟨hxl,hacc⟩ : gV w v el size m xs:=hw.own _ List.mem_cons_self
 obtain ⟨ie,hi,hsz,hby,hze⟩:=he.inf
 have ht:=h1'.und
 have hsmall : m + k ≤ 281474976710656:=by
  have : (2 * (m + k) + 768) * 1 ≤ (2 * (m + k) + 768) * bytes:=Nat.mul_le_mul_left _ oM
  omega
 have h1s : ∀ u ∈ news,u.oneCell' = true:=by
  clear hsrc
  induction news with
  | nil=>intro u hu;cases hu
  | cons x r ih =>
   simp only [er,Bool.and_eq_true] at h1
   intro u hu
   rcases List.mem_cons.1 hu with rfl | hu
   ·exact h1.1
   ·exact ih h1.2 u hu
 have mk : ∀ nc,m + k ≤ nc → (w.drew.alloc (.cells (xs ++ news ++ cj zs (nc - (m + k))).toArray el)).heap.size = w.heap.size + 1 → news.length = k * size →
   St B G (.acc (.slice (some ⟨w.heap.size,0,none⟩) (m + k) nc) el size (m + k) (xs ++ news) :: R) (w.drew.alloc (.cells (xs ++ news ++ cj zs (nc - (m + k))).toArray el)):=by
  intro nc hnc _ hnl
  have h2:=hw.drew.alloc (.cells (xs ++ news ++ cj zs (nc - (m + k))).toArray el)
  have h3 : St B G (.blk w.drew.heap.size (.cells (xs ++ news ++ cj zs (nc - (m + k))).toArray el) :: R) _:=h2.weaken (.cons_cons _ (List.sublist_cons_self _ _))
  refine h3.conv F ⟨by simp [hxl,hnl,Nat.add_mul],.inr ⟨_,nc,cj zs (nc - (m + k)),F,hnc,?_,h3.own _ List.mem_cons_self⟩⟩
  simp only [List.length_append,hxl,hnl,f6,hzl]
  rw [← Nat.add_mul,← Nat.add_mul];congr 1;omega
 rcases hsrc with ⟨rfl,rfl,rfl⟩ | ⟨sb,so,sc,rfl,hnl,hcs⟩
 · -- nothing is appended
  refine ⟨v,w,?_,by simpa using hw⟩
  rcases hacc with ⟨rfl,rfl⟩ | ⟨b,cap,rest,rfl,hmc,hrl,hblk⟩
  ·simp [Builtin.append_,run_underlying ht,sizeOf,typeInfo,hi,Builtin.lenOf,Builtin.firstCells]
  ·simp [Builtin.append_,run_underlying ht,sizeOf,typeInfo,hi,Builtin.lenOf,Builtin.firstCells,hmc,storeCells]
 ·have hnews : ∀ (w : World),St B G (.acc v el size m xs :: R) w → ∀ j u,news[j]? = some u → w.cell? ((⟨sb,so,none⟩ : Addr).add j) = some u:=fun w hw j u hj=>by
   rw [iV];exact (hcs.go j u hj).go w hw
  rcases hacc with ⟨rfl,rfl⟩ | ⟨b,cap,rest,rfl,hmc,hrl,hblk⟩
  ·have hx0 : xs = []:=by simpa using hxl
   subst hx0
   by_cases hk : k = 0
   ·subst hk
    have hn0 : news = []:=by simpa using hnl
    subst hn0
    refine ⟨aK,w,?_,hw⟩
    simp [Builtin.append_,run_underlying ht,sizeOf,typeInfo,hi,Builtin.lenOf,Builtin.firstCells,loadCells,loadCellsFrom]
   ·have hbb : k * ie.bytes ≤ 281474976710656:=by
     rw [hby]
     have : k * bytes ≤ (2 * (0 + k) + 768) * bytes:=Nat.mul_le_mul_right _ oM
     omega
    have hr:=run_append_nil (P:=P) w T ty el ie zero ht hi hze ⟨sb,so,none⟩ k sc news (by rw [hsz];exact hnl) (hnews w hw) oM oM hbb
    rw [hz,il] at hr
    have:=mk (grownCap w k 0 el) (by simpa using grownCap_ge w k 0 el) (by simp) hnl
    simp only [Nat.zero_add,List.nil_append,List.append_toArray] at this hr ⊢
    exact ⟨_,_,hr,this⟩
  ·by_cases hfit : m + k ≤ cap
   ·have hrest : news.length ≤ rest.length:=by
     have : (m + k) * size ≤ cap * size:=Nat.mul_le_mul_right _ hfit
     simp only [List.length_append,hxl] at hrl
     rw [Nat.add_mul] at this
     omega
    have hr:=run_append_room (P:=P) w T ty el ie ht hi b m cap (xs ++ rest).toArray hblk ⟨sb,so,none⟩ k sc news (by rw [hsz];exact hnl) (hnews w hw) h1s hfit (by rw [hsz,← hxl];simp;exact hrest)
    have hcells : (List.take (m * ie.size) (xs ++ rest) ++ news ++ List.drop (m * ie.size + news.length) (xs ++ rest)) = xs ++ news ++ rest.drop news.length:=by
     rw [hsz,← hxl];simp [List.drop_append]
    simp only [hcells] at hr
    refine ⟨_,_,hr,hw.upd (b:=b) F F ⟨by simp [hxl,hnl,Nat.add_mul],.inr ⟨b,cap,rest.drop news.length,F,hfit,?_,setRow_heap w b _ _ el _ hblk⟩⟩ (fun c hc=>setRow_other w b c _ hc) F F F (by simp)⟩
    simp only [List.length_append,List.length_drop] at *;omega
   ·have hnsc:=ir (m + k) cap oM
    have hroom : Builtin.nextslicecap (m + k) cap * ie.bytes ≤ 281474976710656:=by
     have : Builtin.nextslicecap (m + k) cap * bytes ≤ (2 * (m + k) + 768) * bytes:=Nat.mul_le_mul_right _ hnsc
     rw [hby];omega
    have hold : ∀ j u,xs[j]? = some u → w.cell? ((⟨b,0,none⟩ : Addr).add j) = some u:=fun j u hj=>by
     rw [iV]
     exact ((gB (S:=St B G (.acc (.slice (some ⟨b,0,none⟩) m cap) el size m xs :: R)) (m:=m) (cap:=cap) (T:=el) (sz:=size) (xs:=xs) List.mem_cons_self).go j u hj).go w hw
    have hr:=run_append_grow (P:=P) w T ty el ie zero ht hi hze ⟨b,0,none⟩ m cap xs (by rw [hsz];exact hxl) hold ⟨sb,so,none⟩ k sc news (by rw [hsz];exact hnl) (hnews w hw) oM oM hroom
    rw [hz,il] at hr
    have:=mk (grownCap w (m + k) cap el) (grownCap_ge w (m + k) cap el) (by simp) hnl
    simp only [List.append_toArray] at this hr ⊢
    exact ⟨_,_,hr,this⟩
theorem o3 {v src : Value} {m k : Nat} {s x : Operand} {T el : TypeId} {desc : TypeDesc} {size bytes s1 b1 : Nat} {z1 zero : Value} {zs xs news : List Value} {L' : List Own} [TI P T (.slice el) s1 b1 z1] [TI P el desc size bytes zero]
  (hs : ev E s = some v) (hx : ev E x = some src) (hL : Del (.acc v el size m xs) L L') (hsrc : j3 (St B G L) size src k news) (h1 : er news = true)
  (hz : zero.cells = zs.toArray) (hzl : Nat.beq zs.length size = true) (hb0 : Nat.beq bytes 0 = false) (hb : (2 * (m + k) + 768) * bytes ≤ 281474976710656) (hlt : Nat.blt d n = true)
  (kk : ∀ v',Nx n D ((d,v') :: E) B G (.acc v' el size (m + k) (xs ++ news) :: L') K) :
  Nx n D E B G L (ow P ⟨some d,.call ⟨.builtin .append,[s,x].toArray,[T,T].toArray⟩,ty,pos,aft,gd⟩ Q K):=Nx.mk fun a w hsat hw=>by
 have hw':=hw.perm hL.perm
 have hsrc' : j3 (St B G (.acc v el size m xs :: L')) size src k news:=by
  rcases hsrc with h | ⟨b,o,c,e1,e2,e3⟩
  ·exact .inl h
  ·exact .inr ⟨b,o,c,e1,e2,CellsOf.mk fun i u hu=>CellOf.mk fun w hw=>(e3.go i u hu).go w (hw.perm hL.perm.symm)⟩
 obtain ⟨v',w',hr,hst⟩:=vA (P:=P) (ty:=ty) (T:=T) (el:=el) (desc:=desc) (size:=size) (bytes:=bytes) (s1:=s1) (b1:=b1) (z1:=z1) (zero:=zero)
  hz (Nat.eq_of_beq_eq_true hzl) (fun e=>by subst e;simp at hb0) hb hw' hsrc' h1
 have hrun : (execOp a.eval ⟨some d,.call ⟨.builtin .append,[s,x].toArray,[T,T].toArray⟩,ty,pos,aft,gd⟩).run P w = .ok (.value v') w':=by
  have e1 : ([s,x].toArray.map a.eval) = #[v,src]:=by simp [hsat.ev hs,hsat.ev hx]
  simp only [execOp,resolve,e1,Sem.run_bind,Sem.run_pure,Result.andThen_ok,invoke,builtin,hr]
 unfold ow Oper.wp
 rw [hrun,Oper.upon_value]
 exact (kk v').go _ w' (hsat.put (by simpa using hlt)) hst
theorem rR {src : Value} {k : Nat} {s x : Operand} {T el : TypeId} {desc : TypeDesc} {size bytes s1 b1 : Nat} {z1 zero : Value} {zs news : List Value} [TI P T (.slice el) s1 b1 z1] [TI P el desc size bytes zero]
  (hs : ev E s = some aK) (hx : ev E x = some src) (hsrc : j3 (St B G L) size src k news) (h1 : er news = true)
  (hz : zero.cells = zs.toArray) (hzl : Nat.beq zs.length size = true) (hb0 : Nat.beq bytes 0 = false) (hb : (2 * k + 768) * bytes ≤ 281474976710656) (hlt : Nat.blt d n = true)
  (kk : ∀ v',Nx n D ((d,v') :: E) B G (.acc v' el size k news :: L) K) :
  Nx n D E B G L (ow P ⟨some d,.call ⟨.builtin .append,[s,x].toArray,[T,T].toArray⟩,ty,pos,aft,gd⟩ Q K):=by
 refine Nx.addNil el size (o3 (m:=0) (xs:=[]) hs hx .here ?_ h1 hz hzl hb0 (by simpa using hb) hlt (by simpa using kk))
 rcases hsrc with h | ⟨b,o,c,e1,e2,e3⟩
 ·exact .inl h
 ·exact .inr ⟨b,o,c,e1,e2,CellsOf.mk fun i u hu=>CellOf.mk fun w hw=>(e3.go i u hu).go w (hw.weaken (List.sublist_cons_self _ _))⟩
def cE (l : adB) : List Value:=l.map fun c=>.int .u8 c.toNat
theorem vL (l : adB) : ∀ acc : adB,(l.map fun c=>((c.toNat : Nat) : Int)).foldl (fun r n=>r.push (UInt8.ofNat n.toNat)) (ByteArray.mk acc.toArray) = ByteArray.mk (acc ++ l).toArray:=by
 induction l with
 | nil=>intro acc;simp
 | cons c l ih =>
  intro acc
  simp only [List.map_cons,List.foldl_cons]
  have : (ByteArray.mk acc.toArray).push (UInt8.ofNat ((c.toNat : Int).toNat)) = ByteArray.mk (acc ++ [c]).toArray:=by
   apply ByteArray.ext
   simp [ByteArray.push]
  rw [this,ih]
  simp
theorem zk {M : World → Prop} {src : Value} {l : adB} {m : Nat} (hsrc : j3 M 1 src m (cE l)) (w : World) (hw : M w) : (Conv.bytesToString src).run P w = .ok (S l) w:=by
 rcases hsrc with ⟨rfl,rfl,h⟩ | ⟨b,o,c,rfl,hl,hc⟩
 ·have : l = []:=by simpa [cE] using h
  subst this;rfl
 ·have h1:=mz (P:=P) hc w hw
  have h2 : (cE l) = ((l.map fun c=>((c.toNat : Nat) : Int)).map (Value.int .u8)):=by simp [cE]
  rw [hl,Nat.mul_one,h2] at h1
  rw [run_bytesToString w _ m c _ h1]
  have h3:=vL l []
  simp only [List.nil_append] at h3
  exact congrArg (fun s=>Result.ok (Value.string s) w) h3
theorem acw {M : World → Prop} {d : Option Nat} {x : Operand} {T T' el : TypeId} {s1 b1 s2 b2 s3 b3 : Nat} {z1 z2 z3 src : Value} {l : adB} {m : Nat} [TI P T (.slice el) s1 b1 z1] [TI P T' .string s2 b2 z2] [TI P el (.int .u8) s3 b3 z3]
  (hx : ev E x = some src) (hsrc : j3 M 1 src m (cE l)) : Gives P n D E M ⟨d,.convert T T' x,ty,pos,aft,gd⟩ (S l):=Gives.mk fun a w hs hw=>by
 have h1 : (convert T T' src).run P w = (Conv.bytesToString src).run P w:=by
  rcases hsrc with ⟨rfl,_,_⟩ | ⟨b,o,c,rfl,_,_⟩ <;>
  simp [convert,cF (T:=T) (desc:=.slice el) (size:=s1) (bytes:=b1) (zero:=z1),cF (T:=T') (desc:=.string) (size:=s2) (bytes:=b2) (zero:=z2),cF (T:=el) (desc:=.int .u8) (size:=s3) (bytes:=b3) (zero:=z3)]
 simp only [execOp,hs.ev hx,Sem.run_bind,h1,zk hsrc w hw,Result.andThen_ok,Sem.run_pure]
def aT (G : Gh) (v : Value) (sz m : Nat) (xs : List Value) : Prop :=
 xs.length = m * sz ∧ ((v = aK ∧ m = 0) ∨ ∃ b o cap,v = .slice (some ⟨b,o,none⟩) m cap ∧ m ≤ cap ∧ bT G b o xs)
theorem aT.mono {G G' : Gh} {v : Value} {sz m : Nat} {xs : List Value} (h : aT G v sz m xs) (hl : Gh.le G G') : aT G' v sz m xs :=
 ⟨h.1,h.2.imp id fun ⟨b,o,cap,e,hc,hs⟩=>⟨b,o,cap,e,hc,hs.mono hl⟩⟩
theorem aT.one {G : Gh} {v : Value} {sz m : Nat} {xs : List Value} (h : aT G v sz m xs) : v.oneCell' = true:=by
 obtain ⟨_,⟨rfl,_⟩ | ⟨b,o,cap,rfl,_⟩⟩:=h <;> rfl
theorem aT.src {S : World → Prop} {G0 : Gh} {L0 : List Own} [Kn S G0 L0] {v : Value} {sz m : Nat} {xs : List Value} (h : aT G0 v sz m xs) : j3 S sz v m xs:=by
 obtain ⟨h1,⟨rfl,rfl⟩ | ⟨b,o,cap,rfl,_,h2⟩⟩:=h
 ·exact .inl ⟨F,F,by simpa using h1⟩
 ·exact .inr ⟨b,o,cap,F,h1,eG h2⟩
theorem eY {M : World → Prop} {G0 : Gh} {d : Option Nat} {x : Operand} {T el : TypeId} {size bytes : Nat} {zero v : Value} {sz m : Nat} {xs : List Value} [TI P T (.slice el) size bytes zero] (hx : ev E x = some v) (hm : aT G0 v sz m xs) :
  Gives P n D E M ⟨d,.call ⟨.builtin .len,[x].toArray,[T].toArray⟩,ty,pos,aft,gd⟩ (I m):=by
 obtain ⟨h1,⟨rfl,rfl⟩ | ⟨b,o,cap,rfl,_,h2⟩⟩:=hm
 ·exact af (T:=T) (el:=el) (size:=size) (bytes:=bytes) (zero:=zero) hx
 ·exact af (T:=T) (el:=el) (size:=size) (bytes:=bytes) (zero:=zero) hx
theorem St.shutP {B G w b cs ty fr R} (xs : List Value) (h : St B G (.blk b (.cells cs ty fr) :: R) w) (hx : ∃ rest,cs = (xs ++ rest).toArray) :
  ∃ G',Gh.le G G' ∧ St B G' R w ∧ bT G' b 0 xs:=by
 have hfr:=h.fresh b (by simp [cO,Own.bk])
 have hnd:=h.nd
 simp only [cO,List.flatMap_cons,Own.bk,List.singleton_append,List.nodup_cons] at hnd
 refine ⟨fun c=>if c = b then some (.pre xs) else G c,fun c g hc=>?_,?_,⟨xs,by simp,fun i v hv=>by simpa using hv⟩⟩
 ·have : c ≠ b:=fun e=>by subst e;rw [hfr.1] at hc;cases hc
  simp [this,hc]
 ·refine ⟨fun c g hc=>?_,fun x hx'=>h.own x (List.mem_cons_of_mem _ hx'),fun c hc=>?_,hnd.2,h.os,h.tape,h.output,h.size,fun c hc hW=>?_⟩
  ·by_cases hcb : c = b
   ·subst hcb
    simp only [↓reduceIte,Option.some.injEq] at hc
    subst hc
    exact ⟨_,h.own _ List.mem_cons_self,hx⟩
   ·simp only [if_neg hcb] at hc
    exact h.ok c g hc
  ·have hcb : c ≠ b:=fun e=>by subst e;exact hnd.1 hc
   have:=h.fresh c (by simp only [cO,List.flatMap_cons,Own.bk,List.singleton_append];exact List.mem_cons_of_mem _ hc)
   simp [hcb,this]
  ·have hcb : c ≠ b:=fun e=>by
    subst e
    rcases hfr.2 with h3 | h3
    ·omega
    ·exact hW h3
   simp only [if_neg hcb]
   exact h.frame c hc hW
theorem Nx.sealB {b : Nat} {cs : List Value} {T : TypeId} {fr : Nat × Nat} {L' : List Own} (hL : Del (.blk b (.cells cs.toArray T fr)) L L') (h : ∀ G',Gh.le G G' → bT G' b 0 cs → Nx n D E B G' L' K) : Nx n D E B G L K:=Nx.mk fun a w hs hw=>by
 obtain ⟨G',h1,h2,h3⟩:=(hw.perm hL.perm).shutP cs ⟨[],by simp⟩
 exact (h G' h1 h3).go a w hs h2
theorem Nx.sealA {v : Value} {T : TypeId} {sz m : Nat} {xs : List Value} {L' : List Own} (hL : Del (.acc v T sz m xs) L L') (h : ∀ G',Gh.le G G' → aT G' v sz m xs → Nx n D E B G' L' K) : Nx n D E B G L K:=Nx.mk fun a w hs hw=>by
 have hw:=hw.perm hL.perm
 obtain ⟨h1,⟨rfl,rfl⟩ | ⟨b,cap,rest,rfl,hc,hl,hb⟩⟩ : gV w v T sz m xs:=hw.own _ List.mem_cons_self
 ·exact (h G (Gh.le.refl G) ⟨h1,.inl ⟨F,F⟩⟩).go a w hs (hw.weaken (List.sublist_cons_self _ _))
 ·obtain ⟨G',h2,h3,h4⟩:=St.shutP xs (hw.conv (y:=.blk b (.cells (xs ++ rest).toArray T (0,0))) rfl hb) ⟨rest,rfl⟩
  exact (h G' h2 ⟨h1,.inr ⟨b,0,cap,F,hc,h4⟩⟩).go a w hs h3
end
def aa (n m : Nat) : Array Bool:=((List.range n).map fun i=>m.testBit i).toArray
@[simp] theorem aR (v : Value) : gJ [v] = v:=rfl
theorem gu (u v : Value) : gJ [u,v] = Tu [u,v]:=rfl
theorem bE (u v x : Value) : gJ [u,v,x] = Tu [u,v,x]:=rfl
def bt (l : adB) (i : Nat) : Nat:=(l.getD i 0).toNat
def u8 (a : Int) : UInt8:=UInt8.ofNat (a % 256).toNat
theorem mr (l : adB) (i : Nat) : bt l i < 256:=(l.getD i 0).toNat_lt
theorem r5 (l : adB) (i : Nat) : -9223372036854775808 ≤ ((bt l i : Nat) : Int) ∧ ((bt l i : Nat) : Int) ≤ 9223372036854775807:=by have:=mr l i;omega
theorem uq (a : Int) : IntKind.u8.wrap a = ((u8 a).toNat : Int):=by
 have h : 0 ≤ a % 256 ∧ a % 256 < 256:=⟨Int.emod_nonneg _ dC,Int.emod_lt_of_pos _ dC⟩
 have h2 : (u8 a).toNat = (a % 256).toNat:=by
  unfold u8;rw [UInt8.toNat_ofNat'];exact Nat.mod_eq_of_lt oM
 rw [h2,Int.toNat_of_nonneg h.1]
 simp [IntKind.wrap,IntKind.bits,IntKind.signed]
@[simp] theorem adc (c : UInt8) : u8 (c.toNat : Int) = c:=by
 unfold u8
 have:=c.toNat_lt
 have h : (((c.toNat : Nat) : Int) % 256).toNat = c.toNat:=oM
 rw [h];simp
theorem jc {a : Int} (h : 0 ≤ a ∧ a ≤ 255) : ((u8 a).toNat : Int) = a:=by
 unfold u8;rw [UInt8.toNat_ofNat',Nat.mod_eq_of_lt oM];omega
inductive LF (place : Nat → Option (Nat × Nat)) : List Value → List (Nat × List Value) → List Value → Prop where
 | nil {cs} : LF place cs [] cs
 | cons {i vc off size rest cs cs1 cs2} : place i = some (off,size) → Nat.beq vc.length size = true → PutsR cs off vc cs1 → LF place cs1 rest cs2 → LF place cs ((i,vc) :: rest) cs2
section
variable {B : Base} {G : Gh} {L : List Own} {K : Act → World → Prop} {Q : Exit → Act → World → Prop}
variable {P : Program} {n : Nat} {D : List Deferred} {E : bN} {M : World → Prop} {d : Option Nat} {ty : TypeId} {pos : String} {aft : Array Edge} {gd : Option (Nat × Bool)}
theorem zD {T : TypeId} {x i : Operand} {size bytes : Nat} {zero : Value} {k : IntKind} {m : Nat} {l : adB} [TI P T .string size bytes zero] (hx : ev E x = some (S l)) (hi : ev E i = some (.int k (m : Int))) (h : m < l.length) :
  Gives P n D E M ⟨d,.index T x i,ty,pos,aft,gd⟩ (U8 (bt l m)):=by
 have : bt l m = (l[m]'h).toNat:=by simp [bt,List.getD,List.getElem?_eq_getElem h]
 rw [this]
 exact aa3 hx hi oM (by simp [List.getElem?_eq_getElem h])
theorem zE {T : TypeId} {x i : Operand} {size bytes : Nat} {zero : Value} {k : IntKind} {m : Int} {l : adB} [TI P T .string size bytes zero] (hx : ev E x = some (S l)) (hi : ev E i = some (.int k m)) (h : 0 ≤ m ∧ m < l.length) :
  Gives P n D E M ⟨d,.index T x i,ty,pos,aft,gd⟩ (U8 (bt l m.toNat)) :=
 zD hx (by rw [Int.toNat_of_nonneg h.1];exact hi) oM
theorem zK {T T' : TypeId} {x : Operand} {size bytes size' bytes' : Nat} {zero zero' : Value} {a : Int} [TI P T (.int .i64) size bytes zero] [TI P T' (.int .u8) size' bytes' zero'] (hx : ev E x = some (I a)) :
  Gives P n D E M ⟨d,.convert T T' x,ty,pos,aft,gd⟩ (U8 (u8 a).toNat):=by rw [← uq];exact abf hx
inductive BL : List Value → adB → Prop where
 | nil : BL [] []
 | cons {c vs l} : BL vs l → BL (.int .u8 (UInt8.toNat c) :: vs) (c :: l)
 | bt {s : adB} {i : Nat} {vs l} : BL vs l → BL (.int .u8 (bt s i) :: vs) (u8 (bt s i) :: l)
 | lit {k : Nat} {vs l} : Nat.blt k 256 = true → BL vs l → BL (.int .u8 (Int.ofNat k) :: vs) (u8 k :: l)
 | of {l} : BL (cE l) l
 | ap {l m : adB} {vs} : BL vs m → BL (cE l ++ vs) (l ++ m)
theorem BL.eq {vs : List Value} {l : adB} (h : BL vs l) : vs = cE l:=by
  induction h with
  | nil=>rfl
  | cons _ ih=>simp [cE,ih]
  | bt _ ih=>rename_i s i _ _ _;have:=mr s i;simp [cE,ih,jc (a:=(Go.E.bt s i : Nat)) oM]
  | lit hk _ ih => rename_i k _ _ _; have : k < 256 := by simpa using hk
                   have h2:=jc (a:=(k : Nat)) oM
                   simp only [cE,List.map_cons,h2];rw [ih];rfl
  | of=>rfl
  | ap _ ih=>rw [ih];simp [cE]
theorem abi {x : Operand} {T T' el : TypeId} {s1 b1 s2 b2 s3 b3 : Nat} {z1 z2 z3 src : Value} {l : adB} {vs : List Value} {m : Nat} [TI P T (.slice el) s1 b1 z1] [TI P T' .string s2 b2 z2] [TI P el (.int .u8) s3 b3 z3]
  (hx : ev E x = some src) (hsrc : j3 M 1 src m vs) (hb : BL vs l) : Gives P n D E M ⟨d,.convert T T' x,ty,pos,aft,gd⟩ (S l):=by
 rw [hb.eq] at hsrc;exact acw hx hsrc
end
def kT : List Value → Option (List Value)
 | []=>some []
 | x :: r=>match kT r with | some l=>some (x :: l) | none=>none
theorem ky : ∀ {l l' : List Value},kT l = some l' → l = l'
 | [],l',h=>by simpa [kT] using h
 | x :: r,l',h=>by
  unfold kT at h
  cases hr : kT r with
  | none=>rw [hr] at h;cases h
  | some l=>rw [hr] at h;simp only [Option.some.injEq] at h;rw [← h,ky hr]
def pU : Option (List Value) → Option (List Value)
 | some l=>kT l
 | none=>none
theorem rK {o : Option (List Value)} {l : List Value} (h : pU o = some l) : o = some l:=by
 cases o with
 | none=>cases h
 | some x=>rw [ky h]
def eP : Value → Option (List Value)
 | .agg cs=>kT cs.toList
 | v=>some [v]
theorem eV {v : Value} {l : List Value} (h : eP v = some l) : v.cells = l.toArray:=by
 unfold eP at h
 split at h
 ·rename_i cs;rw [← ky h];simp [Value.cells]
 ·rename_i hv;simp only [Option.some.injEq] at h;subst h;unfold Value.cells;split
  ·rename_i cs;exact absurd F (hv cs)
  ·rfl
def rA (E : bN) : List (Nat × Operand) → Option (List (Nat × List Value))
 | []=>some []
 | (i,x) :: r=>match ev E x with
  | none=>none
  | some v=>match eP v with
   | none=>none
   | some vc=>match rA E r with
    | none=>none
    | some s=>some ((i,vc) :: s)
theorem th {E : bN} : ∀ {ps : List (Nat × Operand)} {qs : List (Nat × List Value)},rA E ps = some qs → wJ E ps qs
 | [],qs,h=>by simp only [rA,Option.some.injEq] at h;subst h;trivial
 | (i,x) :: r,qs,h=>by
  unfold rA at h
  cases hx : ev E x with
  | none=>rw [hx] at h;cases h
  | some v =>
   cases hv : eP v with
   | none=>simp only [hx,hv] at h;cases h
   | some vc =>
    cases hr : rA E r with
    | none=>simp only [hx,hv,hr] at h;cases h
    | some s =>
     simp only [hx,hv,hr,Option.some.injEq] at h
     subst h
     exact ⟨F,⟨v,hx,eV hv⟩,th hr⟩
def hC : List Value → Nat → List Value → Option (List Value)
 | cs,0,[]=>some cs
 | _ :: cs,0,v :: vs=>match hC cs 0 vs with | some r=>some (v :: r) | none=>none
 | x :: cs,n + 1,v :: vs=>match hC cs n (v :: vs) with | some r=>some (x :: r) | none=>none
 | _,_,_=>none
theorem nF : ∀ {cs : List Value} {o : Nat} {vs cs' : List Value},hC cs o vs = some cs' → PutsR cs o vs cs'
 | cs,0,[],cs',h=>by simp only [hC,Option.some.injEq] at h;subst h;exact .nil
 | _ :: cs,0,v :: vs,cs',h=>by
  unfold hC at h
  cases hr : hC cs 0 vs with
  | none=>rw [hr] at h;cases h
  | some r=>rw [hr] at h;simp only [Option.some.injEq] at h;subst h;exact .here (nF hr)
 | _ :: cs,n + 1,v :: vs,cs',h=>by
  unfold hC at h
  cases hr : hC cs n (v :: vs) with
  | none=>rw [hr] at h;cases h
  | some r=>rw [hr] at h;simp only [Option.some.injEq] at h;subst h;exact .there (nF hr)
 | [],n + 1,v :: vs,cs',h=>by simp [hC] at h
 | [],0,v :: vs,cs',h=>by simp [hC] at h
 | cs,n + 1,[],cs',h=>by cases cs <;> simp [hC] at h
class BlkI (L : List Own) (b : Nat) (cs : outParam (List Value)) (T0 : outParam TypeId) (fr : outParam (Nat × Nat)) : Prop where
 mem : Own.blk b (.cells cs.toArray T0 fr) ∈ L
instance {b cs T0 fr r} : BlkI (.blk b (.cells (List.toArray cs) T0 fr) :: r) b cs T0 fr:=⟨.head _⟩
instance {b cs T0 fr z r} [h : BlkI r b cs T0 fr] : BlkI (z :: r) b cs T0 fr:=⟨.tail _ h.mem⟩
class AccI (L : List Own) (v : Value) (T : outParam TypeId) (sz m : outParam Nat) (xs : outParam (List Value)) (L' : outParam (List Own)) : Prop where
 del : Del (.acc v T sz m xs) L L'
instance {v T sz m xs r} : AccI (.acc v T sz m xs :: r) v T sz m xs r:=⟨.here⟩
instance {v T sz m xs z r r'} [h : AccI r v T sz m xs r'] : AccI (z :: r) v T sz m xs (z :: r'):=⟨.there h.del⟩
class UpdI (b : Nat) (cs' : List Value) (L : List Own) (cs : outParam (List Value)) (T0 : outParam TypeId) (L' : outParam (List Own)) : Prop where
 upd : UpdO (.blk b (.cells cs.toArray T0 (0,0))) (.blk b (.cells cs'.toArray T0 (0,0))) L L'
instance {b cs T0 cs' r} : UpdI b cs' (.blk b (.cells (List.toArray cs) T0 (0,0)) :: r) cs T0 (.blk b (.cells (List.toArray cs') T0 (0,0)) :: r):=⟨.here⟩
instance {b cs T0 cs' z r r'} [h : UpdI b cs' r cs T0 r'] : UpdI b cs' (z :: r) cs T0 (z :: r'):=⟨.there h.upd⟩
section
variable {B : Base} {G : Gh} {L : List Own} {K : Act → World → Prop} {Q : Exit → Act → World → Prop}
variable {P : Program} {n : Nat} {D : List Deferred} {E : bN} {M : World → Prop} {d : Option Nat} {ty : TypeId} {pos : String} {aft : Array Edge} {gd : Option (Nat × Bool)} {dd : Nat}
theorem adq {T : TypeId} {desc : TypeDesc} {size bytes : Nat} {zero : Value} {cs : List Value} [TI P T desc size bytes zero] (hz : eP zero = some cs) (hlt : Nat.blt dd n = true)
  (k : ∀ b,Nx n D ((dd,Pt b 0) :: E) B G (.blk b (.cells cs.toArray T (0,0)) :: L) K) : Nx n D E B G L (ow P ⟨some dd,.alloc T,ty,pos,aft,gd⟩ Q K):=ve (eV hz) hlt k
theorem adp {T : TypeId} {x : Operand} {v : Value} {cs : List Value} (hx : ev E x = some v) (hz : eP v = some cs) (hlt : Nat.blt dd n = true)
  (k : ∀ b,Nx n D ((dd,Pt b 0) :: E) B G (.blk b (.cells cs.toArray T (0,0)) :: L) K) : Nx n D E B G L (ow P ⟨some dd,.box T x,ty,pos,aft,gd⟩ Q K):=acN hx (eV hz) hlt k
theorem acC {T T0 : TypeId} {x y : Operand} {desc : TypeDesc} {bytes : Nat} {zero v : Value} {b o : Nat} {cs cs' : List Value} {fr : Nat × Nat} {L' : List Own} [TI P T desc 1 bytes zero] [BlkI L b cs T0 fr] [hu : UpdI b cs' L cs T0 L'] (hx : ev E x = some (Pt b o)) (hy : ev E y = some v) (h1 : v.oneCell' = true)
  (hp : hC cs o [v] = some cs')
  (k : Nx n D E B G L' K) : Nx n D E B G L (ow P ⟨none,.store T x y,ty,pos,aft,gd⟩ Q K):=oX hx hy h1 hu.upd (nF hp) k
theorem acB {T T0 : TypeId} {x y : Operand} {desc : TypeDesc} {size bytes : Nat} {zero : Value} {b o : Nat} {cs vs cs' : List Value} {fr : Nat × Nat} {L' : List Own} [TI P T desc size bytes zero] [BlkI L b cs T0 fr] [hu : UpdI b cs' L cs T0 L'] (hx : ev E x = some (Pt b o)) (hy : ev E y = some (Ag vs)) (hl : Nat.beq vs.length size = true) (hne : vs.isEmpty = false) (h1 : er vs = true)
  (hp : hC cs o vs = some cs')
  (k : Nx n D E B G L' K) : Nx n D E B G L (ow P ⟨none,.store T x y,ty,pos,aft,gd⟩ Q K):=qL hx hy rfl hl hne h1 hu.upd (nF hp) k
theorem acM {T el : TypeId} {len : Nat} {ps : List (Nat × Operand)} {qs : List (Nat × List Value)} {desc : TypeDesc} {size bytes size' bytes' : Nat} {zero zero' : Value} {zs cs : List Value} [TI P T (.slice el) size' bytes' zero'] [TI P el desc size bytes zero] (hz : eP zero = some zs)
  (hsz : Nat.beq zs.length size = true) (hsm : Nat.ble (len * size) 16777216 = true) (hlt : Nat.blt dd n = true) (he : rA E ps = some qs) (hf : pU (jI (qe size) (cj zs len) qs) = some cs)
  (k : ∀ b,Nx n D ((dd,.slice (some ⟨b,0,none⟩) len len) :: E) B G (.blk b (.cells cs.toArray el (0,0)) :: L) K) : Nx n D E B G L (ow P ⟨some dd,.buildSlice T len ps.toArray,ty,pos,aft,gd⟩ Q K) :=
 tS (eV hz) hsz (th he) (rK hf) hsm hlt k
theorem ay {T : TypeId} {ps : List (Nat × Operand)} {qs : List (Nat × List Value)} {places : List (Nat × Nat)} {zs cs : List Value} [h : BT P T places zs] (he : rA E ps = some qs) (hf : pU (jI (fun i=>places[i]?) zs qs) = some cs) :
  Gives P n D E M ⟨d,.build T ps.toArray,ty,pos,aft,gd⟩ (Ag cs):=zM (th he) (rK hf)
theorem aX {T T0 : TypeId} {x : Operand} {desc : TypeDesc} {size bytes : Nat} {zero : Value} {b o : Nat} {v : Value} {G0 : Gh} {L0 : List Own} {cs : List Value} {fr : Nat × Nat} [TI P T desc size bytes zero] [Kn M G0 L0] [h : BlkI L0 b cs T0 fr] (hx : ev E x = some (Pt b o)) (ha : dJ desc = false) (hc : cs[o]? = some v) :
  Gives P n D E M ⟨d,.load T x,ty,pos,aft,gd⟩ v:=f8 hx ha (by have:=(en (S:=M) h.mem).go o v hc;simpa using this)
def lE (cs : List Value) (o k : Nat) : Option (List Value):=kT ((cs.drop o).take k)
theorem CellsOf.take {S : World → Prop} {b o k o' : Nat} {cs vs : List Value} (h : CellsOf S b o cs) (e : lE cs o' k = some vs) : CellsOf S b (o + o') vs:=CellsOf.mk fun i u hu=>by
 have e1:=ky e
 subst e1
 have hi : i < k:=by
  rcases Nat.lt_or_ge i k with h1 | h1
  ·exact h1
  ·rw [List.getElem?_take] at hu;simp [Nat.not_lt.2 h1] at hu
 rw [List.getElem?_take_of_lt hi,List.getElem?_drop] at hu
 have:=h.go (o' + i) u hu
 rwa [← Nat.add_assoc] at this
theorem bP {T T0 : TypeId} {x : Operand} {desc : TypeDesc} {size bytes : Nat} {zero : Value} {b o : Nat} {vs : List Value} {G0 : Gh} {L0 : List Own} {cs : List Value} {fr : Nat × Nat} [TI P T desc size bytes zero] [Kn M G0 L0] [h : BlkI L0 b cs T0 fr] (hx : ev E x = some (Pt b o)) (ha : dJ desc = true) (hc : lE cs o size = some vs) (hl : Nat.beq vs.length size = true) :
  Gives P n D E M ⟨d,.load T x,ty,pos,aft,gd⟩ (Ag vs):=j6 hx ha (Nat.eq_of_beq_eq_true hl) (by have:=(en (S:=M) h.mem).take hc;simpa using this)
theorem aj {T : TypeId} {x : Operand} {desc : TypeDesc} {size bytes : Nat} {zero : Value} {b o o' i : Nat} {v : Value} {G0 : Gh} {L0 : List Own} {cs : List Value} [TI P T desc size bytes zero] [Kn M G0 L0] (hx : ev E x = some (Pt b o)) (ha : dJ desc = false) (hs : bT G0 b o' cs) (ho : o = o' + i) (hc : cs[i]? = some v) :
  Gives P n D E M ⟨d,.load T x,ty,pos,aft,gd⟩ v:=f8 hx ha (by subst ho;exact (eG hs).go i v hc)
theorem gU {x : Operand} {T T' el T0 : TypeId} {s1 b1 s2 b2 s3 b3 b m c : Nat} {z1 z2 z3 : Value} {l : adB} {G0 : Gh} {L0 : List Own} {cs : List Value} {fr : Nat × Nat} [TI P T (.slice el) s1 b1 z1] [TI P T' .string s2 b2 z2] [TI P el (.int .u8) s3 b3 z3] [Kn M G0 L0] [h : BlkI L0 b cs T0 fr]
  (hx : ev E x = some (.slice (some ⟨b,0,none⟩) m c)) (hl : Nat.beq cs.length (m * 1) = true) (hb : BL cs l) : Gives P n D E M ⟨d,.convert T T' x,ty,pos,aft,gd⟩ (S l) :=
 abi (s1:=s1) (b1:=b1) (z1:=z1) (s2:=s2) (b2:=b2) (z2:=z2) (s3:=s3) (b3:=b3) (z3:=z3) (el:=el) hx (kH hl (en h.mem)) hb
theorem v6 {v : Value} {m k b c : Nat} {s x : Operand} {T el T0 : TypeId} {desc : TypeDesc} {size bytes s1 b1 : Nat} {z1 zero : Value} {zs xs news : List Value} {fr : Nat × Nat} {L' : List Own} [TI P T (.slice el) s1 b1 z1] [TI P el desc size bytes zero] [ha : AccI L v el size m xs L'] [hb' : BlkI L b news T0 fr]
  (hs : ev E s = some v) (hx : ev E x = some (.slice (some ⟨b,0,none⟩) k c)) (hl : Nat.beq news.length (k * size) = true) (h1 : er news = true)
  (hz : eP zero = some zs) (hzl : Nat.beq zs.length size = true) (hb0 : Nat.beq bytes 0 = false) (hlt : Nat.blt dd n = true) (hb : (2 * (m + k) + 768) * bytes ≤ 281474976710656)
  (kk : ∀ v',Nx n D ((dd,v') :: E) B G (.acc v' el size (m + k) (xs ++ news) :: L') K) :
  Nx n D E B G L (ow P ⟨some dd,.call ⟨.builtin .append,[s,x].toArray,[T,T].toArray⟩,ty,pos,aft,gd⟩ Q K) :=
 o3 hs hx ha.del (kH hl (en hb'.mem)) h1 (eV hz) hzl hb0 hb hlt kk
end
structure Tbl where
 mi : Nat
 mu : Nat
 mb : Nat
 ms : Nat
 mp : Nat
 fl : List (Nat × List (Bool × Nat × Nat))
def iS : List (Nat × List (Bool × Nat × Nat)) → Nat → Nat → Option (Bool × Nat × Nat)
 | [],_,_=>none
 | (T,fs) :: r,U,f=>match Nat.beq T U with
  | true=>fs[f]?
  | false=>iS r U f
class Tab (P : Program) (t : Tbl) : Prop where
 hi : ∀ T,t.mi.testBit T = true → ∃ s b z,TI P T (.int .i64) s b z
 hu : ∀ T,t.mu.testBit T = true → ∃ s b z,TI P T (.int .u8) s b z
 hb : ∀ T,t.mb.testBit T = true → ∃ s b z,TI P T .bool s b z
 hs : ∀ T,t.ms.testBit T = true → ∃ s b z,TI P T .string s b z
 hp : ∀ T,t.mp.testBit T = true → ∃ e s b z,TI P T (.pointer e) s b z
 hf : ∀ T f a o s,iS t.fl T f = some (a,o,s) → FV P T f a o s ∧ FA P T f o
def isD (P : Program) (ok : TypeDesc → Bool) (T : Nat) : Bool :=
 match P.underlying T with
 | some d=>match P.info? T with
  | some i=>match i.zero with
   | some _=>ok d
   | none=>false
  | none=>false
 | none=>false
theorem xQ {P : Program} {ok : TypeDesc → Bool} {T : Nat} (h : isD P ok T = true) : ∃ d s b z,ok d = true ∧ TI P T d s b z:=by
 unfold isD at h
 cases hu : P.underlying T with
 | none=>rw [hu] at h;cases h
 | some d =>
  cases hi : P.info? T with
  | none=>rw [hu,hi] at h;cases h
  | some i =>
   cases hz : i.zero with
   | none=>simp only [hu,hi,hz] at h;cases h
   | some z=>simp only [hu,hi,hz] at h;exact ⟨d,i.size,i.bytes,z,h,hu,i,hi,F,F,hz⟩
def sS (P : Program) (m : Nat) (ok : TypeDesc → Bool) (N : Nat) : Bool:=Nat.blt m (2 ^ N) && (List.range N).all fun T=>!m.testBit T || isD P ok T
theorem kq {P : Program} {m N : Nat} {ok : TypeDesc → Bool} (h : sS P m ok N = true) (T : Nat) (hT : m.testBit T = true) : ∃ d s b z,ok d = true ∧ TI P T d s b z:=by
 simp only [sS,Bool.and_eq_true,List.all_eq_true,List.mem_range,Bool.or_eq_true,Bool.not_eq_true'] at h
 have hlt : T < N:=by
  rcases Nat.lt_or_ge T N with h1 | h1
  ·exact h1
  ·have : m < 2 ^ T:=Nat.lt_of_lt_of_le (by simpa using h.1) (Nat.pow_le_pow_right dC h1)
   rw [Nat.testBit_lt_two_pow this] at hT;cases hT
 rcases h.2 T hlt with h1 | h1
 ·rw [h1] at hT;cases hT
 ·exact xQ h1
def okI : TypeDesc → Bool | .int .i64=>true | _=>false
def okU : TypeDesc → Bool | .int .u8=>true | _=>false
def okB : TypeDesc → Bool | .bool=>true | _=>false
def okS : TypeDesc → Bool | .string=>true | _=>false
def okP : TypeDesc → Bool | .pointer _=>true | _=>false
def xX (P : Program) (T : Nat) : Nat → List (Bool × Nat × Nat) → Prop
 | _,[]=>True
 | k,(a,o,s) :: r=>(FV P T k a o s ∧ FA P T k o) ∧ xX P T (k + 1) r
def vM (P : Program) : List (Nat × List (Bool × Nat × Nat)) → Prop
 | []=>True
 | (T,fs) :: r=>xX P T 0 fs ∧ vM P r
theorem ru {P : Program} {T : Nat} : ∀ (fs : List (Bool × Nat × Nat)) (k f : Nat) {a o s},xX P T k fs → fs[f]? = some (a,o,s) → FV P T (k + f) a o s ∧ FA P T (k + f) o
 | [],_,_,_,_,_,_,h=>by simp at h
 | (a,o,s) :: r,k,0,_,_,_,h,e=>by
  simp only [List.getElem?_cons_zero,Option.some.injEq,Prod.mk.injEq] at e
  obtain ⟨rfl,rfl,rfl⟩:=e;exact h.1
 | _ :: r,k,f + 1,_,_,_,h,e=>by
  have:=ru r (k + 1) f h.2 (by simpa using e)
  rwa [Nat.add_assoc,Nat.add_comm 1 f] at this
theorem rz {P : Program} : ∀ (fl : List (Nat × List (Bool × Nat × Nat))) (T f : Nat) {a o s},vM P fl → iS fl T f = some (a,o,s) → FV P T f a o s ∧ FA P T f o
 | [],_,_,_,_,_,_,e=>by simp [iS] at e
 | (U,fs) :: r,T,f,_,_,_,h,e=>by
  unfold iS at e
  cases hb : Nat.beq U T with
  | true=>rw [hb] at e;have:=Nat.eq_of_beq_eq_true hb;subst this;have h2:=ru fs 0 f h.1 e;rwa [Nat.zero_add] at h2
  | false=>rw [hb] at e;exact rz r T f h.2 e
theorem Tab.mk' {P : Program} {t : Tbl} (N : Nat) (h1 : sS P t.mi okI N = true) (h2 : sS P t.mu okU N = true) (h3 : sS P t.mb okB N = true) (h4 : sS P t.ms okS N = true) (h5 : sS P t.mp okP N = true) (h6 : vM P t.fl) : Tab P t where
 hi T hT:=by
  obtain ⟨d,s,b,z,h,h'⟩:=kq h1 T hT
  unfold okI at h;split at h;exact ⟨s,b,z,h'⟩;cases h
 hu T hT:=by
  obtain ⟨d,s,b,z,h,h'⟩:=kq h2 T hT
  unfold okU at h;split at h;exact ⟨s,b,z,h'⟩;cases h
 hb T hT:=by
  obtain ⟨d,s,b,z,h,h'⟩:=kq h3 T hT
  unfold okB at h;split at h;exact ⟨s,b,z,h'⟩;cases h
 hs T hT:=by
  obtain ⟨d,s,b,z,h,h'⟩:=kq h4 T hT
  unfold okS at h;split at h;exact ⟨s,b,z,h'⟩;cases h
 hp T hT:=by
  obtain ⟨d,s,b,z,h,h'⟩:=kq h5 T hT
  unfold okP at h;split at h;exact ⟨_,s,b,z,h'⟩;cases h
 hf T f a o s h:=rz t.fl T f h6 h
def evI (op : BinOp) (a b : Int) : Option (Value × Option Prop) :=
 match op with
 | .add=>some (I (a + b),some (-9223372036854775808 ≤ a + b ∧ a + b ≤ 9223372036854775807))
 | .sub=>some (I (a - b),some (-9223372036854775808 ≤ a - b ∧ a - b ≤ 9223372036854775807))
 | .mul=>some (I (a * b),some (-9223372036854775808 ≤ a * b ∧ a * b ≤ 9223372036854775807))
 | .rem=>some (I (a % b),some (0 ≤ a ∧ 0 < b))
 | .quo=>some (I (a / b),some (0 ≤ a ∧ 0 < b ∧ a ≤ 9223372036854775807))
 | .eql=>some (Bo (decide (a = b)),none)
 | .neq=>some (Bo (decide (a ≠ b)),none)
 | .lss=>some (Bo (decide (a < b)),none)
 | .leq=>some (Bo (decide (a ≤ b)),none)
 | .gtr=>some (Bo (decide (b < a)),none)
 | .geq=>some (Bo (decide (b ≤ a)),none)
 | _=>none
def evU (op : BinOp) (a b : Int) : Option (Value × Option Prop) :=
 match op with
 | .add=>some (U8 (a + b),some (0 ≤ a + b ∧ a + b ≤ 255))
 | .sub=>some (U8 (a - b),some (0 ≤ a - b ∧ a - b ≤ 255))
 | .eql=>some (Bo (decide (a = b)),none)
 | .neq=>some (Bo (decide (a ≠ b)),none)
 | .lss=>some (Bo (decide (a < b)),none)
 | .leq=>some (Bo (decide (a ≤ b)),none)
 | .gtr=>some (Bo (decide (b < a)),none)
 | .geq=>some (Bo (decide (b ≤ a)),none)
 | _=>none
def evS (op : BinOp) (a b : adB) : Option (Value × Option Prop) :=
 match op with
 | .add=>some (S (a ++ b),some (a.length + b.length ≤ 9223372036854775807))
 | .eql=>some (Bo (decide (a = b)),none)
 | .neq=>some (Bo (decide (a ≠ b)),none)
 | .lss=>some (Bo (Op.bytesLess a b),none)
 | .geq=>some (Bo (!Op.bytesLess a b),none)
 | .gtr=>some (Bo (!(Op.bytesLess a b || decide (a = b))),none)
 | _=>none
def evB (op : BinOp) (a b : Bool) : Option (Value × Option Prop) :=
 match op with
 | .eql=>some (Bo (decide (a = b)),none)
 | .neq=>some (Bo (decide (a ≠ b)),none)
 | _=>none
def vQ (t : Tbl) (E : bN) : Op → Option (Value × Option Prop)
 | .move x=>match ev E x with
  | some v=>some (v,none)
  | none=>none
 | .assign x=>match ev E x with
  | some v=>some (v,none)
  | none=>none
 | .extract x i=>match ev E x with
  | some (.tuple ⟨vs⟩)=>match vs[i]? with
   | some v=>some (v,none)
   | none=>none
  | _=>none
 | .nilCheck x=>match ev E x with
  | some (.pointer (some p))=>some (.pointer (some p),none)
  | _=>none
 | .fieldAddr T x f=>match ev E x with
  | some (.pointer (some ⟨b,o,none⟩))=>match iS t.fl T f with
   | some (_,off,_)=>some (Pt b (o + off),none)
   | none=>none
  | _=>none
 | .field T x f=>match ev E x with
  | some (.agg ⟨cs⟩)=>match iS t.fl T f with
   | some (true,off,sz)=>match lE cs off sz with
    | some vs=>some (Ag vs,none)
    | none=>none
   | some (false,off,_)=>match cs[off]? with
    | some v=>some (v,none)
    | none=>none
   | none=>none
  | _=>none
 | .index T x i=>match t.ms.testBit T with
  | true=>match ev E x with
   | some (.string ⟨⟨l⟩⟩)=>match ev E i with
    | some (.int _ m)=>some (U8 (bt l m.toNat),some (0 ≤ m ∧ m < l.length))
    | _=>none
   | _=>none
  | false=>none
 | .slice T x lo hi mx=>match t.ms.testBit T with
  | true=>match ev E x with
   | some (.string ⟨⟨l⟩⟩)=>match lo,hi,mx with
    | some a,none,none=>match ev E a with
     | some (.int _ m)=>some (S (l.drop m.toNat),some (0 ≤ m ∧ m ≤ l.length))
     | _=>none
    | none,some b,none=>match ev E b with
     | some (.int _ m)=>some (S (l.take m.toNat),some (0 ≤ m ∧ m ≤ l.length))
     | _=>none
    | some a,some b,none=>match ev E a with
     | some (.int _ m)=>match ev E b with
      | some (.int _ m')=>some (S ((l.take m'.toNat).drop m.toNat),some ((0 ≤ m ∧ m ≤ m') ∧ 0 ≤ m' ∧ m' ≤ l.length))
      | _=>none
     | _=>none
    | _,_,_=>none
   | _=>none
  | false=>none
 | .binOp op T x y _=>match ev E x with
  | some (.int .i64 a)=>match ev E y with
   | some (.int .i64 b)=>evI op a b
   | _=>none
  | some (.int .u8 a)=>match ev E y with
   | some (.int .u8 b)=>evU op a b
   | _=>none
  | some (.string ⟨⟨a⟩⟩)=>match ev E y with
   | some (.string ⟨⟨b⟩⟩)=>evS op a b
   | _=>none
  | some (.bool a)=>match t.mb.testBit T with
   | true=>match ev E y with
    | some (.bool b)=>evB op a b
    | _=>none
   | false=>none
  | _=>none
 | .unOp op _ x=>match op with
  | .not=>match ev E x with
   | some (.bool b)=>some (Bo (!b),none)
   | _=>none
  | .neg=>match ev E x with
   | some (.int .i64 a)=>some (I (-a),some (-9223372036854775808 ≤ 0 - a ∧ 0 - a ≤ 9223372036854775807))
   | _=>none
  | _=>none
 | .convert T T' x=>match t.mu.testBit T,t.mi.testBit T' with
  | true,true=>match ev E x with
   | some (.int .u8 a)=>some (I a,some (-9223372036854775808 ≤ a ∧ a ≤ 9223372036854775807))
   | _=>none
  | _,_=>match t.mi.testBit T,t.mu.testBit T' with
   | true,true=>match ev E x with
    | some (.int .i64 a)=>some (U8 (u8 a).toNat,none)
    | _=>none
   | _,_=>none
 | .call ⟨.builtin .len,⟨[x]⟩,⟨[T]⟩⟩=>match t.ms.testBit T with
  | true=>match ev E x with
   | some (.string ⟨⟨l⟩⟩)=>some (I l.length,none)
   | _=>none
  | false=>none
 | _=>none
@[reducible] def m5 : Option Prop → Prop
 | none=>True
 | some p=>p
section
variable {P : Program} {n : Nat} {D : List Deferred} {E : bN} {M : World → Prop} {d : Option Nat} {ty : TypeId} {pos : String} {aft : Array Edge} {gd : Option (Nat × Bool)}
theorem abp {op : BinOp} {T T' : TypeId} {x y : Operand} {a b : Int} {v : Value} {c : Option Prop} (h : evI op a b = some (v,c)) (hc : m5 c) (hx : ev E x = some (I a)) (hy : ev E y = some (I b)) :
  Gives P n D E M ⟨d,.binOp op T x y T',ty,pos,aft,gd⟩ v:=by
 cases op <;> simp only [evI,Option.some.injEq,Prod.mk.injEq,reduceCtorEq] at h <;> obtain ⟨rfl,rfl⟩:=h
 ·exact acx hx hy hc
 ·exact acl hx hy hc
 ·exact act hx hy hc
 ·exact acp hx hy hc
 ·exact aco hx hy hc
 ·exact yT hx hy
 ·exact yO hx hy
 ·exact yP hx hy
 ·exact yQ hx hy
 ·exact yR hx hy
 ·exact yS hx hy
theorem up {a : Int} (h : 0 ≤ a ∧ a ≤ 255) : IntKind.u8.wrap a = a:=by rw [uq,jc h]
theorem abl {op : BinOp} {T T' : TypeId} {x y : Operand} {a b : Int} {v : Value} {c : Option Prop} (h : evU op a b = some (v,c)) (hc : m5 c) (hx : ev E x = some (U8 a)) (hy : ev E y = some (U8 b)) :
  Gives P n D E M ⟨d,.binOp op T x y T',ty,pos,aft,gd⟩ v:=by
 cases op <;> simp only [evU,Option.some.injEq,Prod.mk.injEq,reduceCtorEq] at h <;> obtain ⟨rfl,rfl⟩:=h
 ·rw [← up hc];exact abj hx hy
 ·rw [← up hc];exact aa0 hx hy
 ·exact yT hx hy
 ·exact yO hx hy
 ·exact yP hx hy
 ·exact yQ hx hy
 ·exact yR hx hy
 ·exact yS hx hy
theorem abn {op : BinOp} {T T' : TypeId} {x y : Operand} {a b : adB} {v : Value} {c : Option Prop} (h : evS op a b = some (v,c)) (hc : m5 c) (hx : ev E x = some (S a)) (hy : ev E y = some (S b)) :
  Gives P n D E M ⟨d,.binOp op T x y T',ty,pos,aft,gd⟩ v:=by
 cases op <;> simp only [evS,Option.some.injEq,Prod.mk.injEq,reduceCtorEq] at h <;> obtain ⟨rfl,rfl⟩:=h
 ·exact aa8 hx hy hc
 ·exact aa6 hx hy
 ·exact aa1 hx hy
 ·exact aa2 hx hy
 ·exact aa4 hx hy
 ·exact aa5 hx hy
theorem abr {op : BinOp} {T T' : TypeId} {x y : Operand} {s by' : Nat} {z : Value} {a b : Bool} {v : Value} {c : Option Prop} [TI P T .bool s by' z] (h : evB op a b = some (v,c)) (hx : ev E x = some (.bool a)) (hy : ev E y = some (.bool b)) :
  Gives P n D E M ⟨d,.binOp op T x y T',ty,pos,aft,gd⟩ v:=by
 cases op <;> simp only [evB,Option.some.injEq,Prod.mk.injEq,reduceCtorEq] at h <;> obtain ⟨rfl,rfl⟩:=h
 ·exact abh (size:=s) (bytes:=by') (zero:=z) hx hy
 ·exact abg (size:=s) (bytes:=by') (zero:=z) hx hy
theorem qD {t : Tbl} [tb : Tab P t] {op : Op} {v : Value} {c : Option Prop} (h : vQ t E op = some (v,c)) (hc : m5 c) : Gives P n D E M ⟨d,op,ty,pos,aft,gd⟩ v:=by
 unfold vQ at h
 split at h
 ·split at h
  ·rename_i hx;simp only [Option.some.injEq,Prod.mk.injEq] at h;obtain ⟨rfl,rfl⟩:=h;exact abb hx
  ·cases h
 ·split at h
  ·rename_i hx;simp only [Option.some.injEq,Prod.mk.injEq] at h;obtain ⟨rfl,rfl⟩:=h;exact xW hx
  ·cases h
 ·split at h
  ·rename_i hx
   split at h
   ·rename_i hv;simp only [Option.some.injEq,Prod.mk.injEq] at h;obtain ⟨rfl,rfl⟩:=h;exact acv hx hv
   ·cases h
  ·cases h
 ·split at h
  ·rename_i hx;simp only [Option.some.injEq,Prod.mk.injEq] at h;obtain ⟨rfl,rfl⟩:=h;exact aba hx
  ·cases h
 ·split at h
  ·rename_i hx
   split at h
   ·rename_i hf;simp only [Option.some.injEq,Prod.mk.injEq] at h;obtain ⟨rfl,rfl⟩:=h
    have:=(tb.hf _ _ _ _ _ hf).2
    exact zH hx
   ·cases h
  ·cases h
 ·split at h
  ·rename_i hx
   split at h
   ·rename_i hf
    split at h
    ·rename_i hv;simp only [Option.some.injEq,Prod.mk.injEq] at h;obtain ⟨rfl,rfl⟩:=h
     have:=(tb.hf _ _ _ _ _ hf).1
     exact uN hx (by simp only [oS];rw [ky hv])
    ·cases h
   ·rename_i hf
    split at h
    ·rename_i hv;simp only [Option.some.injEq,Prod.mk.injEq] at h;obtain ⟨rfl,rfl⟩:=h
     have:=(tb.hf _ _ _ _ _ hf).1
     exact uN hx (by simp only [oS];exact hv)
    ·cases h
   ·cases h
  ·cases h
 ·split at h
  ·rename_i ht
   obtain ⟨_,_,_,_⟩:=tb.hs _ ht
   split at h
   ·rename_i hx
    split at h
    ·rename_i hi;simp only [Option.some.injEq,Prod.mk.injEq] at h;obtain ⟨rfl,rfl⟩:=h
     exact zE hx hi hc
    ·cases h
   ·cases h
  ·cases h
 ·split at h
  ·rename_i ht
   obtain ⟨_,_,_,_⟩:=tb.hs _ ht
   split at h
   ·rename_i hx
    split at h
    ·split at h
     ·rename_i hi;simp only [Option.some.injEq,Prod.mk.injEq] at h;obtain ⟨rfl,rfl⟩:=h
      exact wD hx hi hc
     ·cases h
    ·split at h
     ·rename_i hi;simp only [Option.some.injEq,Prod.mk.injEq] at h;obtain ⟨rfl,rfl⟩:=h
      exact zC hx hi hc
     ·cases h
    ·split at h
     ·rename_i hi
      split at h
      ·rename_i hj;simp only [Option.some.injEq,Prod.mk.injEq] at h;obtain ⟨rfl,rfl⟩:=h
       exact wE hx hi hj hc.1 hc.2
      ·cases h
     ·cases h
    ·cases h
   ·cases h
  ·cases h
 ·split at h
  ·rename_i hx
   split at h
   ·rename_i hy;exact abp h hc hx hy
   ·cases h
  ·rename_i hx
   split at h
   ·rename_i hy;exact abl h hc hx hy
   ·cases h
  ·rename_i hx
   split at h
   ·rename_i hy;exact abn h hc hx hy
   ·cases h
  ·rename_i hx
   split at h
   ·rename_i ht
    obtain ⟨_,_,_,_⟩:=tb.hb _ ht
    split at h
    ·rename_i hy;exact abr h hx hy
    ·cases h
   ·cases h
  ·cases h
 ·split at h
  ·split at h
   ·rename_i hx;simp only [Option.some.injEq,Prod.mk.injEq] at h;obtain ⟨rfl,rfl⟩:=h;exact acq hx
   ·cases h
  ·split at h
   ·rename_i hx;simp only [Option.some.injEq,Prod.mk.injEq] at h;obtain ⟨rfl,rfl⟩:=h;exact acr hx hc
   ·cases h
  ·cases h
 ·split at h
  ·rename_i h1 h2
   obtain ⟨_,_,_,_⟩:=tb.hu _ h1
   obtain ⟨_,_,_,_⟩:=tb.hi _ h2
   split at h
   ·rename_i hx;simp only [Option.some.injEq,Prod.mk.injEq] at h;obtain ⟨rfl,rfl⟩:=h;exact zL hx hc
   ·cases h
  ·split at h
   ·rename_i h1 h2
    obtain ⟨_,_,_,_⟩:=tb.hi _ h1
    obtain ⟨_,_,_,_⟩:=tb.hu _ h2
    split at h
    ·rename_i hx;simp only [Option.some.injEq,Prod.mk.injEq] at h;obtain ⟨rfl,rfl⟩:=h;exact zK hx
    ·cases h
   ·cases h
 ·split at h
  ·rename_i ht
   obtain ⟨_,_,_,_⟩:=tb.hs _ ht
   split at h
   ·rename_i hx;simp only [Option.some.injEq,Prod.mk.injEq] at h;obtain ⟨rfl,rfl⟩:=h;exact abc hx
   ·cases h
  ·cases h
 ·cases h
end
inductive Fr where
 | seq (c : Code)
 | blk (id : Nat)
 | lp (K : Act → World → Prop)
inductive Cu where
 | code (c : Code)
 | exit (e : Exit)
 | ops (a l : List Oper) (i : Nat) (pm : List Nat)
def kk (P : Program) : List Fr → (Exit → Act → World → Prop) → Exit → Act → World → Prop
 | [],Q=>Q
 | .seq c :: k,Q=>tn (cw P c (kk P k Q)) (kk P k Q)
 | .blk id :: k,Q=>bl id (kk P k Q)
 | .lp K :: k,Q=>tn K (kk P k Q)
def cu (P : Program) (c : Cu) (k : List Fr) (Q : Exit → Act → World → Prop) : Act → World → Prop :=
 match c with
 | .code c=>cw P c (kk P k Q)
 | .exit e=>kk P k Q e
 | .ops a l _ _=>lw P a.toArray (kk P k Q) l
structure Ms where
 E : bN
 c : Cu
 k : List Fr
 p : Option Prop
def yV (j : Nat) : List Nat → Bool
 | []=>false
 | x :: r=>match Nat.beq x j with
  | true=>true
  | false=>yV j r
def uS : Bool → Bool → Bool
 | true,true=>true
 | false,false=>true
 | _,_=>false
def n7 (E : bN) (a : List Oper) (pm : List Nat) (o : Oper) : Option Bool :=
 match o.guard with
 | none=>some true
 | some (j,w)=>match yV j pm with
  | false=>none
  | true=>match a[j]? with
   | some oj=>match oj.dst with
    | some dj=>match look E dj with
     | some (.bool b)=>some (uS b w)
     | some (.tuple _)=>some false
     | _=>none
    | none=>none
   | none=>none
def step (t : Tbl) (n : Nat) (E : bN) (c : Cu) (k : List Fr) : Option Ms :=
 match c with
 | .code c=>match c with
  | .skip=>some ⟨E,.exit .normal,k,none⟩
  | .region _ ⟨l⟩ dr=>match dr with
   | false=>some ⟨E,.ops l l 0 [],k,none⟩
   | true=>none
  | .seq x y=>some ⟨E,.code x,.seq y :: k,none⟩
  | .block id x=>some ⟨E,.code x,.blk id :: k,none⟩
  | .exit id=>some ⟨E,.exit (.exit id),k,none⟩
  | .ret=>some ⟨E,.exit .ret,k,none⟩
  | _=>none
 | .exit e=>match k with
  | .seq y :: k=>match e with
   | .normal=>some ⟨E,.code y,k,none⟩
   | .ret=>some ⟨E,.exit .ret,k,none⟩
   | .exit i=>some ⟨E,.exit (.exit i),k,none⟩
   | _=>none
  | .blk id :: k=>match e with
   | .normal=>some ⟨E,.exit .normal,k,none⟩
   | .ret=>some ⟨E,.exit .ret,k,none⟩
   | .exit i=>match Nat.beq i id with
    | true=>some ⟨E,.exit .normal,k,none⟩
    | false=>some ⟨E,.exit (.exit i),k,none⟩
   | _=>none
  | .lp _ :: k=>match e with
   | .ret=>some ⟨E,.exit .ret,k,none⟩
   | .exit i=>some ⟨E,.exit (.exit i),k,none⟩
   | _=>none
  | []=>none
 | .ops a l i pm=>match l with
  | []=>some ⟨E,.exit .normal,k,none⟩
  | o :: r=>match n7 E a pm o with
   | some true=>match vQ t E o.op with
    | some (v,p)=>match o.dst with
     | some d=>match Nat.blt d n with
      | true=>some ⟨(d,v) :: E,.ops a r (i + 1) pm,k,p⟩
      | false=>none
     | none=>none
    | none=>none
   | some false=>match o.dst with
    | some d=>match Nat.blt d n with
     | true=>some ⟨(d,undef) :: E,.ops a r (i + 1) (i :: pm),k,none⟩
     | false=>none
    | none=>none
   | none=>none
structure Rs where
 E : bN
 c : Cu
 k : List Fr
 p : List Prop
def sX (t : Tbl) (n : Nat) : Nat → bN → Cu → List Fr → List Prop → Rs
 | 0,E,c,k,p=>⟨E,c,k,p⟩
 | f + 1,E,c,k,p=>match step t n E c k with
  | none=>⟨E,c,k,p⟩
  | some ⟨E',c',k',none⟩=>sX t n f E' c' k' p
  | some ⟨E',c',k',some q⟩=>sX t n f E' c' k' (q :: p)
def ss (t : Tbl) (n f : Nat) (E : bN) (c : Cu) (k : List Fr) : Option Rs :=
 match step t n E c k with
 | none=>none
 | some ⟨E',c',k',none⟩=>some (sX t n f E' c' k' [])
 | some ⟨E',c',k',some q⟩=>some (sX t n f E' c' k' [q])
def iY : List Prop → Prop
 | []=>True
 | p :: r=>p ∧ iY r
section
variable {P : Program} {t : Tbl} {n : Nat} {D : List Deferred} {E : bN} {B : Base} {G : Gh} {L : List Own} {k : List Fr} {Q : Exit → Act → World → Prop} {K : Act → World → Prop}
theorem oN {b w : Bool} (h : uS b w = true) : b = w:=by cases b <;> cases w <;> simp_all [uS]
theorem rB {b w : Bool} (h : uS b w = false) : b ≠ w:=by cases b <;> cases w <;> simp_all [uS]
theorem sY {a l : List Oper} {pm : List Nat} {o : Oper} (h : n7 E a pm o = some true) (k : Nx n D E B G L (ow P o Q (lw P a.toArray Q l))) : Nx n D E B G L (lw P a.toArray Q (o :: l)):=by
 unfold n7 at h
 split at h
 ·rename_i hg;exact adl hg k
 ·rename_i j w hg
  split at h
  ·cases h
  ·split at h
   ·rename_i oj hj
    split at h
    ·rename_i dj hdj
     have hjj : (a.toArray[j]?).bind (·.dst) = some dj:=by simp [hj,hdj]
     split at h
     ·rename_i b hb
      simp only [Option.some.injEq] at h
      exact ach hg hjj (by rw [hb];rfl) (by rw [hb];rfl) (oN h) k
     ·cases h
     ·cases h
    ·cases h
   ·cases h
theorem wC {a l : List Oper} {pm : List Nat} {o : Oper} {d : Nat} (h : n7 E a pm o = some false) (hd : o.dst = some d) (hlt : Nat.blt d n = true) (k : Nx n D ((d,undef) :: E) B G L (lw P a.toArray Q l)) : Nx n D E B G L (lw P a.toArray Q (o :: l)):=by
 unfold n7 at h
 split at h
 ·cases h
 ·rename_i j w hg
  split at h
  ·cases h
  ·split at h
   ·rename_i oj hj
    split at h
    ·rename_i dj hdj
     have hjj : (a.toArray[j]?).bind (·.dst) = some dj:=by simp [hj,hdj]
     split at h
     ·rename_i b hb
      simp only [Option.some.injEq] at h
      exact yL hg hd hlt hjj (by rw [hb];rfl) (g:=some b) (by rw [hb];rfl) (by simpa using rB h) k
     ·rename_i u hb
      exact yL hg hd hlt hjj (by rw [hb];rfl) (g:=none) (by rw [hb];rfl) (by simp) k
     ·cases h
    ·cases h
   ·cases h
theorem nC [Tab P t] {c c' : Cu} {k k' : List Fr} {E' : bN} {p : Option Prop} (h : step t n E c k = some ⟨E',c',k',p⟩) (hp : m5 p) (hn : Nx n D E' B G L (cu P c' k' Q)) : Nx n D E B G L (cu P c k Q):=by
 unfold step at h
 split at h
 ·split at h
  ·simp only [Option.some.injEq,Ms.mk.injEq] at h;obtain ⟨rfl,rfl,rfl,rfl⟩:=h;exact aaM hn
  ·split at h
   ·simp only [Option.some.injEq,Ms.mk.injEq] at h;obtain ⟨rfl,rfl,rfl,rfl⟩:=h;exact xz hn
   ·cases h
  ·simp only [Option.some.injEq,Ms.mk.injEq] at h;obtain ⟨rfl,rfl,rfl,rfl⟩:=h;exact acb hn
  ·simp only [Option.some.injEq,Ms.mk.injEq] at h;obtain ⟨rfl,rfl,rfl,rfl⟩:=h;exact zj hn
  ·simp only [Option.some.injEq,Ms.mk.injEq] at h;obtain ⟨rfl,rfl,rfl,rfl⟩:=h;exact aaO hn
  ·simp only [Option.some.injEq,Ms.mk.injEq] at h;obtain ⟨rfl,rfl,rfl,rfl⟩:=h;exact acd hn
  ·cases h
 ·split at h
  ·split at h
   ·simp only [Option.some.injEq,Ms.mk.injEq] at h;obtain ⟨rfl,rfl,rfl,rfl⟩:=h;exact wx hn
   ·simp only [Option.some.injEq,Ms.mk.injEq] at h;obtain ⟨rfl,rfl,rfl,rfl⟩:=h;exact sT hn
   ·simp only [Option.some.injEq,Ms.mk.injEq] at h;obtain ⟨rfl,rfl,rfl,rfl⟩:=h;exact sU hn
   ·cases h
  ·split at h
   ·simp only [Option.some.injEq,Ms.mk.injEq] at h;obtain ⟨rfl,rfl,rfl,rfl⟩:=h;exact acj hn
   ·simp only [Option.some.injEq,Ms.mk.injEq] at h;obtain ⟨rfl,rfl,rfl,rfl⟩:=h;exact zx hn
   ·split at h
    ·rename_i hb;have:=Nat.eq_of_beq_eq_true hb;subst this
     simp only [Option.some.injEq,Ms.mk.injEq] at h;obtain ⟨rfl,rfl,rfl,rfl⟩:=h;exact wy hn
    ·rename_i hb
     simp only [Option.some.injEq,Ms.mk.injEq] at h;obtain ⟨rfl,rfl,rfl,rfl⟩:=h;exact vH hb hn
   ·cases h
  ·split at h
   ·simp only [Option.some.injEq,Ms.mk.injEq] at h;obtain ⟨rfl,rfl,rfl,rfl⟩:=h;exact sT hn
   ·simp only [Option.some.injEq,Ms.mk.injEq] at h;obtain ⟨rfl,rfl,rfl,rfl⟩:=h;exact sU hn
   ·cases h
  ·cases h
 ·split at h
  ·simp only [Option.some.injEq,Ms.mk.injEq] at h;obtain ⟨rfl,rfl,rfl,rfl⟩:=h;exact aci hn
  ·rename_i o r
   split at h
   ·rename_i hg
    split at h
    ·rename_i v q hv
     split at h
     ·rename_i d hd
      split at h
      ·rename_i hlt
       simp only [Option.some.injEq,Ms.mk.injEq] at h;obtain ⟨rfl,rfl,rfl,rfl⟩:=h
       refine sY hg ?_
       obtain ⟨dst,op,ty,pos,aft,gd⟩:=o
       exact kX (qD (t:=t) hv hp) hd hlt hn
      ·cases h
     ·cases h
    ·cases h
   ·rename_i hg
    split at h
    ·rename_i d hd
     split at h
     ·rename_i hlt
      simp only [Option.some.injEq,Ms.mk.injEq] at h;obtain ⟨rfl,rfl,rfl,rfl⟩:=h
      exact wC hg hd hlt hn
     ·cases h
    ·cases h
   ·cases h
theorem pP [Tab P t] : ∀ (f : Nat) {E E' : bN} {c c' : Cu} {k k' : List Fr} {p p' : List Prop},sX t n f E c k p = ⟨E',c',k',p'⟩ → iY p' → Nx n D E' B G L (cu P c' k' Q) → iY p ∧ Nx n D E B G L (cu P c k Q)
 | 0,E,E',c,c',k,k',p,p',h,hp,hn=>by
  simp only [sX,Rs.mk.injEq] at h;obtain ⟨rfl,rfl,rfl,rfl⟩:=h;exact ⟨hp,hn⟩
 | f + 1,E,E',c,c',k,k',p,p',h,hp,hn=>by
  unfold sX at h
  split at h
  ·simp only [Rs.mk.injEq] at h;obtain ⟨rfl,rfl,rfl,rfl⟩:=h;exact ⟨hp,hn⟩
  ·rename_i E1 c1 k1 hs
   have:=pP f h hp hn
   exact ⟨this.1,nC hs trivial this.2⟩
  ·rename_i E1 c1 k1 q hs
   have:=pP f h hp hn
   exact ⟨this.1.2,nC hs this.1.1 this.2⟩
theorem run [Tab P t] {E' : bN} {c c' : Cu} {k k' : List Fr} {p' : List Prop} (f : Nat) (h : ss t n f E c k = some ⟨E',c',k',p'⟩) (hp : iY p') (hn : Nx n D E' B G L (cu P c' k' Q)) : Nx n D E B G L (cu P c k Q):=by
 unfold ss at h
 split at h
 ·cases h
 ·rename_i E1 c1 k1 hs
  simp only [Option.some.injEq] at h
  exact nC hs trivial (pP f h hp hn).2
 ·rename_i E1 c1 k1 q hs
  simp only [Option.some.injEq] at h
  have:=pP f h hp hn
  exact nC hs this.1.1 this.2
theorem vG {a l : List Oper} {i : Nat} {pm : List Nat} {o : Oper} (hg : n7 E a pm o = some true) (h : Nx n D E B G L (ow P o (kk P k Q) (cu P (.ops a l (i + 1) pm) k Q))) : Nx n D E B G L (cu P (.ops a (o :: l) i pm) k Q):=sY hg h
theorem eA {c : Operand} {x y : Code} {p : Prop} [Decidable p] (hc : ev E c = some (.bool (decide p))) (h1 : p → Nx n D E B G L (cu P (.code x) k Q)) (h2 : ¬ p → Nx n D E B G L (cu P (.code y) k Q)) : Nx n D E B G L (cu P (.code (.cond c x y)) k Q):=adk hc h1 h2
theorem oJ {c : Operand} {x y : Code} {b : Bool} (hc : ev E c = some (.bool b)) (h1 : b = true → Nx n D E B G L (cu P (.code x) k Q)) (h2 : b = false → Nx n D E B G L (cu P (.code y) k Q)) : Nx n D E B G L (cu P (.code (.cond c x y)) k Q):=pr hc h1 h2
theorem ac {c : Operand} {x y : Code} {b : Bool} (hc : ev E c = some (.bool b)) (hb : b = true) (h1 : Nx n D E B G L (cu P (.code x) k Q)) : Nx n D E B G L (cu P (.code (.cond c x y)) k Q):=aaL hc hb h1
theorem ad {c : Operand} {x y : Code} {b : Bool} (hc : ev E c = some (.bool b)) (hb : b = false) (h1 : Nx n D E B G L (cu P (.code y) k Q)) : Nx n D E B G L (cu P (.code (.cond c x y)) k Q):=zi hc hb h1
theorem Nx.re {d : Nat} {v v' : Value} (hd : look E d = some v) (hv : v = v') (h : Nx n D ((d,v') :: E) B G L K) : Nx n D E B G L K:=Nx.mk fun a w hs hw=>by
 subst hv
 refine h.go a w ⟨hs.size,hs.defers,fun t u hu=>?_⟩ hw
 rw [kL] at hu
 by_cases hdt : d = t
 ·subst hdt;rw [if_pos rfl,Option.some.injEq] at hu;subst hu;exact hs.at' _ _ hd
 ·rw [if_neg hdt] at hu;exact hs.at' _ _ hu
def yN (a : List Oper) (o : Oper) : Option (Nat × Nat) :=
 match o.guard with
 | some (j,_)=>match a[j]? with
  | some oj=>match oj.dst with
   | some dj=>some (j,dj)
   | none=>none
  | none=>none
 | none=>none
theorem fu {a l : List Oper} {i j dj : Nat} {pm : List Nat} {o : Oper} {p : Prop} [Decidable p] (_hg : yN a o = some (j,dj)) (hy : look E dj = some (.bool (decide p)))
  (h1 : p → Nx n D ((dj,.bool true) :: E) B G L (cu P (.ops a (o :: l) i (j :: pm)) k Q)) (h2 : ¬ p → Nx n D ((dj,.bool false) :: E) B G L (cu P (.ops a (o :: l) i (j :: pm)) k Q)) : Nx n D E B G L (cu P (.ops a (o :: l) i pm) k Q):=by
 by_cases h : p
 ·exact Nx.re hy (by simp [h]) (h1 h)
 ·exact Nx.re hy (by simp [h]) (h2 h)
theorem aG {a l : List Oper} {i j dj : Nat} {pm : List Nat} {o : Oper} {b : Bool} (_hg : yN a o = some (j,dj)) (hy : look E dj = some (.bool b)) (hb : b = true)
  (h1 : Nx n D ((dj,.bool true) :: E) B G L (cu P (.ops a (o :: l) i (j :: pm)) k Q)) : Nx n D E B G L (cu P (.ops a (o :: l) i pm) k Q):=Nx.re hy (by rw [hb]) h1
theorem aw {a l : List Oper} {i j dj : Nat} {pm : List Nat} {o : Oper} {b : Bool} (_hg : yN a o = some (j,dj)) (hy : look E dj = some (.bool b)) (hb : b = false)
  (h1 : Nx n D ((dj,.bool false) :: E) B G L (cu P (.ops a (o :: l) i (j :: pm)) k Q)) : Nx n D E B G L (cu P (.ops a (o :: l) i pm) k Q):=Nx.re hy (by rw [hb]) h1
theorem m4 {a l : List Oper} {i j dj : Nat} {pm : List Nat} {o : Oper} {b : Bool} (_hg : yN a o = some (j,dj)) (hy : look E dj = some (.bool b))
  (h1 : b = true → Nx n D ((dj,.bool true) :: E) B G L (cu P (.ops a (o :: l) i (j :: pm)) k Q)) (h2 : b = false → Nx n D ((dj,.bool false) :: E) B G L (cu P (.ops a (o :: l) i (j :: pm)) k Q)) : Nx n D E B G L (cu P (.ops a (o :: l) i pm) k Q):=by
 cases b with
 | true=>exact Nx.re hy F (h1 F)
 | false=>exact Nx.re hy F (h2 F)
theorem an {c : Code} (h : Nx n D E B G L (cw P c (kk P k Q))) : Nx n D E B G L (cu P (.code c) k Q):=h
theorem adn {e : Exit} (h : Nx n D E B G L (cu P (.exit e) k Q)) : Nx n D E B G L (kk P k Q e):=h
instance kkPQ [h : PQ Q] : PQ (kk P k Q):=by
 induction k with
 | nil=>exact h
 | cons f k ih=>cases f <;> (unfold kk;infer_instance)
theorem aV {ι : Type} {c : Code} (Pre : ι → Prop) (Ei : ι → bN) (Gi : ι → Gh) (Li : ι → List Own) (μ : ι → Nat) (i0 : ι) (h0 : Pre i0)
  (hE : iG (Ei i0) E) (hG : Gi i0 = G) (hL : (Li i0).Sublist L)
  (round : ∀ i,Pre i → Nx n D (Ei i) B (Gi i) (Li i) (cu P (.code c) (.lp (LI n D B Pre Ei Gi Li μ (μ i)) :: k) Q)) : Nx n D E B G L (cu P (.code (.loop c)) k Q) :=
 aaN Pre Ei Gi Li μ i0 h0 hE hG hL round
theorem bm {ι : Type} {Pre : ι → Prop} {Ei : ι → bN} {Gi : ι → Gh} {Li : ι → List Own} {μ : ι → Nat} {m : Nat} (j : ι) (h1 : Pre j) (h2 : μ j < m)
  (hE : iG (Ei j) E) (hG : Gi j = G) (hL : (Li j).Sublist L) : Nx n D E B G L (cu P (.exit .normal) (.lp (LI n D B Pre Ei Gi Li μ m) :: k) Q):=wx (zw j h1 h2 hE hG hL)
theorem aW {fn : Func} {rs : List ResultVar} {vs : List Value} {v : Value} {L' : List Own} {Post : Value → Gh → List Own → Prop} (hr : fn.results = rs.toArray) (h : k8 P (St B G L) E rs vs)
  (hv : gJ vs = v) (hL : L'.Sublist L) (hP : Post v G L') : Nx n [] E B G L (cu P (.exit .ret) [] (bp P fn (fc B Post))):=acf hr h hv hL hP
theorem ku {fn : Func} {rs : List ResultVar} {vs : List Value} {v : Value} {L' : List Own} {Post : Value → Gh → List Own → Prop} (hr : fn.results = rs.toArray) (h : k8 P (St B G L) E rs vs)
  (hv : gJ vs = v) (hL : L'.Sublist L) (hP : Post v G L') : Nx n [] E B G L (cu P (.exit .normal) [] (bp P fn (fc B Post))):=acg hr h hv hL hP
def pmO (o : Oper) : List Nat :=
 match o.guard with
 | some (j,_)=>[j]
 | none=>[]
def sZ (E : bN) (a : List Oper) (o : Oper) : Option Bool:=n7 E a (pmO o) o
theorem m6 {a : List Oper} {pm : List Nat} {o : Oper} {x : Bool} (h : n7 E a pm o = some x) :
  (o.guard = none ∧ x = true) ∨ ∃ j w dj,o.guard = some (j,w) ∧ (a.toArray[j]?).bind (·.dst) = some dj ∧ ic (look E dj) = true ∧ ((∃ b,gb (look E dj) = some b ∧ x = uS b w) ∨ (gb (look E dj) = none ∧ x = false)):=by
 unfold n7 at h
 split at h
 ·rename_i hg;simp only [Option.some.injEq] at h;exact .inl ⟨hg,h.symm⟩
 ·rename_i j w hg
  split at h
  ·cases h
  ·split at h
   ·rename_i oj hj
    split at h
    ·rename_i dj hdj
     have hjj : (a.toArray[j]?).bind (·.dst) = some dj:=by simp [hj,hdj]
     split at h
     ·rename_i b hb
      simp only [Option.some.injEq] at h
      exact .inr ⟨j,w,dj,hg,hjj,by rw [hb];rfl,.inl ⟨b,by rw [hb];rfl,h.symm⟩⟩
     ·rename_i u hb
      simp only [Option.some.injEq] at h
      exact .inr ⟨j,w,dj,hg,hjj,by rw [hb];rfl,.inr ⟨by rw [hb];rfl,h.symm⟩⟩
     ·cases h
    ·cases h
   ·cases h
theorem vl {ops : List Oper} {G0 : Gh} {L0 : List Own} {fuel : Nat} {listed : Array Bool} (listed' : Array Bool) [PQ Q] (i : Nat) {o : Oper} {d : Nat} {v : Value} (hi : ops.toArray[i]? = some o)
  (hb : nP ops.toArray listed i listed' = true) (hgu : sZ E ops o = some true) (hG : Gh.le G0 G) (hL : L0.Sublist L) (hg : Gives P n D E (cG B G0 L0) o v) (hd : o.dst = some d) (hlt : Nat.blt d n = true)
  (k : Nx n D ((d,v) :: E) B G L (xA P ops.toArray Q (cG B G0 L0) fuel listed')) : Nx n D E B G L (xA P ops.toArray Q (cG B G0 L0) (fuel + 1) listed):=by
 rcases m6 hgu with ⟨h1,_⟩ | ⟨j,w,dj,h1,h2,h3,⟨b,h4,h5⟩ | ⟨_,h5⟩⟩
 ·exact ac8 i hi hb h1 hG hL hg hd hlt k
 ·simp only [nP,Bool.and_eq_true] at hb
  exact za i hi hb.1.1.1 hb.1.1.2 hb.1.2 (fun c a w q=>PQ.hq c a w _ _ q) hg h1 h2 h3 h4 (oN h5.symm) hd hlt hG (fun _ h=>hL.subset h) (eq_of_beq hb.2) k
 ·cases h5
theorem yx {ops : List Oper} {G0 : Gh} {L0 : List Own} {fuel : Nat} {listed : Array Bool} (listed' : Array Bool) [PQ Q] (i : Nat) {o : Oper} {d : Nat} (hi : ops.toArray[i]? = some o)
  (hb : nP ops.toArray listed i listed' = true) (hgu : sZ E ops o = some false) (hG : Gh.le G0 G) (hL : L0.Sublist L) (hd : o.dst = some d) (hlt : Nat.blt d n = true)
  (k : Nx n D ((d,undef) :: E) B G L (xA P ops.toArray Q (cG B G0 L0) fuel listed')) : Nx n D E B G L (xA P ops.toArray Q (cG B G0 L0) (fuel + 1) listed):=by
 simp only [nP,Bool.and_eq_true] at hb
 rcases m6 hgu with ⟨_,h1⟩ | ⟨j,w,dj,h1,h2,h3,⟨b,h4,h5⟩ | ⟨h4,_⟩⟩
 ·cases h1
 ·exact uo i hi hb.1.1.1 hb.1.1.2 hb.1.2 (fun c a w q=>PQ.hq c a w _ _ q) h1 h2 h3 h4 (by simpa using rB h5.symm) hd hlt hG (fun _ h=>hL.subset h) (eq_of_beq hb.2) k
 ·exact uo i hi hb.1.1.1 hb.1.1.2 hb.1.2 (fun c a w q=>PQ.hq c a w _ _ q) h1 h2 h3 h4 (by simp) hd hlt hG (fun _ h=>hL.subset h) (eq_of_beq hb.2) k
theorem aM {ops : List Oper} {i : Nat} {o : Oper} (hi : ops.toArray[i]? = some o) (hgu : sZ E ops o = some true) (h : Nx n D E B G L (ow P o Q K)) : Nx n D E B G L (xO P ops.toArray Q i K):=by
 rcases m6 hgu with ⟨h1,_⟩ | ⟨j,w,dj,h1,h2,h3,⟨b,h4,h5⟩ | ⟨_,h5⟩⟩
 ·exact ac9 hi h1 h
 ·exact ab6 hi h1 h2 h3 h4 (oN h5.symm) h
 ·cases h5
def mE (ops : Array Oper) : List Nat → Array Bool → Array Bool → Bool
 | [],l,l'=>l == l'
 | i :: r,l,l'=>Region.free .any ops l i && (Region.ready .any ops l).contains i && mE ops r (l.setIfInBounds i true) l'
def iZ (t : Tbl) (n : Nat) (ops : List Oper) : List Nat → bN → List Prop → Option (bN × List Prop)
 | [],E,p=>some (E,p)
 | i :: r,E,p=>match ops[i]? with
  | none=>none
  | some o=>match o.dst with
   | none=>none
   | some d=>match Nat.blt d n with
    | false=>none
    | true=>match sZ E ops o with
     | none=>none
     | some false=>iZ t n ops r ((d,undef) :: E) p
     | some true=>match vQ t E o.op with
      | none=>none
      | some (v,none)=>iZ t n ops r ((d,v) :: E) p
      | some (v,some q)=>iZ t n ops r ((d,v) :: E) (q :: p)
theorem lD [PQ Q] [Tab P t] {ops : List Oper} {G0 : Gh} {L0 : List Own} (hsel : Region.noSelect ops.toArray = true) (hG : Gh.le G0 G) (hL : L0.Sublist L) : ∀ (is : List Nat) {E E' : bN} {p p' : List Prop} {fuel : Nat} {listed listed' : Array Bool},
  mE ops.toArray is listed listed' = true → iZ t n ops is E p = some (E',p') → iY p' → Nx n D E' B G L (xA P ops.toArray Q (cG B G0 L0) fuel listed') → iY p ∧ Nx n D E B G L (xA P ops.toArray Q (cG B G0 L0) (fuel + is.length) listed)
 | [],E,E',p,p',fuel,listed,listed',hb,h,hp,hn=>by
  simp only [iZ,Option.some.injEq,Prod.mk.injEq] at h;obtain ⟨rfl,rfl⟩:=h
  have:=eq_of_beq (a:=listed) (b:=listed') (by simpa [mE] using hb);subst this;exact ⟨hp,hn⟩
 | i :: r,E,E',p,p',fuel,listed,listed',hb,h,hp,hn=>by
  simp only [mE,Bool.and_eq_true] at hb
  have tk : nP ops.toArray listed i (listed.setIfInBounds i true) = true:=by simp only [nP,Bool.and_eq_true];exact ⟨⟨⟨hsel,hb.1.1⟩,hb.1.2⟩,beq_self_eq_true _⟩
  unfold iZ at h
  split at h
  ·cases h
  ·rename_i o ho
   have hi : ops.toArray[i]? = some o:=by simpa using ho
   split at h
   ·cases h
   ·rename_i d hd
    split at h
    ·cases h
    ·rename_i hlt
     split at h
     ·cases h
     ·rename_i hg
      have ih:=lD hsel hG hL r hb.2 h hp hn
      exact ⟨ih.1,yx _ i hi tk hg hG hL hd hlt ih.2⟩
     ·rename_i hg
      obtain ⟨dst,op,ty,pos,aft,gd⟩:=o
      split at h
      ·cases h
      ·rename_i v hv
       have ih:=lD hsel hG hL r hb.2 h hp hn
       exact ⟨ih.1,vl _ i hi tk hg hG hL (qD (t:=t) hv trivial) hd hlt ih.2⟩
      ·rename_i v q hv
       have ih:=lD hsel hG hL r hb.2 h hp hn
       exact ⟨ih.1.2,vl _ i hi tk hg hG hL (qD (t:=t) hv ih.1.1) hd hlt ih.2⟩
theorem vk [PQ Q] [Tab P t] {ops : List Oper} {G0 : Gh} {L0 : List Own} (is : List Nat) {E' : bN} {p' : List Prop} {fuel fuel' : Nat} {listed : Array Bool} (listed' : Array Bool) (hsel : Region.noSelect ops.toArray = true) (hb : mE ops.toArray is listed listed' = true)
  (hf : Nat.beq (fuel + is.length) fuel' = true) (h : iZ t n ops is E [] = some (E',p')) (hG : Gh.le G0 G) (hL : L0.Sublist L) (hp : iY p') (hn : Nx n D E' B G L (xA P ops.toArray Q (cG B G0 L0) fuel listed')) : Nx n D E B G L (xA P ops.toArray Q (cG B G0 L0) fuel' listed):=by
 have:=Nat.eq_of_beq_eq_true hf;subst this
 exact (lD hsel hG hL is hb h hp hn).2
class DelB (L : List Own) (b : Nat) (cs : outParam (List Value)) (T : outParam TypeId) (R : outParam (List Own)) : Prop where
 del : Del (.blk b (.cells cs.toArray T (0,0))) L R
instance {b : Nat} {cs : List Value} {T : TypeId} {r : List Own} : DelB (.blk b (.cells (List.toArray cs) T (0,0)) :: r) b cs T r:=⟨.here⟩
instance {b : Nat} {cs : List Value} {T : TypeId} {z : Own} {r r' : List Own} [h : DelB r b cs T r'] : DelB (z :: r) b cs T (z :: r'):=⟨.there h.del⟩
theorem abN {fo : Operand} {l : List Operand} {ag : Array TypeId} {d : Nat} {ty : TypeId} {pos : String} {aft : Array Edge} {g : Option (Nat × Bool)} {f : FuncId} {fi ca az vs : List Value} {b : Nat} {cs : List Value} {T : TypeId} {R : List Own} {Post : Value → Gh → List Own → Prop}
  [hd : DelB L b cs T R] (hf : ev E fo = some (.func (.func f) fi.toArray ca.toArray)) (ha : evs E l = some az) (hv : fi ++ az ++ ca = vs) (hc : Fn P f vs G [.blk b (.cells cs.toArray T (0,0))] Post) (hlt : Nat.blt d n = true)
  (k : ∀ v G' L',Post v G' L' → Nx n D ((d,v) :: E) B G' (L' ++ R) K) : Nx n D E B G L (ow P ⟨some d,.call ⟨.value fo,l.toArray,ag⟩,ty,pos,aft,g⟩ Q K) :=
 iC (Lp:=[.blk b (.cells cs.toArray T (0,0))]) hf ha hv hc hd.del.perm hlt k
theorem yW {T T0 : TypeId} {x : Operand} {desc : TypeDesc} {size bytes : Nat} {zero : Value} {b o d : Nat} {cs : List Value} {fr : Nat × Nat} {ty : TypeId} {pos : String} {aft : Array Edge} {g : Option (Nat × Bool)} [TI P T desc size bytes zero] [h : BlkI L b cs T0 fr] (hx : ev E x = some (Pt b o)) (ha : dJ desc = false) (hlt : Nat.blt d n = true) (ho : o < cs.length)
  (k : ∀ v,v ∈ cs → Nx n D ((d,v) :: E) B G L K) : Nx n D E B G L (ow P ⟨some d,.load T x,ty,pos,aft,g⟩ Q K):=by
 refine kX (f8 (T:=T) (desc:=desc) (size:=size) (bytes:=bytes) (zero:=zero) hx ha (v:=cs[o]) ?_) F hlt (k _ (List.getElem_mem ho))
 have:=(en (S:=St B G L) h.mem).go o cs[o] (List.getElem?_eq_getElem ho)
 simpa using this
theorem vd {f : FuncId} {fn : Func} {c : Code} {args : List Value} {Post : Value → Gh → List Own → Prop} (E0 : bN) (hf : P.funcs[f]? = some fn) (hok : e7 P f = true) (hn : fn.ntmps = n) (hb : fn.body = some c)
  (hlen : Nat.ble args.length n = true) (hE : iG E0 (params 0 args))
  (h : ∀ B,B.G = G → B.W = cO L → Nx n [] E0 B G L (cu P (.code c) [] (bp P fn (fc B Post)))) : Fn P f args G L Post:=te E0 hf hok hn hb hlen hE fun B h1 h2=>h B h1 h2
theorem zv {f : FuncId} {fn : Func} {c : Code} {args : List Value} {R : Value → Prop} (E0 : bN) (hf : P.funcs[f]? = some fn) (hok : e7 P f = true) (hn : fn.ntmps = n) (hb : fn.body = some c)
  (hlen : Nat.ble args.length n = true) (hE : iG E0 (params 0 args))
  (h : ∀ B,B.W = [] → Nx n [] E0 B G [] (cu P (.code c) [] (bp P fn (fc B (fun v G' L'=>G' = G ∧ L' = [] ∧ R v))))) : aZ P f args G R:=xG E0 hf hok hn hb hlen hE fun B h1=>h B h1
end
attribute [irreducible] cu
open Go.RowKit Go.WideShapes
variable {P : Program}
def G0 : Gh:=fun _=>none
theorem aZ.belowG {f : FuncId} {args : List Value} {v : Value} {G : Gh} {w : World} (hG : G.ok w) (h : aZ P f args G (· = v)) : Calls P f args.toArray w fun e w'=>e = .returned v ∧ Below w.heap.size w w':=by
 have hst : St ⟨w,G,cO []⟩ G [] w:=⟨hG,by simp,by simp [cO],by simp [cO],rfl,rfl,rfl,Nat.le_refl _,fun _ _ _=>⟨rfl,rfl⟩⟩
 refine (h.go w hst).mono ?_
 rintro e w' ⟨u,G',L',rfl,hs,_,_,rfl⟩
 exact ⟨F,hs.os,hs.tape,hs.output,hs.size,fun k hk=>(hs.frame k hk (by simp [cO])).1⟩
theorem G0.ok (w : World) : Gh.ok G0 w:=fun b g h=>by cases h
theorem aZ.below {f : FuncId} {args : List Value} {v : Value} (h : aZ P f args G0 (· = v)) (w : World) : Calls P f args.toArray w fun e w'=>e = .returned v ∧ Below w.heap.size w w':=aZ.belowG (G0.ok w) h
def GA (w : World) : Gh:=fun b=>match w.heap[b]? with
 | some (.cells c _ _)=>some (.pre c.toList)
 | _=>none
theorem GA.ok (w : World) : Gh.ok (GA w) w:=fun b g h=>by
 unfold GA at h
 split at h
 ·rename_i c e fr hb
  simp only [Option.some.injEq] at h;subst h
  exact ⟨_,hb,[],by simp⟩
 ·cases h
theorem aaK {w : World} {b o : Nat} {c : Array Value} {e : TypeId} {fr : Nat × Nat} {vs : List Value} (hb : w.heap[b]? = some (.cells c e fr)) (h : ∀ i v,vs[i]? = some v → c[o + i]? = some v) : bT (GA w) b o vs :=
 ⟨c.toList,by unfold GA;rw [hb],fun i v hv=>by simpa using h i v hv⟩
theorem ww {w : World} {base : Nat} {T e : TypeId} {a : Addr} {len cap : Nat} (hT : P.underlying T = some (.slice e)) (h : Value.okWide P w .any base T (.slice (some a) len cap)) :
  a.spot = none ∧ ∃ c el fr,w.heap[a.block]? = some (.cells c el fr):=by
 simp only [Value.okWide,hT,Cell.okWide,Cell.ok] at h
 obtain ⟨_,_,_,h1,row,cells,h2,_⟩:=h
 refine ⟨h1,?_⟩
 unfold World.shape? at h2
 split at h2
 ·rename_i c el fr hb;exact ⟨c,el,fr,hb⟩
 ·cases h2
theorem zX {w : World} {a : Addr} {c : Array Value} {el : TypeId} {fr : Nat × Nat} {i : Nat} {v : Value} (hs : a.spot = none) (hb : w.heap[a.block]? = some (.cells c el fr)) (h : w.cell? (a.add i) = some v) : c[a.off + i]? = some v:=by
 obtain ⟨b,o,sp⟩:=a
 simp only at hs hb;subst hs
 by_cases hi : i = 0
 ·subst hi;simpa [Addr.add,World.cell?,hb] using h
 ·simpa [Addr.add,World.cell?,hb,hi] using h
theorem aT.row {w : World} {a : Addr} {len cap : Nat} {zs : List Int} (hl : len ≤ cap) (hz : zs.length = cap) (hc : ∀ i,i < zs.length → w.cell? (a.add i) = some (.int .u8 (zs.getD i 0))) (hw : ∀ n ∈ zs,(Lit.int .u8 n).wf = true)
  (hs : a.spot = none ∧ ∃ c el fr,w.heap[a.block]? = some (.cells c el fr)) : ∃ l : adB,aT (GA w) (.slice (some a) len cap) 1 l.length (cE l):=by
 obtain ⟨hs,c,el,fr,hb⟩:=hs
 have hlen : ((zs.take len).map u8).length = len:=by simp;omega
 refine ⟨(zs.take len).map u8,by simp [cE],.inr ⟨a.block,a.off,cap,?_,oM,aaK hb fun i v hv=>?_⟩⟩
 ·rw [hlen];obtain ⟨b,o,sp⟩:=a;simp only at hs;subst hs;rfl
 ·have hi : i < len:=by
   have:=(List.getElem?_eq_some_iff.1 hv).1
   simp [cE] at this;omega
  have hcz:=zX hs hb (hc i oM)
  rw [hcz]
  have hget : zs.getD i 0 = zs[i]'oM:=by simp [List.getD,List.getElem?_eq_getElem (show i < zs.length by omega)]
  have hr:=hw _ (List.getElem_mem (show i < zs.length by omega))
  simp only [Lit.wf,Bool.and_eq_true,decide_eq_true_eq] at hr
  have h1 : IntKind.u8.min = 0:=rfl
  have h2 : IntKind.u8.max = 255:=rfl
  simp only [cE,List.getElem?_map,List.getElem?_take_of_lt hi,List.getElem?_eq_getElem (show i < zs.length by omega),Option.map_some] at hv
  rw [← hv,hget,jc oM]
theorem aT.nil (w : World) : ∃ l : adB,aT (GA w) aK 1 l.length (cE l):=⟨[],by simp [cE],.inl ⟨rfl,rfl⟩⟩
theorem aZ.belowA {f : FuncId} {args : List Value} {v : Value} {w : World} (h : aZ P f args (GA w) (· = v)) : Calls P f args.toArray w fun e w'=>e = .returned v ∧ Below w.heap.size w w':=aZ.belowG (GA.ok w) h
section
variable {P : Program} {n : Nat} {D : List Deferred} {E : bN} {M : World → Prop} {d : Option Nat} {ty : TypeId} {pos : String} {aft : Array Edge} {gd : Option (Nat × Bool)}
theorem zf {l : adB} {i : Nat} (h : i < l.length) : (cE l)[i]? = some (U8 (bt l i)):=by
 simp [cE,bt,List.getD,List.getElem?_eq_getElem h]
theorem vK {T : TypeId} {x : Operand} {size bytes : Nat} {zero : Value} {b o i : Nat} {G0 : Gh} {L0 : List Own} {l : adB} [TI P T (.int .u8) size bytes zero] [Kn M G0 L0] (hx : ev E x = some (Pt b (o + i * 1))) (hs : bT G0 b o (cE l)) (hi : i < l.length) :
  Gives P n D E M ⟨d,.load T x,ty,pos,aft,gd⟩ (U8 (bt l i)):=f8 (desc:=.int .u8) (size:=size) (bytes:=bytes) (zero:=zero) hx rfl (by rw [Nat.mul_one];exact (eG hs).go i _ (zf hi))
def oi (a b : Int) : Int:=((a.toNat ^^^ b.toNat : Nat) : Int)
theorem yY (a b : Int) : 0 ≤ oi a b:=Int.natCast_nonneg _
theorem yZ {a b : Int} (ha : a < 4611686018427387904) (hb : b < 4611686018427387904) : 0 ≤ oi a b ∧ oi a b < 4611686018427387904:=by
 have:=Nat.xor_lt_two_pow (x:=a.toNat) (y:=b.toNat) (n:=62) oM oM
 unfold oi;omega
theorem aaY {T T' : TypeId} {x y : Operand} {a b : Int} (hx : ev E x = some (I a)) (hy : ev E y = some (I b)) (h : (0 ≤ a ∧ a < 4611686018427387904) ∧ 0 ≤ b ∧ b < 4611686018427387904) : Gives P n D E M ⟨d,.binOp .xor T x y T',ty,pos,aft,gd⟩ (I (oi a b)):=by
 have e : IntKind.i64.wrap ((BitVec.ofInt 64 a ^^^ BitVec.ofInt 64 b).toNat) = oi a b:=by
  have h1 : (BitVec.ofInt 64 a ^^^ BitVec.ofInt 64 b).toNat = a.toNat ^^^ b.toNat:=by
   rw [BitVec.toNat_xor,BitVec.toNat_ofInt,BitVec.toNat_ofInt]
   congr 1 <;> omega
  have h2:=yZ h.1.2 h.2.2
  rw [h1]
  exact iH (x:=oi a b) oM
 rw [← e];exact aaZ hx hy
end
theorem bT.take {G : Gh} {b o : Nat} {vs : List Value} (h : bT G b o vs) (k : Nat) : bT G b o (vs.take k):=by
 obtain ⟨cs,h1,h2⟩:=h
 refine ⟨cs,h1,fun i v hv=>?_⟩
 have hi : i < k:=by
  rcases Nat.lt_or_ge i k with h3 | h3
  ·exact h3
  ·rw [List.getElem?_take] at hv;simp [Nat.not_lt.2 h3] at hv
 rw [List.getElem?_take_of_lt hi] at hv
 exact h2 i v hv
def vj (v : Value) (m : Nat) : Prop:=v = aK ∧ m = 0 ∨ ∃ b cap,v = .slice (some ⟨b,0,none⟩) m cap ∧ m ≤ cap
theorem vj.pos {v : Value} {m : Nat} (h : vj v m) (hm : m ≠ 0) : ∃ b cap,v = .slice (some ⟨b,0,none⟩) m cap:=by
 rcases h with ⟨_,h⟩ | ⟨b,cap,h,_⟩
 ·exact absurd h hm
 ·exact ⟨b,cap,h⟩
class AccB (L : List Own) (b : Nat) (m cap : outParam Nat) (T : outParam TypeId) (sz : outParam Nat) (xs : outParam (List Value)) : Prop where
 mem : Own.acc (.slice (some ⟨b,0,none⟩) m cap) T sz m xs ∈ L
instance {b m cap : Nat} {T : TypeId} {sz : Nat} {xs : List Value} {r : List Own} : AccB (.acc (.slice (some ⟨b,0,none⟩) m cap) T sz m xs :: r) b m cap T sz xs:=⟨.head _⟩
instance {b m cap : Nat} {T : TypeId} {sz : Nat} {xs : List Value} {z : Own} {r : List Own} [h : AccB r b m cap T sz xs] : AccB (z :: r) b m cap T sz xs:=⟨.tail _ h.mem⟩
section
variable {P : Program} {n : Nat} {D : List Deferred} {E : bN} {M : World → Prop} {d : Option Nat} {ty : TypeId} {pos : String} {aft : Array Edge} {gd : Option (Nat × Bool)}
theorem kO {T T0 : TypeId} {x : Operand} {desc : TypeDesc} {size bytes : Nat} {zero : Value} {b o m cap sz : Nat} {v : Value} {G0 : Gh} {L0 : List Own} {xs : List Value} [TI P T desc size bytes zero] [Kn M G0 L0] [h : AccB L0 b m cap T0 sz xs] (hx : ev E x = some (Pt b o)) (ha : dJ desc = false) (hc : xs[o]? = some v) :
  Gives P n D E M ⟨d,.load T x,ty,pos,aft,gd⟩ v:=f8 hx ha (by have:=(gB (S:=M) h.mem).go o v hc;simpa using this)
end
theorem Nx.shp {n : Nat} {D : List Deferred} {E : bN} {B : Base} {G : Gh} {L : List Own} {K : Act → World → Prop} {v : Value} {T : TypeId} {sz m : Nat} {xs : List Value} (hm : Own.acc v T sz m xs ∈ L) (h : vj v m → Nx n D E B G L K) : Nx n D E B G L K :=
 Nx.acc hm fun _ hs=>h hs
def dO (P : Program) (f : FuncId) (args : List Value) (G : Gh) (L : List Own) (R : Value → List Own → Prop) : Prop:=Fn P f args G L (fun v G' L'=>G' = G ∧ R v L')
section
variable {P : Program} {n : Nat} {D : List Deferred} {E : bN} {B : Base} {G : Gh} {L : List Own} {K : Act → World → Prop} {Q : Exit → Act → World → Prop}
theorem aL {fo : Operand} {l : List Operand} {ag : Array TypeId} {d : Nat} {ty : TypeId} {pos : String} {aft : Array Edge} {g : Option (Nat × Bool)} {f : FuncId} {fi ca az vs : List Value} {b : Nat} {cs : List Value} {T : TypeId} {R : List Own} {Post : Value → List Own → Prop}
  [hd : DelB L b cs T R] (hf : ev E fo = some (.func (.func f) fi.toArray ca.toArray)) (ha : evs E l = some az) (hv : fi ++ az ++ ca = vs) (hc : dO P f vs G [.blk b (.cells cs.toArray T (0,0))] Post) (hlt : Nat.blt d n = true)
  (k : ∀ v L',Post v L' → Nx n D ((d,v) :: E) B G (L' ++ R) K) : Nx n D E B G L (ow P ⟨some d,.call ⟨.value fo,l.toArray,ag⟩,ty,pos,aft,g⟩ Q K) :=
 abN hf ha hv hc hlt fun v G' L' h=>by obtain ⟨rfl,h⟩:=h;exact k v L' h
theorem fL {fo : Operand} {l : List Operand} {ag : Array TypeId} {d : Nat} {ty : TypeId} {pos : String} {aft : Array Edge} {g : Option (Nat × Bool)} {f : FuncId} {fi ca az vs : List Value} {Post : Value → List Own → Prop}
  (hf : ev E fo = some (.func (.func f) fi.toArray ca.toArray)) (ha : evs E l = some az) (hv : fi ++ az ++ ca = vs) (hc : dO P f vs G [] Post) (hlt : Nat.blt d n = true)
  (k : ∀ v L',Post v L' → Nx n D ((d,v) :: E) B G (L' ++ L) K) : Nx n D E B G L (ow P ⟨some d,.call ⟨.value fo,l.toArray,ag⟩,ty,pos,aft,g⟩ Q K) :=
 yr hf ha hv hc hlt fun v G' L' h=>by obtain ⟨rfl,h⟩:=h;exact k v L' h
theorem zI {f : FuncId} {fn : Func} {c : Code} {args : List Value} {R : Value → List Own → Prop} (E0 : bN) (hf : P.funcs[f]? = some fn) (hok : e7 P f = true) (hn : fn.ntmps = n) (hb : fn.body = some c)
  (hlen : Nat.ble args.length n = true) (hE : iG E0 (params 0 args))
  (h : ∀ B,B.G = G → B.W = cO L → Nx n [] E0 B G L (cu P (.code c) [] (bp P fn (fc B (fun v G' L'=>G' = G ∧ R v L'))))) : dO P f args G L R:=vd E0 hf hok hn hb hlen hE h
end
abbrev eN (b : Nat) (code : Value) (p : Int) (T : TypeId) : Own:=.blk b (.cells (List.toArray [code,I p]) T (0,0))
def ah {α : Type} (f : α → List Value) (cs : List α) : List Value:=cs.flatMap f
class RowF {α : Type} (f : α → List Value) (sz : outParam Nat) : Prop where
 len : ∀ c,(f c).length = sz
def ab {α : Type} [Inhabited α] (cs : List α) (i : Nat) : α:=cs.getD i default
theorem aI {α : Type} [Inhabited α] {cs : List α} {i : Nat} (h : i < cs.length) : ab cs i = cs[i]:=by simp [ab,List.getD,List.getElem?_eq_getElem h]
theorem cN {α : Type} {f : α → List Value} {sz : Nat} [RowF f sz] (cs : List α) : (ah f cs).length = cs.length * sz:=by
 induction cs with
 | nil=>simp [ah]
 | cons c cs ih=>simp only [ah,List.flatMap_cons,List.length_append,RowF.len,List.length_cons] at ih ⊢;rw [ih,Nat.succ_mul,Nat.add_comm]
theorem fU {α : Type} [Inhabited α] {f : α → List Value} {sz : Nat} [RowF f sz] : ∀ {cs : List α} {i k : Nat},i < cs.length → k < sz → (ah f cs)[i * sz + k]? = (f (ab cs i))[k]?
 | [],i,_,h,_=>by simp at h
 | c :: cs,0,k,_,hk=>by
  have : k < (f c).length:=by rw [RowF.len];exact hk
  simp [ah,List.flatMap_cons,ab,List.getElem?_append_left this]
 | c :: cs,i + 1,k,h,hk=>by
  have ih:=fU (f:=f) (cs:=cs) (i:=i) (k:=k) (by simpa using h) hk
  have e : (i + 1) * sz + k = (f c).length + (i * sz + k):=by rw [RowF.len,Nat.succ_mul];omega
  rw [ah,List.flatMap_cons,e,List.getElem?_append_right (Nat.le_add_right _ _),Nat.add_sub_cancel_left]
  exact ih
theorem bW {α : Type} (f : α → List Value) (xs : List α) (c : α) : ah f (xs ++ [c]) = ah f xs ++ f c:=by simp [ah]
theorem dl {α : Type} [Inhabited α] {cs : List α} {i : Nat} (h : i < cs.length) : cs.take (i + 1) = cs.take i ++ [ab cs i]:=by rw [aI h,List.take_succ_eq_append_getElem h]
section
variable {P : Program} {n : Nat} {D : List Deferred} {E : bN} {M : World → Prop} {d : Option Nat} {ty : TypeId} {pos : String} {aft : Array Edge} {gd : Option (Nat × Bool)}
variable {α : Type} [Inhabited α] {f : α → List Value}
theorem dM {T : TypeId} {x : Operand} {desc : TypeDesc} {sz bytes b o i : Nat} {zero : Value} {G0 : Gh} {L0 : List Own} {cs : List α} [TI P T desc sz bytes zero] [RowF f sz] [Kn M G0 L0] (hx : ev E x = some (Pt b (o + i * sz))) (ha : dJ desc = true) (hs : bT G0 b o (ah f cs)) (hi : i < cs.length) :
  Gives P n D E M ⟨d,.load T x,ty,pos,aft,gd⟩ (Ag (f (ab cs i))):=j6 (size:=sz) hx ha (RowF.len _) (CellsOf.mk fun k v hv=>by
 have hk : k < sz:=by have:=(List.getElem?_eq_some_iff.1 hv).1;rwa [RowF.len] at this
 have:=(eG (S:=M) hs).go (i * sz + k) v (by rw [fU hi hk];exact hv)
 rwa [← Nat.add_assoc] at this)
theorem b8 {T : TypeId} {x : Operand} {desc : TypeDesc} {size sz bytes b o i k : Nat} {zero v : Value} {G0 : Gh} {L0 : List Own} {cs : List α} [TI P T desc size bytes zero] [RowF f sz] [Kn M G0 L0] (hx : ev E x = some (Pt b (o + i * sz + k))) (ha : dJ desc = false) (hs : bT G0 b o (ah f cs)) (hi : i < cs.length) (hk : Nat.blt k sz = true) (hv : (f (ab cs i))[k]? = some v) :
  Gives P n D E M ⟨d,.load T x,ty,pos,aft,gd⟩ v:=f8 hx ha (by
 have:=(eG (S:=M) hs).go (i * sz + k) v (by rw [fU hi (by simpa using hk)];exact hv)
 rwa [← Nat.add_assoc] at this)
end
section
variable {P : Program} {n : Nat} {D : List Deferred} {E : bN} {B : Base} {G G0 : Gh} {L : List Own} {K : Act → World → Prop} {Q : Exit → Act → World → Prop} {ty : TypeId} {pos : String} {aft : Array Edge} {gd : Option (Nat × Bool)} {dd : Nat}
theorem ado {T el : TypeId} {x : Operand} {m : Nat} {desc : TypeDesc} {size bytes s1 b1 : Nat} {z1 zero : Value} {zs : List Value} [TI P T (.slice el) s1 b1 z1] [ti : TI P el desc size bytes zero] (hx : ev E x = some (I (m : Int))) (hz : eP zero = some zs) (hsz : Nat.beq zs.length size = true) (hlt : Nat.blt dd n = true)
  (hm : bytes * m ≤ 281474976710656 ∧ m ≤ 9223372036854775807)
  (k : ∀ b,Nx n D ((dd,.slice (some ⟨b,0,none⟩) m m) :: E) B G (.blk b (.cells (cj zs m).toArray el (0,0)) :: L) K) : Nx n D E B G L (ow P ⟨some dd,.makeSlice T x x,ty,pos,aft,gd⟩ Q K):=Nx.mk fun a w hs hw=>by
 obtain ⟨i,hi1,hi2,hi3,hi4⟩:=ti.inf
 have hb' : (i.bytes : Int) * (m : Int) ≤ 281474976710656:=by
  have h : ((i.bytes * m : Nat) : Int) ≤ 281474976710656:=by rw [hi3];omega
  rwa [Int.natCast_mul] at h
 have hr:=run_make (P:=P) w T el i zero (TI.und (P:=P) (T:=T)) hi1 hi4 .i64 .i64 m m oM (Int.le_refl _) hb' oM
 simp only [Int.toNat_natCast] at hr
 have hzs:=eV hz
 have hl:=Nat.eq_of_beq_eq_true hsz
 have e : madeCells zero.cells (m * i.size) = (cj zs m).toArray:=by
  rw [hi2,← hl,hzs,← k5 zs m]
  rfl
 unfold ow Oper.wp
 have : (execOp a.eval ⟨some dd,.makeSlice T x x,ty,pos,aft,gd⟩).run P w = .ok (.value (.slice (some ⟨w.heap.size,0,none⟩) m m)) (w.alloc (.cells (cj zs m).toArray el (0,0))):=by
  simp only [execOp,hs.ev hx,Sem.run_bind,hr,e,Result.andThen_ok,Sem.run_pure]
 rw [this,Oper.upon_value]
 exact (k _).go _ _ (hs.put (by simpa using hlt)) (hw.alloc _)
theorem g9 : ∀ (a : List Value) {z vs r : List Value},z.length = vs.length → vs ≠ [] → PutsR (a ++ (z ++ r)) a.length vs (a ++ (vs ++ r))
 | [],[],[],_,_,h0=>absurd rfl h0
 | [],x :: z,v :: vs,r,h,_=>by
  cases vs with
  | nil =>
   have : z = []:=by simpa using h
   subst this;exact .here .nil
  | cons u vs=>exact .here (g9 [] (z:=z) (vs:=u :: vs) (r:=r) (by simpa using h) (by simp))
 | [],[],_ :: _,_,h,_=>by simp at h
 | [],_ :: _,[],_,_,h0=>absurd rfl h0
 | _ :: _,_,[],_,_,h0=>absurd rfl h0
 | x :: a,z,v :: vs,r,h,h0=>.there (g9 a (z:=z) (vs:=v :: vs) (r:=r) h h0)
theorem un {a b : List Value} : er (a ++ b) = (er a && er b):=by
 induction a with
 | nil=>simp [er]
 | cons v a ih=>simp [er,ih,Bool.and_assoc]
theorem Nx.blkAcc {b m sz : Nat} {cs : List Value} {T : TypeId} {L' : List Own} (hd : Del (.blk b (.cells cs.toArray T (0,0))) L L') (hl : cs.length = m * sz) (h : Nx n D E B G (.acc (.slice (some ⟨b,0,none⟩) m m) T sz m cs :: L') K) : Nx n D E B G L K:=Nx.mk fun a w hs hw=>by
 have hw:=hw.perm hd.perm
 refine h.go a w hs (hw.conv F ⟨hl,.inr ⟨b,m,[],F,Nat.le_refl _,by simpa using hl,?_⟩⟩)
 have:=hw.own _ List.mem_cons_self
 simpa [Own.at] using this
theorem ec {id : Nat} {l : List Oper} {b o tt : Nat} {cs : List Value} {T : TypeId} {R : List Own} [hd : DelB L b cs T R] (_hx : look E tt = some (Pt b o)) (hm : P.follows .mixedOrders = true)
  (h : Nx n D E B G L (xA P l.toArray Q (cG B G R) l.length (List.replicate l.length false).toArray)) : Nx n D E B G L (cw P (.region id l.toArray true) Q) :=
 ao R (fun _ hx=>hd.del.perm.symm.subset (List.mem_cons_of_mem _ hx)) hm h
theorem aJ {M : World → Prop} {T T0 : TypeId} {a b o : Nat} {desc : TypeDesc} {size bytes : Nat} {zero : Value} {vs cs : List Value} {fr : Nat × Nat} {G0 : Gh} {L0 : List Own} [TI P T desc size bytes zero] [Kn M G0 L0] [h : BlkI L0 b cs T0 fr] (hx : look E a = some (Pt b o)) (ha : dJ desc = true) (hc : lE cs o size = some vs) (hl : Nat.beq vs.length size = true) :
  ∃ b o,look E a = some (.pointer (some ⟨b,o,none⟩)) ∧ ∀ w,M w → (loadVar T ⟨b,o,none⟩).run P w = .ok (Ag vs) w :=
 ⟨b,o,hx,fun w hw=>kh (desc:=desc) (size:=size) (bytes:=bytes) (zero:=zero) ha (Nat.eq_of_beq_eq_true hl) (by have:=(en (S:=M) h.mem).take hc;simpa using this) w hw⟩
theorem aT.expl {G : Gh} {v : Value} {sz m : Nat} {xs : List Value} (h : aT G v sz m xs) (hm : 0 < m) : ∃ b o cap,v = .slice (some ⟨b,o,none⟩) m cap ∧ bT G b o xs:=by
 obtain ⟨_,⟨_,h0⟩ | ⟨b,o,cap,e,_,hs⟩⟩:=h
 ·omega
 ·exact ⟨b,o,cap,e,hs⟩
structure BOk (B : Base) : Prop where
 ok : B.G.ok B.w
 fresh : ∀ b ∈ B.W,B.G b = none
theorem Nx.base (hb : BOk B) (hG : B.G = G0) (h : Nx n D E B G0 L K) : Nx n D E B G L K:=Nx.mk fun a w hs hw=>by
 subst hG
 have hle:=hw.le hb.ok hb.fresh
 refine h.go a w hs ⟨fun b g h=>hw.ok b g (hle b g h),hw.own,fun b hbb=>?_,hw.nd,hw.os,hw.tape,hw.output,hw.size,fun b h1 h2=>⟨(hw.frame b h1 h2).1,F⟩⟩
 have h1:=hw.fresh b hbb
 refine ⟨?_,h1.2⟩
 cases hB : B.G b with
 | none=>rfl
 | some g=>rw [hle b g hB] at h1;exact absurd h1.1 (by simp)
theorem aau {f : FuncId} {fn : Func} {c : Code} {args : List Value} {Post : Value → Gh → List Own → Prop} (E0 : bN) (hf : P.funcs[f]? = some fn) (hok : e7 P f = true) (hn : fn.ntmps = n) (hb : fn.body = some c)
  (hlen : Nat.ble args.length n = true) (hE : iG E0 (params 0 args))
  (h : ∀ B,BOk B → B.G = G → B.W = cO L → Nx n [] E0 B G L (cu P (.code c) [] (bp P fn (fc B Post)))) : Fn P f args G L Post:=by
 refine ⟨hok,fun w hw=>calls_of_wp hf hb ?_⟩
 rw [hn]
 have:=(h ⟨w,G,cO L⟩ ⟨hw.ok,fun b hb=>(hw.fresh b hb).1⟩ rfl rfl).go _ w ((pq args (by simpa using hlen)).sub hE) hw
 unfold cu at this
 dsimp only at this
 unfold kk cw bp at this
 exact this
def bG (P : Program) (f : FuncId) (args : List Value) (G : Gh) (R : Value → Gh → Prop) : Prop:=Fn P f args G [] (fun v G' L'=>Gh.le G G' ∧ L' = [] ∧ R v G')
theorem ar {fo : Operand} {l : List Operand} {ag : Array TypeId} {d : Nat} {g : Option (Nat × Bool)} {f : FuncId} {fi ca az vs : List Value} {R : Value → Gh → Prop}
  (hf : ev E fo = some (.func (.func f) fi.toArray ca.toArray)) (ha : evs E l = some az) (hv : fi ++ az ++ ca = vs) (hc : bG P f vs G R) (hlt : Nat.blt d n = true)
  (k : ∀ v G',Gh.le G G' → R v G' → Nx n D ((d,v) :: E) B G' L K) : Nx n D E B G L (ow P ⟨some d,.call ⟨.value fo,l.toArray,ag⟩,ty,pos,aft,g⟩ Q K) :=
 yr hf ha hv hc hlt fun v G' L' h=>by obtain ⟨h1,rfl,h2⟩:=h;exact k v G' h1 h2
end
def c9 (x : adB) : List Value:=[S x]
instance : RowF c9 1:=⟨fun _=>rfl⟩
section
variable {P : Program} {n : Nat} {D : List Deferred} {E : bN} {M : World → Prop} {d : Option Nat} {ty : TypeId} {pos : String} {aft : Array Edge} {gd : Option (Nat × Bool)}
theorem fN {T : TypeId} {x : Operand} {desc : TypeDesc} {size bytes b o i : Nat} {zero : Value} {G0 : Gh} {L0 : List Own} {cs : List adB} [TI P T desc size bytes zero] [Kn M G0 L0] (hx : ev E x = some (Pt b (o + i * 1))) (ha : dJ desc = false) (hs : bT G0 b o (ah c9 cs)) (hi : i < cs.length) :
  Gives P n D E M ⟨d,.load T x,ty,pos,aft,gd⟩ (S (ab cs i)):=f8 hx ha (by
 have:=(eG (S:=M) hs).go (i * 1 + 0) (S (ab cs i)) (by rw [fU hi oM];rfl)
 simpa using this)
variable {α : Type} [Inhabited α] {f : α → List Value}
theorem fk {T T0 : TypeId} {x : Operand} {desc : TypeDesc} {size sz bytes b m cap i k : Nat} {zero v : Value} {G0 : Gh} {L0 : List Own} {cs : List α} {xs : List Value} [TI P T desc size bytes zero] [RowF f sz] [Kn M G0 L0] [h : AccB L0 b m cap T0 sz xs] (hx : ev E x = some (Pt b (0 + i * sz + k))) (ha : dJ desc = false) (hxs : xs = ah f cs) (hi : i < cs.length) (hk : Nat.blt k sz = true) (hv : (f (ab cs i))[k]? = some v) :
  Gives P n D E M ⟨d,.load T x,ty,pos,aft,gd⟩ v:=f8 hx ha (by
 have:=(gB (S:=M) h.mem).go (i * sz + k) v (by rw [hxs,fU hi (by simpa using hk)];exact hv)
 rwa [← Nat.add_assoc] at this)
theorem m7 {T T0 : TypeId} {x : Operand} {desc : TypeDesc} {sz bytes b m cap i : Nat} {zero : Value} {G0 : Gh} {L0 : List Own} {cs : List α} {xs : List Value} [TI P T desc sz bytes zero] [RowF f sz] [Kn M G0 L0] [h : AccB L0 b m cap T0 sz xs] (hx : ev E x = some (Pt b (0 + i * sz))) (ha : dJ desc = true) (hxs : xs = ah f cs) (hi : i < cs.length) :
  Gives P n D E M ⟨d,.load T x,ty,pos,aft,gd⟩ (Ag (f (ab cs i))):=j6 (size:=sz) hx ha (RowF.len _) (CellsOf.mk fun k v hv=>by
 have hk : k < sz:=by have:=(List.getElem?_eq_some_iff.1 hv).1;rwa [RowF.len] at this
 have:=(gB (S:=M) h.mem).go (i * sz + k) v (by rw [hxs,fU hi hk];exact hv)
 rwa [← Nat.add_assoc] at this)
end
theorem St.sealA {B : Base} {G : Gh} {w : World} {v : Value} {T : TypeId} {sz m : Nat} {xs : List Value} {R : List Own} (hw : St B G (.acc v T sz m xs :: R) w) : ∃ G',Gh.le G G' ∧ St B G' R w ∧ aT G' v sz m xs:=by
 obtain ⟨h1,⟨rfl,rfl⟩ | ⟨b,cap,rest,rfl,hc,hl,hb⟩⟩ : gV w v T sz m xs:=hw.own _ List.mem_cons_self
 ·exact ⟨G,Gh.le.refl G,hw.weaken (List.sublist_cons_self _ _),h1,.inl ⟨F,F⟩⟩
 ·obtain ⟨G',h2,h3,h4⟩:=St.shutP xs (hw.conv (y:=.blk b (.cells (xs ++ rest).toArray T (0,0))) rfl hb) ⟨rest,rfl⟩
  exact ⟨G',h2,h3,h1,.inr ⟨b,0,cap,F,hc,h4⟩⟩
theorem dO.shutP {P : Program} {f : FuncId} {args : List Value} {G : Gh} {R : Value → Gh → Prop} (h : dO P f args G [] (fun v L'=>∃ u T sz m xs,L' = [.acc u T sz m xs] ∧ ∀ G',Gh.le G G' → aT G' u sz m xs → R v G')) : bG P f args G R :=
 ⟨h.ok,fun w hw=>(h.go w hw).mono fun _ _ ⟨v,G1,L1,h1,h2,h3,u,T,sz,m,xs,h4,h5⟩=>by
  subst h3;subst h4
  obtain ⟨G',h6,h7,h8⟩:=h2.sealA
  exact ⟨v,G',[],h1,h7,h6,F,h5 G' h6 h8⟩⟩
theorem wm (xs : List adB) : xs.map (fun x=>S x) = ah c9 xs:=by induction xs with
 | nil=>rfl
 | cons x xs ih=>simp only [List.map_cons,ah,List.flatMap_cons] at ih ⊢;rw [ih];rfl
theorem oK {P : Program} {n : Nat} {D : List Deferred} {E : bN} {M : World → Prop} {d : Option Nat} {fo : Operand} {l : List Operand} {ag : Array TypeId} {ty : TypeId} {pos : String} {aft : Array Edge} {g : Option (Nat × Bool)} {f : FuncId} {fi ca az vs : List Value} {v : Value}
  (hf : ev E fo = some (.func (.func f) fi.toArray ca.toArray)) (ha : evs E l = some az) (hv : fi ++ az ++ ca = vs) (hx : ∀ w,(callFunc f vs.toArray).run P w = .ok (.value v) w) :
  Gives P n D E M ⟨d,.call ⟨.value fo,l.toArray,ag⟩,ty,pos,aft,g⟩ v:=Gives.mk fun a w hs _=>by
 have h1 : l.toArray.map a.eval = az.toArray:=by rw [List.map_toArray,hs.evs ha]
 subst hv
 simp only [execOp,resolve,hs.ev hf,h1,Deferred.ofValue,Sem.run_bind,Sem.run_pure,Result.andThen_ok,invoke]
 have:=hx w
 simp only [List.append_toArray] at this ⊢
 rw [this]
def k6 : List (adB × Value) → Nat → List MapEntry
 | [],_=>[]
 | (k,v) :: r,i=>{ key:=S k,val:=v,born:=i } :: k6 r (i + 1)
theorem rm (k : adB) (v : Value) : ∀ (kvs : List (adB × Value)) (i : Nat),k6 (kvs ++ [(k,v)]) i = k6 kvs i ++ [{ key:=S k,val:=v,born:=i + kvs.length }]
 | [],i=>rfl
 | (k',v') :: r,i=>by
  have:=rm k v r (i + 1)
  simp only [List.cons_append,k6,this,List.length_cons]
  rw [show i + 1 + r.length = i + (r.length + 1) by omega]
def fH (kvs : List (adB × Value)) : Obj:=.map (k6 kvs 0).toArray kvs.length
def ro (kvs : List (adB × Value)) (k : adB) : Option Value:=(kvs.find? fun x=>decide (k = x.1)).map (·.2)
theorem l5 (k : adB) : ∀ (kvs : List (adB × Value)) (i j : Nat),∃ r,Instr.findNow .string (S k) (k6 kvs i) j = some r ∧ r.map (·.2) = ro kvs k
 | [],_,_=>⟨none,rfl,rfl⟩
 | (k',v) :: r,i,j=>by
  simp only [k6,Instr.findNow,Instr.sameNow]
  have e : ((⟨k.toArray⟩ : ByteArray) == ⟨k'.toArray⟩) = decide (k = k'):=by
   show (k.toArray == k'.toArray) = decide (k = k')
   rw [Bool.eq_iff_iff];simp
  rw [e]
  by_cases h : k = k'
  ·subst h
   simp only [decide_true]
   exact ⟨_,F,by simp [ro]⟩
  ·simp only [h,decide_false]
   obtain ⟨q,h1,h2⟩:=l5 k r (i + 1) (j + 1)
   exact ⟨q,h1,by rw [h2];simp [ro,h]⟩
section
variable {P : Program} {n : Nat} {D : List Deferred} {E : bN} {M : World → Prop} {d : Option Nat} {ty : TypeId} {pos : String} {aft : Array Edge} {gd : Option (Nat × Bool)}
structure MapAt (S : World → Prop) (b : Nat) (kvs : List (adB × Value)) : Prop where
 go : ∀ w,S w → w.heap[b]? = some (fH kvs)
theorem uK {S : World → Prop} {G0 : Gh} {L0 : List Own} [k : Kn S G0 L0] {b : Nat} {kvs : List (adB × Value)} (hm : Own.blk b (fH kvs) ∈ L0) : MapAt S b kvs:=⟨fun w hw=>by
 obtain ⟨B,G,L,_,h2,h3⟩:=k.kn w hw
 exact h3.own _ (h2 _ hm)⟩
theorem fW {S : World → Prop} {G0 : Gh} {L0 : List Own} [k : Kn S G0 L0] {b : Nat} {kvs : List (adB × Value)} (hm : G0 b = some (.ex (fH kvs))) : MapAt S b kvs:=⟨fun w hw=>by
 obtain ⟨B,G,L,h1,_,h3⟩:=k.kn w hw
 obtain ⟨o,h4,h5⟩:=h3.ok b _ (h1 _ _ hm)
 rw [h4];exact congrArg some h5⟩
theorem xV {T kt et : TypeId} {x i : Operand} {b : Nat} {k : adB} {kvs : List (adB × Value)} {s1 b1 s2 b2 s3 b3 : Nat} {z1 z2 z3 : Value} {de : TypeDesc} [TI P T (.map kt et) s1 b1 z1] [TI P kt .string s2 b2 z2] [TI P et de s3 b3 z3]
  (hx : ev E x = some (.map (some b))) (hi : ev E i = some (S k)) (hm : MapAt M b kvs) : Gives P n D E M ⟨d,.lookup T x i false,ty,pos,aft,gd⟩ ((ro kvs k).getD z3):=Gives.mk fun a w hs hw=>by
 have hb:=hm.go w hw
 obtain ⟨r,hf,hr⟩:=l5 k kvs 0 0
 have hkt : P.underlying kt = some .string:=TI.und
 have hc : ∀ e,(Instr.checkKey e 10000 kt (S k)).run P w = .ok () w:=fun e=>MapKept.run_checkKey (k:=S k) hkt (by simp [MapKept.IsKey]) e 9999
 have hfk:=MapKept.run_findKey (w:=w) hkt hf
 simp only [execOp,hs.ev hx,hs.ev hi,Instr.lookup,Sem.run_bind,cF (T:=T) (desc:=.map kt et) (size:=s1) (bytes:=b1) (zero:=z1),Result.andThen_ok,MapKept.run_getObj_map hb,Sem.run_pure,hc,hfk]
 rw [← hr]
 cases r with
 | none=>simp [lI (T:=et) (desc:=de) (size:=s3) (bytes:=b3) (zero:=z3)]
 | some q=>simp
end
section
variable {P : Program} {n : Nat} {D : List Deferred} {E : bN} {B : Base} {G G0 : Gh} {L : List Own} {K : Act → World → Prop} {Q : Exit → Act → World → Prop} {ty : TypeId} {pos : String} {aft : Array Edge} {gd : Option (Nat × Bool)} {dd : Nat}
theorem acJ {T : TypeId} (hlt : Nat.blt dd n = true)
  (k : ∀ b,Nx n D ((dd,.map (some b)) :: E) B G (.blk b (fH []) :: L) K) : Nx n D E B G L (ow P ⟨some dd,.makeMap T none,ty,pos,aft,gd⟩ Q K):=Nx.mk fun a w hs hw=>by
 unfold ow Oper.wp
 have : (execOp a.eval ⟨some dd,.makeMap T none,ty,pos,aft,gd⟩).run P w = .ok (.value (.map (some w.heap.size))) (w.alloc (fH [])):=by
  simp [execOp,Instr.makeMap,fH,k6]
 rw [this,Oper.upon_value]
 exact (k _).go _ _ (hs.put (by simpa using hlt)) (hw.alloc _)
class MapI (L : List Own) (b : Nat) (kvs : outParam (List (adB × Value))) : Prop where
 mem : Own.blk b (fH kvs) ∈ L
instance {b : Nat} {kvs : List (adB × Value)} {r : List Own} : MapI (.blk b (fH kvs) :: r) b kvs:=⟨.head _⟩
instance {b : Nat} {kvs : List (adB × Value)} {z : Own} {r : List Own} [h : MapI r b kvs] : MapI (z :: r) b kvs:=⟨.tail _ h.mem⟩
class UpdM (b : Nat) (kvs' : List (adB × Value)) (L : List Own) (kvs : outParam (List (adB × Value))) (L' : outParam (List Own)) : Prop where
 upd : UpdO (.blk b (fH kvs)) (.blk b (fH kvs')) L L'
instance {b : Nat} {kvs kvs' : List (adB × Value)} {r : List Own} : UpdM b kvs' (.blk b (fH kvs) :: r) kvs (.blk b (fH kvs') :: r):=⟨.here⟩
instance {b : Nat} {kvs kvs' : List (adB × Value)} {z : Own} {r r' : List Own} [h : UpdM b kvs' r kvs r'] : UpdM b kvs' (z :: r) kvs (z :: r'):=⟨.there h.upd⟩
theorem acH {T kt et : TypeId} {x i y : Operand} {b : Nat} {k : adB} {v : Value} {kvs kvs0 : List (adB × Value)} {s1 b1 s2 b2 : Nat} {z1 z2 : Value} {L' : List Own} [TI P T (.map kt et) s1 b1 z1] [TI P kt .string s2 b2 z2] [MapI L b kvs] [hu : UpdM b (kvs ++ [(k,v)]) L kvs0 L']
  (hx : ev E x = some (.map (some b))) (hi : ev E i = some (S k)) (hy : ev E y = some v) (he : kvs0 = kvs) (hno : ro kvs k = none)
  (h : Nx n D E B G L' K) : Nx n D E B G L (ow P ⟨none,.mapUpdate T x i y,ty,pos,aft,gd⟩ Q K):=Nx.mk fun a w hs hw=>by
 subst he
 unfold ow Oper.wp
 have hb : w.heap[b]? = some (fH kvs0):=hw.own _ hu.upd.mem
 obtain ⟨r,hf,hr⟩:=l5 k kvs0 0 0
 rw [hno] at hr
 have hr0 : r = none:=by cases r with
  | none=>rfl
  | some q=>simp at hr
 subst hr0
 have hkt : P.underlying kt = some .string:=TI.und
 have hc : ∀ e,(Instr.checkKey e 10000 kt (S k)).run P w = .ok () w:=fun e=>MapKept.run_checkKey (k:=S k) hkt (by simp [MapKept.IsKey]) e 9999
 have hfk:=MapKept.run_findKey (w:=w) hkt hf
 have e : fH (kvs0 ++ [(k,v)]) = .map ((k6 kvs0 0).toArray.push { key:=S k,val:=v,born:=kvs0.length }) (kvs0.length + 1):=by
  unfold fH;rw [rm];simp
 have : (execOp a.eval ⟨none,.mapUpdate T x i y,ty,pos,aft,gd⟩).run P w = .ok .skip (setBlk w b (fH (kvs0 ++ [(k,v)]))):=by
  rw [e]
  have hb' : w.heap[b]? = some (.map (k6 kvs0 0).toArray kvs0.length):=hb
  simp only [execOp,hs.ev hx,hs.ev hi,hs.ev hy,Instr.mapUpdate,Sem.run_bind,cF (T:=T) (desc:=.map kt et) (size:=s1) (bytes:=b1) (zero:=z1),Result.andThen_ok,MapKept.run_getObj_map hb',hc,hfk,MapKept.run_setObj_map _ hb',Sem.run_pure]
  rfl
 rw [this,Oper.upon_skip]
 exact h.go _ _ hs (hw.setBlk hu.upd)
theorem St.sealX {w : World} {b : Nat} {o : Obj} {R : List Own} (h : St B G (.blk b o :: R) w) : ∃ G',Gh.le G G' ∧ St B G' R w ∧ G' b = some (.ex o):=by
 have hfr:=h.fresh b (by simp [cO,Own.bk])
 have hnd:=h.nd
 simp only [cO,List.flatMap_cons,Own.bk,List.singleton_append,List.nodup_cons] at hnd
 refine ⟨fun c=>if c = b then some (.ex o) else G c,fun c g hc=>?_,?_,by simp⟩
 ·have : c ≠ b:=fun e=>by subst e;rw [hfr.1] at hc;cases hc
  simp [this,hc]
 ·refine ⟨fun c g hc=>?_,fun x hx'=>h.own x (List.mem_cons_of_mem _ hx'),fun c hc=>?_,hnd.2,h.os,h.tape,h.output,h.size,fun c hc hW=>?_⟩
  ·by_cases hcb : c = b
   ·subst hcb
    simp only [↓reduceIte,Option.some.injEq] at hc
    subst hc
    exact ⟨_,h.own _ List.mem_cons_self,F⟩
   ·simp only [if_neg hcb] at hc
    exact h.ok c g hc
  ·have hcb : c ≠ b:=fun e=>by subst e;exact hnd.1 hc
   have:=h.fresh c (by simp only [cO,List.flatMap_cons,Own.bk,List.singleton_append];exact List.mem_cons_of_mem _ hc)
   simp [hcb,this]
  ·have hcb : c ≠ b:=fun e=>by
    subst e
    rcases hfr.2 with h3 | h3
    ·omega
    ·exact hW h3
   simp only [if_neg hcb]
   exact h.frame c hc hW
class DelM (L : List Own) (b : Nat) (kvs : outParam (List (adB × Value))) (R : outParam (List Own)) : Prop where
 del : Del (.blk b (fH kvs)) L R
instance {b : Nat} {kvs : List (adB × Value)} {r : List Own} : DelM (.blk b (fH kvs) :: r) b kvs r:=⟨.here⟩
instance {b : Nat} {kvs : List (adB × Value)} {z : Own} {r r' : List Own} [h : DelM r b kvs r'] : DelM (z :: r) b kvs (z :: r'):=⟨.there h.del⟩
theorem Nx.sealM {b : Nat} {kvs : List (adB × Value)} {L' : List Own} [hL : DelM L b kvs L'] (h : ∀ G',Gh.le G G' → G' b = some (.ex (fH kvs)) → Nx n D E B G' L' K) : Nx n D E B G L K:=Nx.mk fun a w hs hw=>by
 obtain ⟨G',h1,h2,h3⟩:=(hw.perm hL.del.perm).sealX
 exact (h G' h1 h3).go a w hs h2
theorem Nx.sealC {b : Nat} {cs : List Value} {T : TypeId} {L' : List Own} [hL : DelB L b cs T L'] (h : ∀ G',Gh.le G G' → bT G' b 0 cs → Nx n D E B G' L' K) : Nx n D E B G L K:=Nx.sealB hL.del h
theorem Nx.sealS {v : Value} {T : TypeId} {sz m : Nat} {xs : List Value} {L' : List Own} [hL : AccI L v T sz m xs L'] (h : ∀ G',Gh.le G G' → aT G' v sz m xs → Nx n D E B G' L' K) : Nx n D E B G L K:=Nx.sealA hL.del h
end
section
variable {P : Program} {n : Nat} {D : List Deferred} {E : bN} {M : World → Prop} {d : Option Nat} {ty : TypeId} {pos : String} {aft : Array Edge} {gd : Option (Nat × Bool)}
theorem vJ {x y : Operand} {T T' : TypeId} {a b : Int} (hx : ev E x = some (I a)) (hy : ev E y = some (I b)) : Gives P n D E M ⟨d,.call ⟨.builtin .min,[x,y].toArray,[T,T'].toArray⟩,ty,pos,aft,gd⟩ (I (min a b)):=Gives.mk fun a' w hs _=>by
 have e : (if b < a then b else a) = min a b:=by rw [Int.min_def];split <;> split <;> omega
 simp [execOp,resolve,hs.ev hx,hs.ev hy,invoke,builtin,Lib.run_min_ints,e]
theorem acu {x y : Operand} {T T' : TypeId} {a b : Int} (hx : ev E x = some (I a)) (hy : ev E y = some (I b)) : Gives P n D E M ⟨d,.call ⟨.builtin .max,[x,y].toArray,[T,T'].toArray⟩,ty,pos,aft,gd⟩ (I (max a b)):=Gives.mk fun a' w hs _=>by
 have e : (if b > a then b else a) = max a b:=by rw [Int.max_def];split <;> split <;> omega
 simp [execOp,resolve,hs.ev hx,hs.ev hy,invoke,builtin,Lib.run_max_ints,e]
end
section
variable {P : Program} {n : Nat} {D : List Deferred} {E : bN} {B : Base} {G G0 : Gh} {L : List Own} {K : Act → World → Prop} {Q : Exit → Act → World → Prop} {ty : TypeId} {pos : String} {aft : Array Edge} {gd : Option (Nat × Bool)} {dd : Nat}
theorem wX {xs : List adB} {c : adB} {T T0 : TypeId} {x y : Operand} {desc : TypeDesc} {bytes b o m : Nat} {zero : Value} {cs0 : List Value} {fr : Nat × Nat} {L' : List Own} [TI P T desc 1 bytes zero] [BlkI L b (ah c9 xs ++ cj [S []] m) T0 fr] [hu : UpdI b (ah c9 (xs ++ [c]) ++ cj [S []] (m - 1)) L cs0 T0 L']
  (hx : ev E x = some (Pt b o)) (hy : ev E y = some (S c)) (he : cs0 = ah c9 xs ++ cj [S []] m) (ho : o = xs.length) (hm : 0 < m)
  (k : Nx n D E B G L' K) : Nx n D E B G L (ow P ⟨none,.store T x y,ty,pos,aft,gd⟩ Q K):=by
 refine oX hx hy F hu.upd ?_ k
 obtain ⟨m,rfl⟩ : ∃ k,m = k + 1:=⟨m - 1,oM⟩
 subst he
 have hlen:=cN (f:=c9) xs
 rw [Nat.mul_one] at hlen
 rw [ho,← hlen,bW]
 simp only [cj,Nat.add_sub_cancel,List.append_assoc]
 exact g9 _ (z:=[S []]) (vs:=c9 c) F (by simp [c9])
end
def cU (p : Nat → Bool) : List Value:=(List.range 256).map fun c=>Bo (p c)
theorem eo (p : Nat → Bool) : (cU p).length = 256:=by simp [cU]
theorem nx {p : Nat → Bool} {c : Nat} (h : c < 256) : (cU p)[c]? = some (Bo (p c)):=by simp [cU,h]
theorem xj {p : Nat → Bool} {c : Nat} : (cU p).set c (Bo true) = cU (fun x=>p x || x == c):=by
 apply List.ext_getElem?
 intro i
 rw [List.getElem?_set]
 by_cases h : i < 256
 ·rw [nx h,nx h,eo]
  by_cases hc : c = i
  ·subst hc;simp [h]
  ·have : (i == c) = false:=by simp;omega
   simp [hc,this]
 ·have h1 : (cU p)[i]? = none:=List.getElem?_eq_none (by rw [eo];omega)
  have h2 : (cU fun x=>p x || x == c)[i]? = none:=List.getElem?_eq_none (by rw [eo];omega)
  rw [h1,h2,eo]
  by_cases hc : c = i <;> simp [hc,h]
theorem sx {v : Value} : ∀ {cs : List Value} {o : Nat},o < cs.length → PutsR cs o [v] (cs.set o v)
 | _ :: cs,0,_=>.here .nil
 | _ :: cs,o + 1,h=>.there (sx (by simpa using h))
theorem sy : ∀ {cs vs : List Value},cs.length = vs.length → vs ≠ [] → PutsR cs 0 vs vs
 | [],[],_,h=>absurd rfl h
 | _ :: cs,v :: vs,h,_=>by
  by_cases h0 : vs = []
  ·subst h0
   have : cs = []:=by simpa using h
   subst this;exact .here .nil
  ·exact .here (sy (by simpa using h) h0)
 | [],_ :: _,h,_=>by simp at h
 | _ :: _,[],_,h=>absurd rfl h
theorem wd (p : Nat → Bool) : er (cU p) = true:=by
 have : ∀ l : List Nat,er (l.map fun c=>Bo (p c)) = true:=fun l=>by
  induction l with
  | nil=>rfl
  | cons a l ih=>simp only [List.map_cons,er,ih,Bool.and_true];rfl
 exact this _
section
variable {P : Program} {n : Nat} {D : List Deferred} {E : bN} {M : World → Prop} {d : Option Nat} {ty : TypeId} {pos : String} {aft : Array Edge} {gd : Option (Nat × Bool)}
theorem s6 {T el : TypeId} {x i : Operand} {desc' : TypeDesc} {size bytes size' bytes' len : Nat} {zero zero' : Value} {k : IntKind} {m b o : Nat} [TI P T (.array len el) size bytes zero] [TI P el desc' size' bytes' zero']
  (hx : ev E x = some (Pt b o)) (hi : ev E i = some (.int k (m : Int))) (h0 : m < len) : Gives P n D E M ⟨d,.indexAddr T x i,ty,pos,aft,gd⟩ (Pt b (o + m * size')):=Gives.mk fun a w hs _=>by
 simp only [execOp,hs.ev hx,hs.ev hi,Instr.indexAt,Instr.sureAddr,asIntOf,Sem.run_bind,Sem.run_pure,Result.andThen_ok,cF (desc:=.array len el) (size:=size) (bytes:=bytes) (zero:=zero)]
 rw [if_pos ⟨oM,oM⟩]
 simp only [Sem.run_bind,dR (desc:=desc') (size:=size') (bytes:=bytes') (zero:=zero'),Result.andThen_ok,Sem.run_pure]
 by_cases hz : m * size' = 0 <;> simp [Addr.add,hz]
theorem abe {T T0 : TypeId} {x : Operand} {desc : TypeDesc} {size bytes : Nat} {zero : Value} {b c : Nat} {p : Nat → Bool} {G0 : Gh} {L0 : List Own} {cs : List Value} {fr : Nat × Nat} [TI P T desc size bytes zero] [Kn M G0 L0] [h : BlkI L0 b cs T0 fr] (hx : ev E x = some (Pt b (0 + c * 1))) (ha : dJ desc = false) (hcs : cs = cU p) (hc : c < 256) :
  Gives P n D E M ⟨d,.load T x,ty,pos,aft,gd⟩ (Bo (p c)):=f8 hx ha (by have:=(en (S:=M) h.mem).go (0 + c * 1) (Bo (p c)) (by rw [hcs];simp [nx hc]);simpa using this)
theorem abd {T T0 : TypeId} {x : Operand} {desc : TypeDesc} {size bytes : Nat} {zero : Value} {b : Nat} {p : Nat → Bool} {G0 : Gh} {L0 : List Own} {cs : List Value} {fr : Nat × Nat} [TI P T desc size bytes zero] [Kn M G0 L0] [h : BlkI L0 b cs T0 fr] (hx : ev E x = some (Pt b 0)) (ha : dJ desc = true) (hcs : cs = cU p) (hz : Nat.beq size 256 = true) :
  Gives P n D E M ⟨d,.load T x,ty,pos,aft,gd⟩ (Ag (cU p)):=j6 hx ha (by rw [eo];exact (Nat.eq_of_beq_eq_true hz).symm) (by rw [← hcs];exact en (S:=M) h.mem)
theorem ace {M : World → Prop} {T T0 : TypeId} {a b : Nat} {desc : TypeDesc} {size bytes : Nat} {zero : Value} {p : Nat → Bool} {cs : List Value} {fr : Nat × Nat} {G0 : Gh} {L0 : List Own} [TI P T desc size bytes zero] [Kn M G0 L0] [h : BlkI L0 b cs T0 fr] (hx : look E a = some (Pt b 0)) (ha : dJ desc = true) (hcs : cs = cU p) (hz : Nat.beq size 256 = true) :
  ∃ b o,look E a = some (.pointer (some ⟨b,o,none⟩)) ∧ ∀ w,M w → (loadVar T ⟨b,o,none⟩).run P w = .ok (Ag (cU p)) w :=
 ⟨b,0,hx,fun w hw=>kh (desc:=desc) (size:=size) (bytes:=bytes) (zero:=zero) ha (by rw [eo];exact (Nat.eq_of_beq_eq_true hz).symm) (by rw [← hcs];exact en (S:=M) h.mem) w hw⟩
end
section
variable {P : Program} {n : Nat} {D : List Deferred} {E : bN} {B : Base} {G G0 : Gh} {L : List Own} {K : Act → World → Prop} {Q : Exit → Act → World → Prop} {ty : TypeId} {pos : String} {aft : Array Edge} {gd : Option (Nat × Bool)} {dd : Nat}
theorem abF {T T0 : TypeId} {x y : Operand} {desc : TypeDesc} {bytes : Nat} {zero : Value} {b c : Nat} {p : Nat → Bool} {cs cs0 : List Value} {fr : Nat × Nat} {L' : List Own} [TI P T desc 1 bytes zero] [BlkI L b cs T0 fr] [hu : UpdI b (cU fun x=>p x || x == c) L cs0 T0 L'] (hx : ev E x = some (Pt b (0 + c * 1))) (hy : ev E y = some (Bo true)) (hcs : cs = cU p) (hcs0 : cs0 = cU p) (hc : c < 256)
  (k : Nx n D E B G L' K) : Nx n D E B G L (ow P ⟨none,.store T x y,ty,pos,aft,gd⟩ Q K):=oX hx hy rfl hu.upd (by
 subst hcs0
 have:=sx (v:=Bo true) (cs:=cU p) (o:=c) (by rw [eo];exact hc)
 rw [xj] at this
 simpa using this) k
theorem tH {T T0 : TypeId} {x y : Operand} {desc : TypeDesc} {size bytes : Nat} {zero : Value} {b : Nat} {p q : Nat → Bool} {cs cs0 : List Value} {fr : Nat × Nat} {L' : List Own} [TI P T desc size bytes zero] [BlkI L b cs T0 fr] [hu : UpdI b (cU p) L cs0 T0 L'] (hx : ev E x = some (Pt b 0)) (hy : ev E y = some (Ag (cU p))) (hcs0 : cs0 = cU q) (hz : Nat.beq size 256 = true)
  (k : Nx n D E B G L' K) : Nx n D E B G L (ow P ⟨none,.store T x y,ty,pos,aft,gd⟩ Q K):=qL (vs:=cU p) hx hy rfl (by rw [eo];simpa using (Nat.eq_of_beq_eq_true hz).symm) (by have:=eo p;cases h : cU p with | nil=>rw [h] at this;simp at this | cons=>rfl) (wd p) hu.upd (by
 subst hcs0
 exact sy (by rw [eo,eo]) (fun h=>by have:=eo p;rw [h] at this;simp at this)) k
end
def yK : Nat → Bool:=fun _=>false
def yJ : List Value:=(List.range 256).map fun _=>Bo false
theorem wc : cU yK = yJ:=rfl
theorem tV {P : Program} {n : Nat} {D : List Deferred} {E : bN} {B : Base} {G : Gh} {L : List Own} {K : Act → World → Prop} {Q : Exit → Act → World → Prop} {ty : TypeId} {pos : String} {aft : Array Edge} {gd : Option (Nat × Bool)} {dd : Nat}
  {T : TypeId} {desc : TypeDesc} {size bytes : Nat} {zero : Value} [TI P T desc size bytes zero] (hz : zero = Ag yJ) (hlt : Nat.blt dd n = true)
  (k : ∀ b,Nx n D ((dd,Pt b 0) :: E) B G (.blk b (.cells (cU yK).toArray T (0,0)) :: L) K) : Nx n D E B G L (ow P ⟨some dd,.alloc T,ty,pos,aft,gd⟩ Q K):=ve (by rw [hz,wc];rfl) hlt k
attribute [irreducible] cU
section
variable {P : Program} {n : Nat} {D : List Deferred} {E : bN} {M : World → Prop} {d : Option Nat} {ty : TypeId} {pos : String} {aft : Array Edge} {gd : Option (Nat × Bool)}
variable {α : Type} [Inhabited α] {f : α → List Value}
theorem fO {T : TypeId} {x : Operand} {desc : TypeDesc} {size sz bytes b o i k : Nat} {zero v : Value} {G0 : Gh} {L0 : List Own} {cs : List α} {y : α} [TI P T desc size bytes zero] [RowF f sz] [Kn M G0 L0] (hx : ev E x = some (Pt b (o + i * sz + k))) (ha : dJ desc = false) (hs : bT G0 b o (ah f cs)) (hi : i < cs.length) (hy : ab cs i = y) (hk : Nat.blt k sz = true) (hv : (f y)[k]? = some v) :
  Gives P n D E M ⟨d,.load T x,ty,pos,aft,gd⟩ v:=b8 hx ha hs hi hk (by rw [hy];exact hv)
theorem gQ {T : TypeId} {x : Operand} {desc : TypeDesc} {sz bytes b o i : Nat} {zero : Value} {G0 : Gh} {L0 : List Own} {cs : List α} {y : α} [TI P T desc sz bytes zero] [RowF f sz] [Kn M G0 L0] (hx : ev E x = some (Pt b (o + i * sz))) (ha : dJ desc = true) (hs : bT G0 b o (ah f cs)) (hi : i < cs.length) (hy : ab cs i = y) :
  Gives P n D E M ⟨d,.load T x,ty,pos,aft,gd⟩ (Ag (f y)):=by rw [← hy];exact dM hx ha hs hi
end
section
variable {P : Program} {n : Nat} {D : List Deferred} {E : bN} {B : Base} {G : Gh} {L : List Own} {K : Act → World → Prop} {Q : Exit → Act → World → Prop} {ty : TypeId} {pos : String} {aft : Array Edge} {gd : Option (Nat × Bool)} {dd : Nat}
theorem bC {v : Value} {m k b c : Nat} {s x : Operand} {T el T0 : TypeId} {desc : TypeDesc} {size bytes s1 b1 : Nat} {z1 zero : Value} {zs xs news : List Value} {fr : Nat × Nat} {L' : List Own} [TI P T (.slice el) s1 b1 z1] [TI P el desc size bytes zero] [ha : AccI L v el size m xs L'] [hb' : BlkI L b news T0 fr]
  (hs : ev E s = some v) (hx : ev E x = some (.slice (some ⟨b,0,none⟩) k c)) (hl : Nat.beq news.length (k * size) = true) (h1 : er news = true)
  (hz : eP zero = some zs) (hzl : Nat.beq zs.length size = true) (hb0 : Nat.beq bytes 0 = false) (hlt : Nat.blt dd n = true) (hk : Nat.blt 0 k = true) (hb : (2 * (m + k) + 768) * bytes ≤ 281474976710656)
  (kk : ∀ b' c',Nx n D ((dd,.slice (some ⟨b',0,none⟩) (m + k) c') :: E) B G (.acc (.slice (some ⟨b',0,none⟩) (m + k) c') el size (m + k) (xs ++ news) :: L') K) :
  Nx n D E B G L (ow P ⟨some dd,.call ⟨.builtin .append,[s,x].toArray,[T,T].toArray⟩,ty,pos,aft,gd⟩ Q K) :=
 o3 hs hx ha.del (kH hl (en hb'.mem)) h1 (eV hz) hzl hb0 hb hlt fun v'=>Nx.shp (.head _) fun hsh=>by
  have hk' : 0 < k:=by simpa using hk
  obtain ⟨b',c',rfl⟩:=hsh.pos oM
  exact kk b' c'
end
section
variable {P : Program} {n : Nat} {D : List Deferred} {E : bN} {M : World → Prop} {d : Option Nat} {ty : TypeId} {pos : String} {aft : Array Edge} {gd : Option (Nat × Bool)}
theorem db {T kt et : TypeId} {x i : Operand} {b : Nat} {k : adB} {r : Option Value} {kvs : List (adB × Value)} {s1 b1 s2 b2 s3 b3 : Nat} {z1 z2 z3 v : Value} {de : TypeDesc} [TI P T (.map kt et) s1 b1 z1] [TI P kt .string s2 b2 z2] [TI P et de s3 b3 z3]
  (hx : ev E x = some (.map (some b))) (hi : ev E i = some (S k)) (hm : MapAt M b kvs) (hk : ro kvs k = r) (hv : r.getD z3 = v) : Gives P n D E M ⟨d,.lookup T x i false,ty,pos,aft,gd⟩ v:=by
 subst hv;subst hk;exact xV hx hi hm
end
section
variable {P : Program} {n : Nat} {D : List Deferred} {E : bN} {M : World → Prop} {d : Option Nat} {ty : TypeId} {pos : String} {aft : Array Edge} {gd : Option (Nat × Bool)}
variable {α : Type} [Inhabited α] {f : α → List Value}
theorem f9 {T : TypeId} {x : Operand} {desc : TypeDesc} {size sz bytes b o i k : Nat} {zero : Value} {vs : List Value} {G0 : Gh} {L0 : List Own} {cs : List α} [TI P T desc size bytes zero] [RowF f sz] [Kn M G0 L0] (hx : ev E x = some (Pt b (o + i * sz + k))) (ha : dJ desc = true) (hs : bT G0 b o (ah f cs)) (hi : i < cs.length) (hv : lE (f (ab cs i)) k size = some vs) (hl : Nat.beq vs.length size = true) :
  Gives P n D E M ⟨d,.load T x,ty,pos,aft,gd⟩ (Ag vs):=j6 (size:=size) hx ha (Nat.eq_of_beq_eq_true hl) (by
 have h : CellsOf M b (o + i * sz) (f (ab cs i)):=CellsOf.mk fun j v hj=>by
  have hlt : j < sz:=by have:=(List.getElem?_eq_some_iff.1 hj).1;rwa [RowF.len] at this
  have:=(eG (S:=M) hs).go (i * sz + j) v (by rw [fU hi hlt];exact hj)
  rwa [← Nat.add_assoc] at this
 exact h.take hv)
end
section
variable {P : Program} {n : Nat} {D : List Deferred} {E : bN} {M : World → Prop} {d : Option Nat} {ty : TypeId} {pos : String} {aft : Array Edge} {gd : Option (Nat × Bool)}
variable {α : Type} [Inhabited α] {f : α → List Value}
theorem cm {T : TypeId} {x : Operand} {desc : TypeDesc} {size bytes b o i : Nat} {zero v : Value} {G0 : Gh} {L0 : List Own} {cs : List α} {y : α} [TI P T desc size bytes zero] [RowF f 1] [Kn M G0 L0] (hx : ev E x = some (Pt b (o + i * 1))) (ha : dJ desc = false) (hs : bT G0 b o (ah f cs)) (hi : i < cs.length) (hy : ab cs i = y) (hv : (f y)[0]? = some v) :
  Gives P n D E M ⟨d,.load T x,ty,pos,aft,gd⟩ v:=f8 hx ha (by
 have:=(eG (S:=M) hs).go (i * 1 + 0) v (by rw [fU hi oM,hy];exact hv)
 simpa using this)
end
abbrev Pr:=adB × adB
def aaV : List Pr → Nat → List MapEntry
 | [],_=>[]
 | p :: r,i=>{ key:=Ag [S p.1,S p.2],val:=Bo true,born:=i } :: aaV r (i + 1)
def mY (ps : List Pr) : Obj:=.map (aaV ps 0).toArray ps.length
theorem aaw {a b c d : adB} (h : Ag [S a,S b] = Ag [S c,S d]) : a = c ∧ b = d:=by
 simp only [Value.agg.injEq] at h
 have h2:=congrArg Array.toList h
 simp only [List.cons.injEq,and_true] at h2
 obtain ⟨h3,h4⟩:=h2
 exact ⟨by have:=h3;simp only [Value.string.injEq,ByteArray.mk.injEq] at this;simpa using congrArg Array.toList this,by have:=h4;simp only [Value.string.injEq,ByteArray.mk.injEq] at this;simpa using congrArg Array.toList this⟩
class PK (P : Program) (kt : TypeId) : Prop where
 law : WideMaps.KeyLaw P kt
 some' : ∀ a b : adB,a.length ≤ 1000000 → b.length ≤ 1000000 → ∃ l,keyOf P kt (Ag [S a,S b]) = some l
 gd : P.eqGuardType P.depth kt = false
 eq' : ∀ (w : World) (a b c d : adB),(a.length ≤ 1000000 ∧ b.length ≤ 1000000) → (c.length ≤ 1000000 ∧ d.length ≤ 1000000) → (Op.equal kt (Ag [S a,S b]) (Ag [S c,S d])).run P w = .ok (decide (a = c ∧ b = d)) w
theorem lV {P : Program} {kt st N : Nat} {fs : Array Field} (hT : P.underlying kt = some (.struct fs)) (hf : fs.toList.map (fun f => (f.type, f.offset)) = [(st, 0), (st, 1)]) (hn : fs.all (·.name != "_") = true) (hs : P.underlying st = some .string) (c2 : P.cellsOf kt = 2) (c1 : P.cellsOf st = 1) (hk : P.keyType kt = true) (hN : P.types.size = N + 1)
  {a b : adB} (ha : a.length ≤ 1000000) (hb : b.length ≤ 1000000) : ∃ l,keyOf P kt (Ag [S a,S b]) = some l:=by
 obtain ⟨l⟩:=fs
 have hlen : l.length = 2:=by have:=congrArg List.length hf;simpa using this
 match l,hlen,hf with
 | [f0,f1],_,hf =>
  simp only [List.map_cons,List.map_nil,List.cons.injEq,Prod.mk.injEq,and_true] at hf
  obtain ⟨⟨t0,o0⟩,t1,o1⟩:=hf
  have hm : ∀ x : adB,x.length ≤ 1000000 → (⟨x.toArray⟩ : ByteArray).size ≤ maxLen:=fun x hx=>by
   have e : (⟨x.toArray⟩ : ByteArray).size = x.length:=by show x.toArray.size = _;simp
   have hm2 : maxLen = 9223372036854775807:=rfl
   omega
  have e1 : ∀ x : adB,x.length ≤ 1000000 → P.keyLits (N + 1) st [S x] = some [.string x]:=fun x hx=>by
   rw [Program.keyLits]
   all_goals first | exact hs | rw [if_pos (hm x hx)]
  refine ⟨.string (keyBytes [.string a,.string b]),?_⟩
  unfold keyOf
  rw [hT]
  dsimp only
  have hfo : (Ag [S a,S b]).formed P kt = true:=by simp [Value.formed,hT,c2]
  rw [hk,hfo,hN]
  simp only [Bool.and_self,if_true]
  have e2 : P.keyLits (N + 1 + 1) kt [S a,S b] = some [.string a,.string b]:=by
   unfold Program.keyLits
   rw [hT]
   dsimp only
   rw [if_pos ⟨by rw [c2];rfl,hn⟩]
   simp only [List.mapM_cons,List.mapM_nil,t0,o0,t1,o1,c1,List.drop_zero,List.take_succ_cons,List.take_zero,List.drop_succ_cons,e1 a ha,e1 b hb]
   rfl
  show (P.keyLits (N + 1 + 1) kt [S a,S b]).map _ = _
  rw [e2];rfl
theorem PK.mk' {P : Program} {kt st N : Nat} {fs : Array Field} (hl : laidOutB P = true) (hT : P.underlying kt = some (.struct fs)) (hf : fs.toList.map (fun f => (f.type, f.offset)) = [(st, 0), (st, 1)]) (hn : fs.all (·.name != "_") = true) (hs : P.underlying st = some .string) (c2 : P.cellsOf kt = 2) (c1 : P.cellsOf st = 1) (hk : P.keyType kt = true) (hN : P.types.size = N + 1) (hN2 : Nat.ble (N + 3) 10000 = true) (hrow : Nat.blt kt (N + 1) = true) (hgd : P.eqGuardType P.depth kt = false) : PK P kt := by
 have hwide : (match P.underlying kt with | some (.array _ _) | some (.struct _)=>true | _=>false) = true:=by rw [hT]
 have hN3 : N + 3 ≤ 10000:=by simpa using hN2
 have hlaw:=deep_law_gate hl (by rw [hN];omega) (k:=kt) (by rw [hN];simpa using hrow) hk hwide
 refine ⟨hlaw,fun a b ha hb=>lV hT hf hn hs c2 c1 hk hN ha hb,hgd,fun w a b c d h1 h2=>?_⟩
 obtain ⟨l1,e1⟩:=lV hT hf hn hs c2 c1 hk hN h1.1 h1.2
 obtain ⟨l2,e2⟩:=lV hT hf hn hs c2 c1 hk hN h2.1 h2.2
 obtain ⟨r,hr,hiff⟩:=run_equal_deep w (m:=P.types.size + 1) (by rw [hN];omega) hk hwide e1 e2
 rw [hr]
 congr 1
 rw [Bool.eq_iff_iff,hiff,decide_eq_true_eq]
 constructor
 ·intro e;subst e;exact aaw (hlaw.inj e1 e2)
 ·rintro ⟨rfl,rfl⟩;rw [e1] at e2;exact Option.some.inj e2
section
variable {P : Program} {n : Nat} {D : List Deferred} {E : bN} {M : World → Prop} {d : Option Nat} {ty : TypeId} {pos : String} {aft : Array Edge} {gd : Option (Nat × Bool)}
end
section
variable {P : Program} {n : Nat} {D : List Deferred} {E : bN} {B : Base} {G G0 : Gh} {L : List Own} {K : Act → World → Prop} {Q : Exit → Act → World → Prop} {ty : TypeId} {pos : String} {aft : Array Edge} {gd : Option (Nat × Bool)} {dd : Nat}
class MapIP (L : List Own) (b : Nat) (ps : outParam (List Pr)) : Prop where
 mem : Own.blk b (mY ps) ∈ L
instance {b : Nat} {ps : List Pr} {r : List Own} : MapIP (.blk b (mY ps) :: r) b ps:=⟨.head _⟩
instance {b : Nat} {ps : List Pr} {z : Own} {r : List Own} [h : MapIP r b ps] : MapIP (z :: r) b ps:=⟨.tail _ h.mem⟩
class UpdP (b : Nat) (ps' : List Pr) (L : List Own) (ps : outParam (List Pr)) (L' : outParam (List Own)) : Prop where
 upd : UpdO (.blk b (mY ps)) (.blk b (mY ps')) L L'
instance {b : Nat} {ps ps' : List Pr} {r : List Own} : UpdP b ps' (.blk b (mY ps) :: r) ps (.blk b (mY ps') :: r):=⟨.here⟩
instance {b : Nat} {ps ps' : List Pr} {z : Own} {r r' : List Own} [h : UpdP b ps' r ps r'] : UpdP b ps' (z :: r) ps (z :: r'):=⟨.there h.upd⟩
class DelP (L : List Own) (b : Nat) (ps : outParam (List Pr)) (R : outParam (List Own)) : Prop where
 del : Del (.blk b (mY ps)) L R
instance {b : Nat} {ps : List Pr} {r : List Own} : DelP (.blk b (mY ps) :: r) b ps r:=⟨.here⟩
instance {b : Nat} {ps : List Pr} {z : Own} {r r' : List Own} [h : DelP r b ps r'] : DelP (z :: r) b ps (z :: r'):=⟨.there h.del⟩
theorem vW {fo : Operand} {l : List Operand} {ag : Array TypeId} {d : Nat} {g : Option (Nat × Bool)} {f : FuncId} {fi ca az vs : List Value} {b : Nat} {cs xs : List Value} {T el : TypeId} {u : Value} {sz m : Nat} {R1 R : List Own} {Post : Value → List Own → Prop}
  [hd : DelB L b cs T R1] [ha2 : AccI R1 u el sz m xs R] (hf : ev E fo = some (.func (.func f) fi.toArray ca.toArray)) (ha : evs E l = some az) (hv : fi ++ az ++ ca = vs) (hc : dO P f vs G [.blk b (.cells cs.toArray T (0,0)),.acc u el sz m xs] Post) (hlt : Nat.blt d n = true)
  (k : ∀ v L',Post v L' → Nx n D ((d,v) :: E) B G (L' ++ R) K) : Nx n D E B G L (ow P ⟨some d,.call ⟨.value fo,l.toArray,ag⟩,ty,pos,aft,g⟩ Q K) :=
 iC (Lp:=[.blk b (.cells cs.toArray T (0,0)),.acc u el sz m xs]) hf ha hv hc (hd.del.perm.trans (ha2.del.perm.cons _)) hlt fun v G' L' h=>by obtain ⟨rfl,h⟩:=h;exact k v L' h
end
end Go.E
