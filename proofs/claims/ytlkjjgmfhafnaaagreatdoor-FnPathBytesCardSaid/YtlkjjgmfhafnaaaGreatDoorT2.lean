/- Contracts and plain laws that the statement rests on, part 2. Conditions: as each says. -/
import Derived.Test.YtlkjjgmfhafnaaaGreatDoorT1
set_option linter.unusedVariables false
set_option linter.unusedSimpArgs false
namespace Go.E
section
variable {P : Program} {n : Nat} {D : List Deferred} {E : bx} {M : World → Prop} {d : Option Nat} {ty : TypeId} {pos : String} {aft : Array Edge} {gd : Option (Nat × Bool)}
theorem yB {x : Operand} {T el : TypeId} {size bytes : Nat} {zero : Value} {p : Option Addr} {len cap : Nat} [TI P T (.slice el) size bytes zero] (hx : ev E x = some (.slice p len cap)) : Gives P n D E M ⟨d,.call ⟨.builtin .cap,[x].toArray,[T].toArray⟩,ty,pos,aft,gd⟩ (I cap):=Gives.mk fun a w hs _=>by
 simp [execOp,resolve,hs.ev hx,invoke,builtin,Builtin.cap_,ck (T:=T) (desc:=.slice el) (size:=size) (bytes:=bytes) (zero:=zero),goInt]
theorem acl {T el : TypeId} {x lo : Operand} {desc' : TypeDesc} {size bytes size' bytes' : Nat} {zero zero' : Value} {k : IntKind} {m : Int} {b o len cap : Nat} [TI P T (.slice el) size bytes zero] [TI P el desc' size' bytes' zero']
  (hx : ev E x = some (.slice (some ⟨b,o,none⟩) len cap)) (hl : ev E lo = some (.int k m)) (h0 : 0 ≤ m ∧ m ≤ len ∧ m < cap) :
  Gives P n D E M ⟨d,.slice T x (some lo) none none,ty,pos,aft,gd⟩ (.slice (some ⟨b,o + m.toNat * size',none⟩) (len - m.toNat) (cap - m.toNat)):=by
 obtain ⟨o',h1,h2⟩:=xI (P:=P) (n:=n) (D:=D) (M:=M) (d:=d) (ty:=ty) (pos:=pos) (aft:=aft) (gd:=gd) (T:=T) (el:=el) (desc':=desc') (size':=size') (bytes':=bytes') (zero':=zero') (size:=size) (bytes:=bytes) (zero:=zero) hx hl ⟨h0.1,h0.2.1⟩
 rw [← h1 h0.2.2];exact h2
theorem qV {S : World → Prop} {G0 : Gh} {L0 : List Own} [k : Kn S G0 L0] {b : Nat} {cs : List Value} {T0 : TypeId} {fr : Nat × Nat} (hm : Own.blk b (.cells cs.toArray T0 fr) ∈ L0) {w : World} (hw : S w) : w.shape? b = some (T0,cs.length):=by
 obtain ⟨B,G,L,_,hL,hst⟩:=k.kn w hw
 have h : w.heap[b]? = some (.cells cs.toArray T0 fr):=hst.own _ (hL _ hm)
 simp [World.shape?,h]
theorem acj {T T' t T0 : TypeId} {x : Operand} {b s1 b1 js jb : Nat} {z1 jz : Value} {jd : TypeDesc} {G0 : Gh} {L0 : List Own} {cs : List Value} {fr : Nat × Nat} [t1 : TI P T (.pointer t) s1 b1 z1] [t2 : TI P t jd js jb jz] [Kn M G0 L0] [h : BlkI L0 b cs T0 fr]
  (hd : P.underlying T' = some .unsafePointer) (hx : ev E x = some (Pt b 0)) (hj : Nat.beq js 0 = false) (hc : cs.isEmpty = false) : Gives P n D E M ⟨d,.convert T T' x,ty,pos,aft,gd⟩ (Pt b 0):=Gives.mk fun a w hs hw=>by
 obtain ⟨j,hj1,hj2,_,_⟩:=t2.inf
 have hl : 0 < cs.length:=by cases cs with | nil=>cases hc | cons=>simp
 have:=Lib.run_to_unsafe (P:=P) w (src:=T) (dst:=T') (t:=t) (j:=j) ⟨b,0,none⟩ t1.und hd hj1 (by rw [hj2];intro e;subst e;simp at hj) (qV (S:=M) h.mem hw) hl
 simp only [execOp,hs.ev hx,Sem.run_bind,this,Result.andThen_ok,Sem.run_pure]
theorem zm {T T' t T0 : TypeId} {x : Operand} {b s1 b1 js jb : Nat} {z1 jz : Value} {jd : TypeDesc} {G0 : Gh} {L0 : List Own} {cs : List Value} {fr : Nat × Nat} [t1 : TI P T' (.pointer t) s1 b1 z1] [t2 : TI P t jd js jb jz] [Kn M G0 L0] [h : BlkI L0 b cs T0 fr]
  (hd : P.underlying T = some .unsafePointer) (hx : ev E x = some (Pt b 0)) (hl : liesAt P P.depth T0 (cs.length / P.cellsOf T0) 0 t 1 = true) : Gives P n D E M ⟨d,.convert T T' x,ty,pos,aft,gd⟩ (Pt b 0):=Gives.mk fun a w hs hw=>by
 obtain ⟨j,hj1,_,_,_⟩:=t2.inf
 have:=Lib.run_from_unsafe (P:=P) w (src:=T) (dst:=T') (u:=t) (j:=j) ⟨b,0,none⟩ hd t1.und hj1 (qV (S:=M) h.mem hw) hl
 simp only [execOp,hs.ev hx,Sem.run_bind,this,Result.andThen_ok,Sem.run_pure]
theorem aa2 {T T' el : TypeId} {x y : Operand} {size bytes js jb : Nat} {zero jz : Value} {jd : TypeDesc} {p : Addr} [t1 : TI P T (.pointer el) size bytes zero] [t2 : TI P el jd js jb jz] (hx : ev E x = some (.pointer (some p))) (hy : ev E y = some (.pointer (some p))) : Gives P n D E M ⟨d,.binOp .neq T x y T',ty,pos,aft,gd⟩ (Bo false):=dB hx hy rfl fun w=>by
 obtain ⟨j,hj1,_,_,_⟩:=t2.inf
 exact Lib.run_neq_ptr_same w p t1.und hj1
theorem zr {T T' el : TypeId} {x y : Operand} {s1 b1 js jb : Nat} {z1 jz : Value} {jd : TypeDesc} {b o m c : Nat} [t1 : TI P T (.slice el) s1 b1 z1] [t2 : TI P el jd js jb jz] (hx : ev E x = some (.slice (some ⟨b,o,none⟩) m c)) (hy : ev E y = some aN) :
  Gives P n D E M ⟨d,.call ⟨.builtin .copy,[x,y].toArray,[T,T'].toArray⟩,ty,pos,aft,gd⟩ (I (0 : Nat)):=Gives.mk fun a w hs _=>by
 obtain ⟨j,hj1,_,_,_⟩:=t2.inf
 have h1:=run_copy_nil (P:=P) w T T' ty el ⟨b,o,none⟩ m c t1.und (by rw [hj1];rfl)
 have e1 : ([x,y].toArray.map a.eval) = #[.slice (some ⟨b,o,none⟩) m c,aN]:=by simp [hs.ev hx,hs.ev hy]
 simp only [execOp,resolve,e1,Sem.run_bind,Sem.run_pure,Result.andThen_ok,invoke,builtin,h1]
 rfl
theorem aa0 {T : TypeId} {x : Operand} {b o m c : Nat} (hx : ev E x = some (.slice (some ⟨b,o,none⟩) m c)) (hc : Nat.beq c 0 = false) : Gives P n D E M ⟨d,.call ⟨.builtin .unsafeSliceData,[x].toArray,[T].toArray⟩,ty,pos,aft,gd⟩ (Pt b o):=Gives.mk fun a w hs _=>by
 have h1:=Lib.run_unsafeSliceData_row (P:=P) w #[T] ty ⟨b,o,none⟩ m c (by rintro rfl;simp at hc)
 have e1 : ([x].toArray.map a.eval) = #[.slice (some ⟨b,o,none⟩) m c]:=by simp [hs.ev hx]
 simp only [execOp,resolve,e1,Sem.run_bind,Sem.run_pure,Result.andThen_ok,invoke,builtin,h1]
theorem zl {T : TypeId} {x : Operand} (hx : ev E x = some aN) : Gives P n D E M ⟨d,.call ⟨.builtin .unsafeSliceData,[x].toArray,[T].toArray⟩,ty,pos,aft,gd⟩ (.pointer none):=Gives.mk fun a w hs _=>by
 have h1:=Lib.run_unsafeSliceData_nil (P:=P) w #[T] ty 0 0
 have e1 : ([x].toArray.map a.eval) = #[aN]:=by simp [hs.ev hx]
 simp only [execOp,resolve,e1,Sem.run_bind,Sem.run_pure,Result.andThen_ok,invoke,builtin,h1]
theorem zg {T T' : TypeId} {x y : Operand} {p : Option Addr} (hx : ev E x = some (.pointer p)) (hy : ev E y = some (I (0 : Nat))) : Gives P n D E M ⟨d,.call ⟨.builtin .unsafeString,[x,y].toArray,[T,T'].toArray⟩,ty,pos,aft,gd⟩ (S []):=Gives.mk fun a w hs _=>by
 have h1:=Lib.run_unsafeString_none (P:=P) w T T' ty p
 have e1 : ([x,y].toArray.map a.eval) = #[.pointer p,.int .i64 0]:=by simp [hs.ev hx,hs.ev hy]
 simp only [execOp,resolve,e1,Sem.run_bind,Sem.run_pure,Result.andThen_ok,invoke,builtin,h1]
 rfl
end
section
variable {P : Program} {n : Nat} {D : List Deferred} {E : bx} {B : Base} {G : Gh} {L : List Own} {K : Act → World → Prop} {Q : Exit → Act → World → Prop} {ty : TypeId} {pos : String} {aft : Array Edge} {gd : Option (Nat × Bool)} {d : Nat}
theorem St.freeze {w : World} {b m cap : Nat} {T : TypeId} {xs : List Value} (h : St B G (.acc (.slice (some ⟨b,0,none⟩) m cap) T 1 m xs :: L) w) (k : Nat) : St B G L (w.freeze ⟨b,0,none⟩ k):=by
 obtain ⟨h1,⟨h2,_⟩ | ⟨b',cap',rest,e,hc,hl,hb⟩⟩ : gF w _ T 1 m xs:=h.own _ List.mem_cons_self
 ·cases h2
 simp only [Value.slice.injEq,Option.some.injEq,Addr.mk.injEq,and_true,true_and] at e
 obtain ⟨rfl,rfl⟩:=e
 unfold World.freeze
 by_cases hk : k = 0
 ·rw [if_pos hk];exact h.weaken (List.sublist_cons_self _ _)
 ·rw [if_neg hk]
  have h2:=h.upd (y:=.blk b (.cells (xs ++ rest).toArray T (0,k))) (w':={ w with heap:=w.heap.modify b fun | .cells c elem (lo,hi)=>.cells c elem (if lo == hi then (0,0 + k) else (min lo 0,max hi (0 + k))) | o=>o }) (b:=b) rfl rfl (by
   show (w.heap.modify b _)[b]? = _
   rw [Array.getElem?_modify,if_pos rfl,hb]
   simp) (fun c hc=>by
    show (w.heap.modify b _)[c]? = _
    rw [Array.getElem?_modify,if_neg (fun e=>hc e.symm)]) rfl rfl rfl (by simp)
  exact h2.weaken (List.sublist_cons_self _ _)
class AccD (L : List Own) (b : Nat) (m cap : outParam Nat) (T : outParam TypeId) (sz : outParam Nat) (xs : outParam (List Value)) (L' : outParam (List Own)) : Prop where
 del : Del (.acc (.slice (some ⟨b,0,none⟩) m cap) T sz m xs) L L'
instance {b m cap : Nat} {T : TypeId} {sz : Nat} {xs : List Value} {r : List Own} : AccD (.acc (.slice (some ⟨b,0,none⟩) m cap) T sz m xs :: r) b m cap T sz xs r:=⟨.here⟩
instance {b m cap : Nat} {T : TypeId} {sz : Nat} {xs : List Value} {z : Own} {r r' : List Own} [h : AccD r b m cap T sz xs r'] : AccD (z :: r) b m cap T sz xs (z :: r'):=⟨.there h.del⟩
theorem abv {T T' el : TypeId} {x y : Operand} {b m cap s1 b1 s2 b2 : Nat} {z1 z2 : Value} {l : adE} {L' : List Own} [t1 : TI P T (.pointer el) s1 b1 z1] [t2 : TI P el (.int .u8) s2 b2 z2] [ha : AccD L b m cap el 1 (bM l) L']
  (hc1 : P.cellsOf el = 1) (hx : ev E x = some (Pt b 0)) (hy : ev E y = some (I (m : Nat))) (hlt : Nat.blt d n = true) (hm : m ≤ 9223372036854775807)
  (k : Nx n D ((d,S l) :: E) B G L' K) : Nx n D E B G L (ow P ⟨some d,.call ⟨.builtin .unsafeString,[x,y].toArray,[T,T'].toArray⟩,ty,pos,aft,gd⟩ Q K):=Nx.mk fun a w hs hw=>by
 have hw1:=hw.perm ha.del.perm
 have hat : gF w (.slice (some ⟨b,0,none⟩) m cap) el 1 m (bM l):=hw1.own _ List.mem_cons_self
 obtain ⟨h1,⟨h2,_⟩ | ⟨b',cap',rest,e,hc,hl,hb⟩⟩:=hat
 ·cases h2
 simp only [Value.slice.injEq,Option.some.injEq,Addr.mk.injEq,and_true,true_and] at e
 obtain ⟨rfl,rfl⟩:=e
 have hlm : l.length = m:=by simpa [bM] using h1
 have e1 : ([x,y].toArray.map a.eval) = #[.pointer (some ⟨b,0,none⟩),.int .i64 (m : Nat)]:=by simp [hs.ev hx,hs.ev hy]
 unfold ow Oper.wp
 by_cases h0 : l = []
 ·subst h0
  have hm0 : m = 0:=by simpa using hlm.symm
  subst hm0
  have hr:=Lib.run_unsafeString_none (P:=P) w T T' ty (some ⟨b,0,none⟩)
  have : (execOp a.eval ⟨some d,.call ⟨.builtin .unsafeString,[x,y].toArray,[T,T'].toArray⟩,ty,pos,aft,gd⟩).run P w = .ok (.value (S [])) w:=by
   simp only [execOp,resolve,e1,Sem.run_bind,Sem.run_pure,Result.andThen_ok,invoke,builtin]
   have hr' : (Builtin.unsafeString_ [T,T'].toArray ty #[.pointer (some ⟨b,0,none⟩),.int .i64 ((0 : Nat) : Int)]).run P w = .ok (.string .empty) w:=hr
   rw [hr'];rfl
  rw [this,Oper.upon_value]
  exact k.go _ w (hs.put (by simpa using hlt)) (hw1.weaken (List.sublist_cons_self _ _))
 ·have hcell : ∀ j x,l[j]? = some x → w.cell? ((⟨b,0,none⟩ : Addr).add j) = some (.int .u8 x.toNat):=fun j x hj=>by
   have hv : (bM l)[j]? = some (.int .u8 x.toNat):=by simp [bM,hj]
   rw [mw]
   exact ((fw (S:=St B G (.acc (.slice (some ⟨b,0,none⟩) m cap) el 1 m (bM l) :: L')) (m:=m) (cap:=cap) (T:=el) (sz:=1) (xs:=bM l) List.mem_cons_self).go j _ hv).go w hw1
  have hsh : w.shape? b = some (el,(bM l ++ rest).length):=by simp [World.shape?,hb]
  have hr:=Lib.run_unsafeString_row (P:=P) w T T' ty el t1.und hc1 b _ hsh l h0 (by simp [bM]) oM hcell
  have : (execOp a.eval ⟨some d,.call ⟨.builtin .unsafeString,[x,y].toArray,[T,T'].toArray⟩,ty,pos,aft,gd⟩).run P w = .ok (.value (S l)) (w.freeze ⟨b,0,none⟩ l.length):=by
   simp only [execOp,resolve,e1,Sem.run_bind,Sem.run_pure,Result.andThen_ok,invoke,builtin]
   have hr' : (Builtin.unsafeString_ [T,T'].toArray ty #[.pointer (some ⟨b,0,none⟩),.int .i64 (m : Nat)]).run P w = .ok (S l) (w.freeze ⟨b,0,none⟩ l.length):=by rw [← hlm];exact hr
   rw [hr'];rfl
  rw [this,Oper.upon_value]
  exact k.go _ _ (hs.put (by simpa using hlt)) (hw1.freeze _)
theorem mJ (l : adE) : Lib.strCells ⟨l.toArray⟩ = bM l:=by simp [Lib.strCells,bM]
theorem t4 {v : Value} {m : Nat} {T T2 el : TypeId} {s1 b1 s2 b2 : Nat} {z1 z2 : Value} {xs : List Value} {l : adE} {w : World} {R : List Own} [h1' : TI P T (.slice el) s1 b1 z1] [h2' : TI P T2 .string s2 b2 z2] [he : TI P el (.int .u8) 1 1 (.int .u8 0)]
  (hb : m + l.length ≤ 1000000000) (hw : St B G (.acc v el 1 m xs :: R) w) :
  ∃ v' w',(Builtin.append_ #[T,T2] ty #[v,S l]).run P w = .ok v' w' ∧ St B G (.acc v' el 1 (m + l.length) (xs ++ bM l) :: R) w' ∧ (v = aN → l = [] → v' = aN) ∧ ((v ≠ aN ∨ l ≠ []) → ∃ b cap,v' = .slice (some ⟨b,0,none⟩) (m + l.length) cap ∧ ((∀ p q,v ≠ .slice p q 0) ∨ l ≠ [] → 0 < cap)):=by
 obtain ⟨hxl,hacc⟩ : gF w v el 1 m xs:=hw.own _ List.mem_cons_self
 obtain ⟨ie,hi,hsz,hby,hze⟩:=he.inf
 have ht:=h1'.und
 have hu:=h2'.und
 have hss : (⟨l.toArray⟩ : ByteArray).size = l.length:=om l
 have hul : (bM l).length = l.length:=by simp [bM]
 have mk : ∀ nc,m + l.length ≤ nc →
   St B G (.acc (.slice (some ⟨w.heap.size,0,none⟩) (m + l.length) nc) el 1 (m + l.length) (xs ++ bM l) :: R) (w.drew.alloc (.cells (xs ++ bM l ++ bW [.int .u8 0] (nc - (m + l.length))).toArray el)):=by
  intro nc hnc
  have h2:=hw.drew.alloc (.cells (xs ++ bM l ++ bW [.int .u8 0] (nc - (m + l.length))).toArray el)
  have h3 : St B G (.blk w.drew.heap.size (.cells (xs ++ bM l ++ bW [.int .u8 0] (nc - (m + l.length))).toArray el) :: R) _:=h2.weaken (.cons_cons _ (List.sublist_cons_self _ _))
  refine h3.conv F ⟨by simp [hxl,hul],.inr ⟨_,nc,bW [.int .u8 0] (nc - (m + l.length)),F,hnc,?_,h3.own _ List.mem_cons_self⟩⟩
  simp only [List.length_append,hxl,hul,gA,List.length_cons,List.length_nil]
  omega
 have ez : (Builtin.zeroCells (Value.int .u8 0).cells) = fun k=>(bW [.int .u8 0] k).toArray:=by
  funext k;rw [← j1];rfl
 rcases hacc with ⟨rfl,rfl⟩ | ⟨b,cap,rest,rfl,hmc,hrl,hblk⟩
 ·have hx0 : xs = []:=by simpa using hxl
  subst hx0
  by_cases hk : l = []
  ·subst hk
   refine ⟨aN,w,?_,by simpa [bM] using hw,fun _ _=>rfl,fun h=>by rcases h with h | h <;> exact absurd F h⟩
   have hf : (Builtin.firstCells 1 0 (S [])).run P w = .ok #[] w:=by
    have:=Lib.run_firstCells_string (P:=P) w 1 ⟨([] : adE).toArray⟩
    rw [om] at this;simpa [Lib.strCells] using this
   simp [Builtin.append_,run_underlying ht,run_underlying hu,sizeOf,typeInfo,hi,hsz,Builtin.lenOf,om,hf]
  ·have hpos : 0 < l.length:=List.length_pos_iff.2 hk
   have hr:=run_append_nil_string (P:=P) w T T2 ty el ie (.int .u8 0) ht hu hi hze ⟨l.toArray⟩ (by rw [hss];exact hpos) (by rw [hss];omega) (by rw [hss,hby];omega)
   rw [hss] at hr
   have hg:=grownCap_ge w l.length 0 el
   have:=mk (grownCap w l.length 0 el) (by simpa using hg)
   have e1 : (⟨l.toArray⟩ : ByteArray).data.map (fun b=>Value.int .u8 b.toNat) ++ Builtin.zeroCells (Value.int .u8 0).cells (grownCap w l.length 0 el - l.length) = (bM l ++ bW [.int .u8 0] (grownCap w l.length 0 el - l.length)).toArray:=by
    rw [ez];simp [bM]
   rw [e1] at hr
   simp only [Nat.zero_add,List.nil_append] at this ⊢
   exact ⟨_,_,hr,this,fun _ h=>absurd h hk,fun _=>⟨_,_,F,fun _=>by omega⟩⟩
 ·by_cases hfit : m + l.length ≤ cap
  ·have hr:=Lib.run_append_room_string (P:=P) w T T2 ty el ie ht hu hi hsz b m cap (xs ++ rest).toArray hblk ⟨l.toArray⟩ (by rw [hss];exact hfit) (by rw [hss];simp only [List.size_toArray];omega)
   have hcells : (List.take m (xs ++ rest) ++ bM l ++ List.drop (m + l.length) (xs ++ rest)) = xs ++ bM l ++ rest.drop l.length:=by
    have : m = xs.length:=oM
    rw [this];simp [List.drop_append]
   rw [hss,mJ] at hr
   simp only [hcells] at hr
   refine ⟨_,_,hr,hw.upd (b:=b) F F ⟨by simp [hxl,hul],.inr ⟨b,cap,rest.drop l.length,F,hfit,?_,setRow_heap w b _ _ el _ hblk⟩⟩ (fun c hc=>setRow_other w b c _ hc) F F F (by simp),fun h=>(by cases h),fun _=>⟨b,cap,F,fun h=>?_⟩⟩
   ·simp only [List.length_append,List.length_drop] at *;omega
   ·rcases h with h | h
    ·rcases Nat.eq_zero_or_pos cap with h0 | h0
     ·subst h0;exact absurd F (h _ _)
     ·exact h0
    ·have:=List.length_pos_iff.2 h;omega
  ·have hnsc:=kC (m + l.length) cap oM
   have hold : ∀ j u,xs[j]? = some u → w.cell? ((⟨b,0,none⟩ : Addr).add j) = some u:=fun j u hj=>by
    rw [mw]
    exact ((fw (S:=St B G (.acc (.slice (some ⟨b,0,none⟩) m cap) el 1 m xs :: R)) (m:=m) (cap:=cap) (T:=el) (sz:=1) (xs:=xs) List.mem_cons_self).go j u hj).go w hw
   have hr:=Lib.run_append_grow_string (P:=P) w T T2 ty el ie (.int .u8 0) ht hu hi hze ⟨b,0,none⟩ m cap xs (by rw [hsz];simpa using hxl) hold ⟨l.toArray⟩ (by rw [hss];omega) (by rw [hss];omega) (by rw [hss,hby];omega)
   rw [hss,mJ,ez] at hr
   have hg:=grownCap_ge w (m + l.length) cap el
   have:=mk (grownCap w (m + l.length) cap el) hg
   simp only [List.append_toArray] at hr this ⊢
   exact ⟨_,_,hr,this,fun h=>(by cases h),fun _=>⟨_,_,F,fun _=>by omega⟩⟩
theorem acW {m b cap : Nat} {s x : Operand} {T T2 el : TypeId} {s1 b1 s2 b2 : Nat} {z1 z2 : Value} {xs : List Value} {l : adE} {L' : List Own} [TI P T (.slice el) s1 b1 z1] [TI P T2 .string s2 b2 z2] [TI P el (.int .u8) 1 1 (.int .u8 0)] [ha : AccI L (.slice (some ⟨b,0,none⟩) m (cap + 1)) el 1 m xs L']
  (hs : ev E s = some (.slice (some ⟨b,0,none⟩) m (cap + 1))) (hx : ev E x = some (S l)) (hlt : Nat.blt d n = true) (hb : m + l.length ≤ 1000000000)
  (kk : ∀ b' cap',Nx n D ((d,.slice (some ⟨b',0,none⟩) (m + l.length) (cap' + 1)) :: E) B G (.acc (.slice (some ⟨b',0,none⟩) (m + l.length) (cap' + 1)) el 1 (m + l.length) (xs ++ bM l) :: L') K) :
  Nx n D E B G L (ow P ⟨some d,.call ⟨.builtin .append,[s,x].toArray,[T,T2].toArray⟩,ty,pos,aft,gd⟩ Q K):=Nx.mk fun a w hsat hw=>by
 obtain ⟨v',w',hr,hst,_,h2⟩:=t4 (P:=P) (ty:=ty) (T:=T) (T2:=T2) (el:=el) (s1:=s1) (b1:=b1) (z1:=z1) (s2:=s2) (b2:=b2) (z2:=z2) hb (hw.perm ha.del.perm)
 obtain ⟨b',cap',rfl,h3⟩:=h2 (.inl (by simp))
 obtain ⟨c,rfl⟩ : ∃ c,cap' = c + 1:=⟨cap' - 1,by have:=h3 (.inl (by simp));omega⟩
 have hrun : (execOp a.eval ⟨some d,.call ⟨.builtin .append,[s,x].toArray,[T,T2].toArray⟩,ty,pos,aft,gd⟩).run P w = .ok (.value (.slice (some ⟨b',0,none⟩) (m + l.length) (c + 1))) w':=by
  have e1 : ([s,x].toArray.map a.eval) = #[.slice (some ⟨b,0,none⟩) m (cap + 1),S l]:=by simp [hsat.ev hs,hsat.ev hx]
  simp only [execOp,resolve,e1,Sem.run_bind,Sem.run_pure,Result.andThen_ok,invoke,builtin,hr]
 unfold ow Oper.wp
 rw [hrun,Oper.upon_value]
 exact (kk b' c).go _ w' (hsat.put (by simpa using hlt)) hst
theorem abT {s x : Operand} {T T2 el : TypeId} {s1 b1 s2 b2 : Nat} {z1 z2 : Value} {l : adE} [TI P T (.slice el) s1 b1 z1] [TI P T2 .string s2 b2 z2] [TI P el (.int .u8) 1 1 (.int .u8 0)]
  (hs : ev E s = some aN) (hx : ev E x = some (S l)) (hlt : Nat.blt d n = true) (hb : 0 < l.length ∧ l.length ≤ 1000000000)
  (kk : ∀ b' cap',Nx n D ((d,.slice (some ⟨b',0,none⟩) l.length (cap' + 1)) :: E) B G (.acc (.slice (some ⟨b',0,none⟩) l.length (cap' + 1)) el 1 l.length (bM l) :: L) K) :
  Nx n D E B G L (ow P ⟨some d,.call ⟨.builtin .append,[s,x].toArray,[T,T2].toArray⟩,ty,pos,aft,gd⟩ Q K):=Nx.mk fun a w hsat hw=>by
 obtain ⟨v',w',hr,hst,_,h2⟩:=t4 (P:=P) (ty:=ty) (T:=T) (T2:=T2) (el:=el) (s1:=s1) (b1:=b1) (z1:=z1) (s2:=s2) (b2:=b2) (z2:=z2) (l:=l) oM (hw.addNil el 1)
 have hne : l ≠ []:=List.length_pos_iff.1 hb.1
 obtain ⟨b',cap',rfl,h3⟩:=h2 (.inr hne)
 obtain ⟨c,rfl⟩ : ∃ c,cap' = c + 1:=⟨cap' - 1,by have:=h3 (.inr hne);omega⟩
 simp only [Nat.zero_add,List.nil_append] at hr hst
 have hrun : (execOp a.eval ⟨some d,.call ⟨.builtin .append,[s,x].toArray,[T,T2].toArray⟩,ty,pos,aft,gd⟩).run P w = .ok (.value (.slice (some ⟨b',0,none⟩) l.length (c + 1))) w':=by
  have e1 : ([s,x].toArray.map a.eval) = #[aN,S l]:=by simp [hsat.ev hs,hsat.ev hx]
  simp only [execOp,resolve,e1,Sem.run_bind,Sem.run_pure,Result.andThen_ok,invoke,builtin,hr]
 unfold ow Oper.wp
 rw [hrun,Oper.upon_value]
 exact (kk b' c).go _ w' (hsat.put (by simpa using hlt)) hst
theorem acO {fo x : Operand} {af : Array TypeId} {f : FuncId} {fn : Func} {t el : TypeId} {m : Nat} {ps : Array TypeId}
  (hf : ev E fo = some (.func (.func f) #[] #[])) (hx : ev E x = some (I (m : Nat))) (hlt : Nat.blt d n = true) (hfn : P.funcs[f]? = some fn) (hname : (fn.name == "runtime.NumGoroutine") = false) (hbd : fn.body.isNone = true) (hnx : Extern.findNext fn = none) (he : Extern.find fn = some (Extern.BytealgMakeNoZero.makeNoZero ps #[t])) (ht : P.underlying t = some (.slice el)) (hm : 0 < m ∧ m ≤ 1000000000)
  (k : ∀ b cap,m ≤ cap + 1 → Nx n D ((d,.slice (some ⟨b,0,none⟩) m (cap + 1)) :: E) B G (.acc (.slice (some ⟨b,0,none⟩) 0 (cap + 1)) el 1 0 [] :: L) K) : Nx n D E B G L (ow P ⟨some d,.call ⟨.value fo,[x].toArray,af⟩,ty,pos,aft,gd⟩ Q K):=Nx.mk fun a w hs hw=>by
 obtain ⟨cs,hr,hcs,_⟩:=Lib.run_makeNoZero (P:=P) w ps t el ht m oM
 have e1 : ([x].toArray.map a.eval) = #[.int .i64 (m : Nat)]:=by simp [hs.ev hx]
 have hrun : (execOp a.eval ⟨some d,.call ⟨.value fo,[x].toArray,af⟩,ty,pos,aft,gd⟩).run P w = .ok (.value (.slice (some ⟨w.heap.size,0,none⟩) m cs.size)) (w.drew.drew.alloc (.cells cs el)):=by
  simp only [execOp,resolve,hs.ev hf,e1,Deferred.ofValue,Sem.run_bind,Sem.run_pure,Result.andThen_ok,invoke]
  rw [show (#[] ++ #[Value.int .i64 (m : Nat)] ++ #[] : Array Value) = #[Value.int .i64 (m : Nat)] from rfl,run_callFunc_extern hfn hname hbd hnx he,hr]
  rfl
 unfold ow Oper.wp
 rw [hrun,Oper.upon_value]
 have h1:=hw.drew.drew.alloc (.cells cs el)
 obtain ⟨c,hc⟩ : ∃ c,cs.size = c + 1:=⟨cs.size - 1,oM⟩
 have h2 : St B G (.acc (.slice (some ⟨w.heap.size,0,none⟩) 0 (c + 1)) el 1 0 [] :: L) (w.drew.drew.alloc (.cells cs el)):=h1.conv rfl ⟨rfl,.inr ⟨w.heap.size,c + 1,cs.toList,rfl,Nat.zero_le _,by simp [hc],h1.own _ List.mem_cons_self⟩⟩
 rw [hc]
 exact (k w.heap.size c oM).go _ _ (hs.put (by simpa using hlt)) h2
end
def dD (P : Program) (f : FuncId) (args : List Value) (G : Gh) (L : List Own) (R : Value → Gh → List Own → Prop) : Prop:=Fn P f args G L (fun v G' L'=>Gh.le G G' ∧ R v G' L')
section
variable {P : Program} {n : Nat} {D : List Deferred} {E : bx} {B : Base} {G : Gh} {L : List Own} {K : Act → World → Prop} {Q : Exit → Act → World → Prop}
theorem cY {fo : Operand} {l : List Operand} {af : Array TypeId} {d : Nat} {ty : TypeId} {pos : String} {aft : Array Edge} {g : Option (Nat × Bool)} {f : FuncId} {fi ca az vs : List Value} {b : Nat} {cs : List Value} {T : TypeId} {R : List Own} {Post : Value → Gh → List Own → Prop}
  [hd : DelB L b cs T R] (hf : ev E fo = some (.func (.func f) fi.toArray ca.toArray)) (ha : evs E l = some az) (hv : fi ++ az ++ ca = vs) (hc : dD P f vs G [.blk b (.cells cs.toArray T (0,0))] Post) (hlt : Nat.blt d n = true)
  (k : ∀ v G' L',Gh.le G G' → Post v G' L' → Nx n D ((d,v) :: E) B G' (L' ++ R) K) : Nx n D E B G L (ow P ⟨some d,.call ⟨.value fo,l.toArray,af⟩,ty,pos,aft,g⟩ Q K) :=
 abE hf ha hv hc hlt fun v G' L' h=>k v G' L' h.1 h.2
theorem bT {f : FuncId} {fn : Func} {c : Code} {args : List Value} {R : Value → Gh → List Own → Prop} (E0 : bx) (hf : P.funcs[f]? = some fn) (hok : eg P f = true) (hn : fn.ntmps = n) (hb : fn.body = some c)
  (hlen : Nat.ble args.length n = true) (hE : hX E0 (params 0 args))
  (h : ∀ B,B.G = G → B.W = co L → Nx n [] E0 B G L (cu P (.code c) [] (bp P fn (dO B (fun v G' L'=>Gh.le G G' ∧ R v G' L'))))) : dD P f args G L R:=uG E0 hf hok hn hb hlen hE h
end
def aav (n : Nat) (cs : List Value) : Bool:=cs.all fun v=>match v with | .string b=>Nat.ble b.size n | _=>false
section
variable {P : Program} {n : Nat} {D : List Deferred} {E : bx} {B : Base} {G : Gh} {L : List Own} {K : Act → World → Prop} {Q : Exit → Act → World → Prop}
theorem eX (m : Nat) {T T0 : TypeId} {x : Operand} {desc : TypeDesc} {size bytes : Nat} {zero : Value} {b o d : Nat} {cs : List Value} {fr : Nat × Nat} {ty : TypeId} {pos : String} {aft : Array Edge} {g : Option (Nat × Bool)} [TI P T desc size bytes zero] [h : BlkI L b cs T0 fr] (hx : ev E x = some (Pt b o)) (ha : dz desc = false) (hlt : Nat.blt d n = true) (ho : o < cs.length) (hs : aav m cs = true)
  (k : ∀ l : adE,l.length ≤ m → Nx n D ((d,S l) :: E) B G L K) : Nx n D E B G L (ow P ⟨some d,.load T x,ty,pos,aft,g⟩ Q K) :=
 yD hx ha hlt ho fun v hv=>by
  have h1:=List.all_eq_true.1 hs v hv
  split at h1
  ·rename_i b
   have e : Value.string b = S b.data.toList:=by simp [S]
   rw [e]
   exact k _ (by rw [Array.length_toList];exact Nat.le_of_ble_eq_true h1)
  ·cases h1
def ll (m : Int) : List Value → Prop
 | []=>True
 | v :: r=>(∃ i : Int,v = I i ∧ 0 ≤ i ∧ i ≤ m) ∧ ll m r
theorem pM {m : Int} : ∀ {cs : List Value},ll m cs → ∀ v ∈ cs,∃ i : Int,v = I i ∧ 0 ≤ i ∧ i ≤ m
 | [],_,_,h=>absurd h (by simp)
 | w :: r,h,v,hv=>by
  rcases List.mem_cons.1 hv with rfl | hv
  ·exact h.1
  ·exact pM h.2 v hv
theorem vl {m : Int} : ll m []:=trivial
theorem tN {m i : Int} {r : List Value} (h : 0 ≤ i ∧ i ≤ m) (h2 : ll m r) : ll m (I i :: r):=⟨⟨i,rfl,h.1,h.2⟩,h2⟩
theorem abG (m : Int) {T T0 : TypeId} {x : Operand} {desc : TypeDesc} {size bytes : Nat} {zero : Value} {b o d : Nat} {cs : List Value} {fr : Nat × Nat} {ty : TypeId} {pos : String} {aft : Array Edge} {g : Option (Nat × Bool)} [TI P T desc size bytes zero] [h : BlkI L b cs T0 fr] (hx : ev E x = some (Pt b o)) (ha : dz desc = false) (hlt : Nat.blt d n = true) (ho : o < cs.length) (hs : ll m cs)
  (k : ∀ i : Int,0 ≤ i → i ≤ m → Nx n D ((d,I i) :: E) B G L K) : Nx n D E B G L (ow P ⟨some d,.load T x,ty,pos,aft,g⟩ Q K) :=
 yD hx ha hlt ho fun v hv=>by
  obtain ⟨i,rfl,h0,h1⟩:=pM hs v hv
  exact k i h0 h1
end
theorem PutsR.len {cs vs cs' : List Value} {o : Nat} (h : PutsR cs o vs cs') : cs'.length = cs.length:=by
 induction h with
 | nil=>rfl
 | here _ ih=>simp [ih]
 | there _ ih=>simp [ih]
class UpdA (b : Nat) (xs' : List Value) (L : List Own) (m cap : outParam Nat) (T0 : outParam TypeId) (sz : outParam Nat) (xs : outParam (List Value)) (L' : outParam (List Own)) : Prop where
 upd : UpdO (.acc (.slice (some ⟨b,0,none⟩) m cap) T0 sz m xs) (.acc (.slice (some ⟨b,0,none⟩) m cap) T0 sz m xs') L L'
instance {b m cap : Nat} {T0 : TypeId} {sz : Nat} {xs xs' : List Value} {r : List Own} : UpdA b xs' (.acc (.slice (some ⟨b,0,none⟩) m cap) T0 sz m xs :: r) m cap T0 sz xs (.acc (.slice (some ⟨b,0,none⟩) m cap) T0 sz m xs' :: r):=⟨.here⟩
instance {b m cap : Nat} {T0 : TypeId} {sz : Nat} {xs xs' : List Value} {z : Own} {r r' : List Own} [h : UpdA b xs' r m cap T0 sz xs r'] : UpdA b xs' (z :: r) m cap T0 sz xs (z :: r'):=⟨.there h.upd⟩
section
variable {P : Program} {n : Nat} {D : List Deferred} {E : bx} {B : Base} {G : Gh} {L : List Own} {K : Act → World → Prop} {Q : Exit → Act → World → Prop} {ty : TypeId} {pos : String} {aft : Array Edge} {gd : Option (Nat × Bool)} {dd : Nat}
end
section
variable {P : Program} {n : Nat} {D : List Deferred} {E : bx} {B : Base} {G : Gh} {L : List Own} {K : Act → World → Prop} {Q : Exit → Act → World → Prop} {ty : TypeId} {pos : String} {aft : Array Edge} {gd : Option (Nat × Bool)} {dd : Nat}
end
def w4 (P : Program) (fn : Func) (R : Ending → World → Prop) : Exit → Act → World → Prop
 | .normal,a,w | .ret,a,w=>Leaves P fn a.tmps R a.defers .returning w
 | .outgrown,_,w=>R .outgrown w
 | _,_,_=>False
instance {P : Program} {fn : Func} {R : Ending → World → Prop} : PQ (w4 P fn R):=⟨fun _ _ _ _ _ h=>h⟩
structure FnD (P : Program) (f : FuncId) (args : List Value) (G : Gh) (L : List Own) (Post : Value → Gh → List Own → Prop) : Prop where
 ok : eg P f = true
 go : ∀ w,St ⟨w,G,co L⟩ G L w → CallsD P f args.toArray .returning w fun e u w'=>u = .returning ∧ dO ⟨w,G,co L⟩ Post e w'
section
variable {P : Program} {n : Nat} {D : List Deferred} {E : bx} {B : Base} {G : Gh} {L : List Own} {K : Act → World → Prop} {Q : Exit → Act → World → Prop}
theorem cF {f : FuncId} {fn : Func} {c : Code} {args : List Value} {Post : Value → Gh → List Own → Prop} (E0 : bx) (hf : P.funcs[f]? = some fn) (hok : eg P f = true) (hn : fn.ntmps = n) (hb : fn.body = some c)
  (hlen : Nat.ble args.length n = true) (hE : hX E0 (params 0 args))
  (h : ∀ B,BOk B → B.G = G → B.W = co L → Nx n [] E0 B G L (cu P (.code c) [] (w4 P fn (dO B Post)))) : Fn P f args G L Post:=by
 refine ⟨hok,fun w hw=>calls_of_wp_defers hf hb ?_⟩
 rw [hn]
 have:=(h ⟨w,G,co L⟩ ⟨hw.ok,fun b hb=>(hw.fresh b hb).1⟩ rfl rfl).go _ w ((jj args (by simpa using hlen)).sub hE) hw
 unfold cu at this
 dsimp only at this
 unfold kk cw at this
 refine wp_mono this fun e a' w' q=>?_
 cases e <;> first | exact q | exact q.elim
theorem zB {f : FuncId} {fn : Func} {c : Code} {args : List Value} {Post : Value → Gh → List Own → Prop} (E0 : bx) (hf : P.funcs[f]? = some fn) (hok : eg P f = true) (hn : fn.ntmps = n) (hb : fn.body = some c)
  (hlen : Nat.ble args.length n = true) (hE : hX E0 (params 0 args))
  (h : ∀ B,BOk B → B.G = G → B.W = co L → Nx n [] E0 B G L (cu P (.code c) [] (bp P fn (dO B Post)))) : FnD P f args G L Post:=by
 refine ⟨hok,fun w hw=>callsD_of_wp hf hb ?_⟩
 rw [hn]
 have:=(h ⟨w,G,co L⟩ ⟨hw.ok,fun b hb=>(hw.fresh b hb).1⟩ rfl rfl).go _ w ((jj args (by simpa using hlen)).sub hE) hw
 unfold cu at this
 dsimp only at this
 unfold kk cw bp at this
 exact this
def sS (f : FuncId) (fi ca az : List Value) : Deferred:=⟨.fn (.func f) ca.toArray,(fi ++ az).toArray⟩
theorem cG {fo : Operand} {l : List Operand} {af : Array TypeId} {ty : TypeId} {pos : String} {aft : Array Edge} {g : Option (Nat × Bool)} {f : FuncId} {fi ca az : List Value}
  (hf : ev E fo = some (.func (.func f) fi.toArray ca.toArray)) (ha : evs E l = some az)
  (k : Nx n (sS f fi ca az :: D) E B G L K) : Nx n D E B G L (ow P ⟨none,.defer ⟨.value fo,l.toArray,af⟩,ty,pos,aft,g⟩ Q K):=Nx.mk fun a w hs hw=>by
 unfold ow Oper.wp
 have h1 : l.toArray.map a.eval = az.toArray:=by rw [List.map_toArray,hs.evs ha]
 have : (execOp a.eval ⟨none,.defer ⟨.value fo,l.toArray,af⟩,ty,pos,aft,g⟩).run P w = .ok (.defer (sS f fi ca az)) w:=by
  simp only [execOp,resolve,hs.ev hf,h1,Deferred.ofValue,Sem.run_bind,Sem.run_pure,Result.andThen_ok,sS]
  simp
 rw [this,Oper.upon_defer]
 exact k.go _ w ⟨hs.size,by rw [show ({ a with defers:=sS f fi ca az :: a.defers } : Act).put none undef = { a with defers:=sS f fi ca az :: a.defers } from F];simp [hs.defers],hs.at'⟩ hw
theorem acg {e : Exit} {f : FuncId} {fi ca az xs : List Value} {Lp R : List Own} {PostD : Value → Gh → List Own → Prop} {fn : Func} {rs : List ResultVar} {Post : Value → Gh → List Own → Prop} (he : e = .ret ∨ e = .normal) (hv : fi ++ az ++ ca = xs) (hc : FnD P f xs G Lp PostD) (hL : L.Perm (Lp ++ R))
  (hr : fn.results = rs.toArray) (k : ∀ v G' L',PostD v G' L' → ∃ vs L'',je P (St B G' (L' ++ R)) E rs vs ∧ L''.Sublist (L' ++ R) ∧ Post (ff vs) G' L'') :
  Nx n [sS f fi ca az] E B G L (cu P (.exit e) [] (w4 P fn (dO B Post))):=Nx.mk fun a w hs hw=>by
 have hw':=hw.perm hL
 have main : Leaves P fn a.tmps (dO B Post) a.defers .returning w:=by
  rw [hs.defers]
  refine ⟨(fun h=>by cases h),Fn.func f,ca.toArray,f,xs.toArray,F,?_,?_⟩
  ·subst hv
   show (invoke (.fn (.func f) ca.toArray) (fi ++ az).toArray).run P w = _
   simp only [invoke]
   rw [mS hc.ok]
   simp
  ·intro c cs hu
   obtain ⟨e',u',w',fr,⟨h1,v,G',L',h2,h3,h4⟩,h5,h6,h7⟩:=hc.go w hw'.enter c cs hu
   subst h1 h2
   refine ⟨_,_,w',fr,?_,h5,h6,h7⟩
   obtain ⟨vs,L'',g1,g2,g3⟩:=k v G' L' h4
   have h8:=hw'.back h3
   exact ⟨ff vs,kU hs h8 hr g1,_,_,_,F,h8.weaken g2,g3⟩
 rcases he with rfl | rfl
 ·unfold cu;dsimp only;unfold kk;exact main
 ·unfold cu;dsimp only;unfold kk;exact main
end
attribute [irreducible] w4
section
variable {P : Program} {n : Nat} {D : List Deferred} {E : bx} {B : Base} {G : Gh} {L : List Own} {K : Act → World → Prop} {Q : Exit → Act → World → Prop} {ty : TypeId} {pos : String} {aft : Array Edge} {gd : Option (Nat × Bool)}
end
section
variable {P : Program} {n : Nat} {D : List Deferred} {E : bx} {B : Base} {G : Gh} {L : List Own} {K : Act → World → Prop} {Q : Exit → Act → World → Prop} {ty : TypeId} {pos : String} {aft : Array Edge}
theorem ip {fo : Operand} {l : List Operand} {af : Array TypeId} {d : Nat} {g : Option (Nat × Bool)} {f : FuncId} {fi ca az vs : List Value} {xs : List Value} {el : TypeId} {u : Value} {sz m : Nat} {R : List Own} {Post : Value → List Own → Prop}
  [ha2 : AccI L u el sz m xs R] (hf : ev E fo = some (.func (.func f) fi.toArray ca.toArray)) (ha : evs E l = some az) (hv : fi ++ az ++ ca = vs) (hc : cM P f vs G [.acc u el sz m xs] Post) (hlt : Nat.blt d n = true)
  (k : ∀ v L',Post v L' → Nx n D ((d,v) :: E) B G (L' ++ R) K) : Nx n D E B G L (ow P ⟨some d,.call ⟨.value fo,l.toArray,af⟩,ty,pos,aft,g⟩ Q K) :=
 p8 (Lp:=[.acc u el sz m xs]) hf ha hv hc ha2.del.perm hlt fun v G' L' h=>by obtain ⟨rfl,h⟩:=h;exact k v L' h
end
open Go.Proofs
abbrev bF : Value:=.bool false
abbrev u0 : Value:=.int .u8 0
noncomputable abbrev adD : Program:=Tryz.prog
instance ti2 : TI adD 2 (.int .i64) 1 8 (.int .i64 0):=TI.mk' kR kR kR
instance ti3 : TI adD 3 (.int .i64) 1 8 (.int .i64 0):=TI.mk' kR kR kR
instance ti4 : TI adD 4 .bool 1 1 (.bool false):=TI.mk' kR kR kR
instance ti5 : TI adD 5 (.int .u8) 1 1 (.int .u8 0):=TI.mk' kR kR kR
instance ti6 : TI adD 6 (.int .u8) 1 1 (.int .u8 0):=TI.mk' kR kR kR
instance ti7 : TI adD 7 (.struct (bZ adD 7)) 4 24 (Ag [(.int .i64 0),(.int .i64 0),(.bool false),(.int .u8 0)]):=TI.mk' kR kR kR
instance ti8 : TI adD 8 (.struct (bZ adD 8)) 4 24 (Ag [(.int .i64 0),(.int .i64 0),(.bool false),(.int .u8 0)]):=TI.mk' kR kR kR
instance ti9 : TI adD 9 .string 1 16 (S []):=TI.mk' kR kR kR
instance ti12 : TI adD 12 (.int .u64) 1 8 (.int .u64 0):=TI.mk' kR kR kR
instance ti13 : TI adD 13 (.struct (bZ adD 13)) 2 24 (Ag [(S []),(.int .u64 0)]):=TI.mk' kR kR kR
instance ti14 : TI adD 14 (.struct (bZ adD 14)) 2 24 (Ag [(S []),(.int .u64 0)]):=TI.mk' kR kR kR
instance ti17 : TI adD 17 (.pointer 249) 1 8 (.pointer none):=TI.mk' kR kR kR
instance ti18 : TI adD 18 (.struct (bZ adD 18)) 1 8 (Ag [(.pointer none)]):=TI.mk' kR kR kR
instance ti19 : TI adD 19 (.struct (bZ adD 19)) 1 8 (Ag [(.pointer none)]):=TI.mk' kR kR kR
instance ti22 : TI adD 22 (.slice 5) 1 24 aN:=TI.mk' kR kR kR
instance ti34 : TI adD 34 (.slice 86) 1 24 aN:=TI.mk' kR kR kR
instance ti35 : TI adD 35 (.struct (bZ adD 35)) 2 40 (Ag [(S []),aN]):=TI.mk' kR kR kR
instance ti36 : TI adD 36 (.struct (bZ adD 36)) 2 40 (Ag [(S []),aN]):=TI.mk' kR kR kR
instance ti42 : TI adD 42 (.pointer 101) 1 8 (.pointer none):=TI.mk' kR kR kR
instance ti47 : TI adD 47 (.slice 9) 1 24 aN:=TI.mk' kR kR kR
instance ti59 : TI adD 59 (.slice 146) 1 24 aN:=TI.mk' kR kR kR
instance ti60 : TI adD 60 (.pointer 120) 1 8 (.pointer none):=TI.mk' kR kR kR
instance ti63 : TI adD 63 (.slice 3) 1 24 aN:=TI.mk' kR kR kR
instance ti69 : TI adD 69 (.pointer 158) 1 8 (.pointer none):=TI.mk' kR kR kR
instance ti70 : TI adD 70 (.struct (bZ adD 70)) 3 48 (Ag [(S []),(S []),(S [])]):=TI.mk' kR kR kR
instance ti71 : TI adD 71 (.struct (bZ adD 71)) 3 48 (Ag [(S []),(S []),(S [])]):=TI.mk' kR kR kR
instance ti74 : TI adD 74 (.slice 76) 1 24 aN:=TI.mk' kR kR kR
instance ti75 : TI adD 75 (.struct (bZ adD 75)) 4 56 (Ag [(.int .u8 0),(S []),(.int .i64 0),aN]):=TI.mk' kR kR kR
instance ti76 : TI adD 76 (.struct (bZ adD 76)) 4 56 (Ag [(.int .u8 0),(S []),(.int .i64 0),aN]):=TI.mk' kR kR kR
instance ti85 : TI adD 85 (.struct (bZ adD 85)) 3 48 (Ag [(S []),(S []),(S [])]):=TI.mk' kR kR kR
instance ti86 : TI adD 86 (.struct (bZ adD 86)) 3 48 (Ag [(S []),(S []),(S [])]):=TI.mk' kR kR kR
instance ti91 : TI adD 91 (.pointer 93) 1 8 (.pointer none):=TI.mk' kR kR kR
instance ti92 : TI adD 92 (.struct (bZ adD 92)) 5 64 (Ag [(.pointer none),(S []),(.bool false),aN,(.int .i64 0)]):=TI.mk' kR kR kR
instance ti93 : TI adD 93 (.struct (bZ adD 93)) 5 64 (Ag [(.pointer none),(S []),(.bool false),aN,(.int .i64 0)]):=TI.mk' kR kR kR
instance ti100 : TI adD 100 (.struct (bZ adD 100)) 2 32 (Ag [aN,(.int .i64 0)]):=TI.mk' kR kR kR
instance ti101 : TI adD 101 (.struct (bZ adD 101)) 2 32 (Ag [aN,(.int .i64 0)]):=TI.mk' kR kR kR
instance ti113 : TI adD 113 (.struct (bZ adD 113)) 1 24 (Ag [aN]):=TI.mk' kR kR kR
instance ti114 : TI adD 114 (.struct (bZ adD 114)) 1 24 (Ag [aN]):=TI.mk' kR kR kR
instance ti118 : TI adD 118 (.slice 60) 1 24 aN:=TI.mk' kR kR kR
instance ti119 : TI adD 119 (.struct (bZ adD 119)) 4 80 (Ag [(S []),(S []),aN,aN]):=TI.mk' kR kR kR
instance ti120 : TI adD 120 (.struct (bZ adD 120)) 4 80 (Ag [(S []),(S []),aN,aN]):=TI.mk' kR kR kR
instance ti144 : TI adD 144 (.slice 150) 1 24 aN:=TI.mk' kR kR kR
instance ti145 : TI adD 145 (.struct (bZ adD 145)) 3 48 (Ag [(.int .u8 0),(S []),aN]):=TI.mk' kR kR kR
instance ti146 : TI adD 146 (.struct (bZ adD 146)) 3 48 (Ag [(.int .u8 0),(S []),aN]):=TI.mk' kR kR kR
instance ti149 : TI adD 149 (.struct (bZ adD 149)) 4 56 (Ag [(.int .i64 0),(S []),(S []),(S [])]):=TI.mk' kR kR kR
instance ti150 : TI adD 150 (.struct (bZ adD 150)) 4 56 (Ag [(.int .i64 0),(S []),(S []),(S [])]):=TI.mk' kR kR kR
instance ti155 : TI adD 155 (.map 9 160) 1 8 (.map none):=TI.mk' kR kR kR
instance ti156 : TI adD 156 (.slice 160) 1 24 aN:=TI.mk' kR kR kR
instance ti157 : TI adD 157 (.struct (bZ adD 157)) 2 32 (Ag [aN,(.map none)]):=TI.mk' kR kR kR
instance ti158 : TI adD 158 (.struct (bZ adD 158)) 2 32 (Ag [aN,(.map none)]):=TI.mk' kR kR kR
instance ti160 : TI adD 160 (.pointer 165) 1 8 (.pointer none):=TI.mk' kR kR kR
instance ti163 : TI adD 163 (.slice 167) 1 24 aN:=TI.mk' kR kR kR
instance ti164 : TI adD 164 (.struct (bZ adD 164)) 4 64 (Ag [(.int .u8 0),(S []),aN,(S [])]):=TI.mk' kR kR kR
instance ti165 : TI adD 165 (.struct (bZ adD 165)) 4 64 (Ag [(.int .u8 0),(S []),aN,(S [])]):=TI.mk' kR kR kR
instance ti166 : TI adD 166 (.struct (bZ adD 166)) 6 88 (Ag [(.int .i64 0),(S []),(S []),(S []),(S []),(S [])]):=TI.mk' kR kR kR
instance ti167 : TI adD 167 (.struct (bZ adD 167)) 6 88 (Ag [(.int .i64 0),(S []),(S []),(S []),(S []),(S [])]):=TI.mk' kR kR kR
instance ti173 : TI adD 173 (.pointer 167) 1 8 (.pointer none):=TI.mk' kR kR kR
instance ti177 : TI adD 177 (.pointer 179) 1 8 (.pointer none):=TI.mk' kR kR kR
instance ti178 : TI adD 178 (.struct (bZ adD 178)) 2 32 (Ag [(.pointer none),aN]):=TI.mk' kR kR kR
instance ti179 : TI adD 179 (.struct (bZ adD 179)) 2 32 (Ag [(.pointer none),aN]):=TI.mk' kR kR kR
instance ti185 : TI adD 185 (.pointer 187) 1 8 (.pointer none):=TI.mk' kR kR kR
instance ti186 : TI adD 186 (.struct (bZ adD 186)) 3 32 (Ag [(.pointer none),(S []),(.bool false)]):=TI.mk' kR kR kR
instance ti187 : TI adD 187 (.struct (bZ adD 187)) 3 32 (Ag [(.pointer none),(S []),(.bool false)]):=TI.mk' kR kR kR
instance ti200 : TI adD 200 (.array 256 4) 256 256 (Ag [bF,bF,bF,bF,bF,bF,bF,bF,bF,bF,bF,bF,bF,bF,bF,bF,bF,bF,bF,bF,bF,bF,bF,bF,bF,bF,bF,bF,bF,bF,bF,bF,bF,bF,bF,bF,bF,bF,bF,bF,bF,bF,bF,bF,bF,bF,bF,bF,bF,bF,bF,bF,bF,bF,bF,bF,bF,bF,bF,bF,bF,bF,bF,bF,bF,bF,bF,bF,bF,bF,bF,bF,bF,bF,bF,bF,bF,bF,bF,bF,bF,bF,bF,bF,bF,bF,bF,bF,bF,bF,bF,bF,bF,bF,bF,bF,bF,bF,bF,bF,bF,bF,bF,bF,bF,bF,bF,bF,bF,bF,bF,bF,bF,bF,bF,bF,bF,bF,bF,bF,bF,bF,bF,bF,bF,bF,bF,bF,bF,bF,bF,bF,bF,bF,bF,bF,bF,bF,bF,bF,bF,bF,bF,bF,bF,bF,bF,bF,bF,bF,bF,bF,bF,bF,bF,bF,bF,bF,bF,bF,bF,bF,bF,bF,bF,bF,bF,bF,bF,bF,bF,bF,bF,bF,bF,bF,bF,bF,bF,bF,bF,bF,bF,bF,bF,bF,bF,bF,bF,bF,bF,bF,bF,bF,bF,bF,bF,bF,bF,bF,bF,bF,bF,bF,bF,bF,bF,bF,bF,bF,bF,bF,bF,bF,bF,bF,bF,bF,bF,bF,bF,bF,bF,bF,bF,bF,bF,bF,bF,bF,bF,bF,bF,bF,bF,bF,bF,bF,bF,bF,bF,bF,bF,bF,bF,bF,bF,bF,bF,bF,bF,bF,bF,bF,bF,(.bool false)]):=TI.mk' kR kR kR
instance ti204 : TI adD 204 (.pointer 200) 1 8 (.pointer none):=TI.mk' kR kR kR
instance ti206 : TI adD 206 (.pointer 5) 1 8 (.pointer none):=TI.mk' kR kR kR
instance ti234 : TI adD 234 (.struct (bZ adD 234)) 2 2 (Ag [(.int .u8 0),(.int .u8 0)]):=TI.mk' kR kR kR
instance ti235 : TI adD 235 (.struct (bZ adD 235)) 2 2 (Ag [(.int .u8 0),(.int .u8 0)]):=TI.mk' kR kR kR
instance ti238 : TI adD 238 (.struct (bZ adD 238)) 4 40 (Ag [(.pointer none),(.pointer none),(.pointer none),(S [])]):=TI.mk' kR kR kR
instance ti239 : TI adD 239 (.struct (bZ adD 239)) 4 40 (Ag [(.pointer none),(.pointer none),(.pointer none),(S [])]):=TI.mk' kR kR kR
instance fa7_0 : FA adD 7 0 0:=FA.mk' kR ti2 rfl
instance fv7_0 : FV adD 7 0 false 0 1:=FV.mk' kR ti2 rfl
instance fa7_1 : FA adD 7 1 1:=FA.mk' kR ti3 rfl
instance fv7_1 : FV adD 7 1 false 1 1:=FV.mk' kR ti3 rfl
instance fa7_2 : FA adD 7 2 2:=FA.mk' kR ti4 rfl
instance fv7_2 : FV adD 7 2 false 2 1:=FV.mk' kR ti4 rfl
instance fa7_3 : FA adD 7 3 3:=FA.mk' kR ti6 rfl
instance fv7_3 : FV adD 7 3 false 3 1:=FV.mk' kR ti6 rfl
instance fa8_0 : FA adD 8 0 0:=FA.mk' kR ti2 rfl
instance fv8_0 : FV adD 8 0 false 0 1:=FV.mk' kR ti2 rfl
instance fa8_1 : FA adD 8 1 1:=FA.mk' kR ti3 rfl
instance fv8_1 : FV adD 8 1 false 1 1:=FV.mk' kR ti3 rfl
instance fa8_2 : FA adD 8 2 2:=FA.mk' kR ti4 rfl
instance fv8_2 : FV adD 8 2 false 2 1:=FV.mk' kR ti4 rfl
instance fa8_3 : FA adD 8 3 3:=FA.mk' kR ti6 rfl
instance fv8_3 : FV adD 8 3 false 3 1:=FV.mk' kR ti6 rfl
instance fa13_0 : FA adD 13 0 0:=FA.mk' kR ti9 rfl
instance fv13_0 : FV adD 13 0 false 0 1:=FV.mk' kR ti9 rfl
instance fa13_1 : FA adD 13 1 1:=FA.mk' kR ti12 rfl
instance fv13_1 : FV adD 13 1 false 1 1:=FV.mk' kR ti12 rfl
instance fa14_0 : FA adD 14 0 0:=FA.mk' kR ti9 rfl
instance fv14_0 : FV adD 14 0 false 0 1:=FV.mk' kR ti9 rfl
instance fa14_1 : FA adD 14 1 1:=FA.mk' kR ti12 rfl
instance fv14_1 : FV adD 14 1 false 1 1:=FV.mk' kR ti12 rfl
instance fa18_0 : FA adD 18 0 0:=FA.mk' kR ti17 rfl
instance fv18_0 : FV adD 18 0 false 0 1:=FV.mk' kR ti17 rfl
instance fa19_0 : FA adD 19 0 0:=FA.mk' kR ti17 rfl
instance fv19_0 : FV adD 19 0 false 0 1:=FV.mk' kR ti17 rfl
instance fa35_0 : FA adD 35 0 0:=FA.mk' kR ti9 rfl
instance fv35_0 : FV adD 35 0 false 0 1:=FV.mk' kR ti9 rfl
instance fa35_1 : FA adD 35 1 1:=FA.mk' kR ti34 rfl
instance fv35_1 : FV adD 35 1 false 1 1:=FV.mk' kR ti34 rfl
instance fa36_0 : FA adD 36 0 0:=FA.mk' kR ti9 rfl
instance fv36_0 : FV adD 36 0 false 0 1:=FV.mk' kR ti9 rfl
instance fa36_1 : FA adD 36 1 1:=FA.mk' kR ti34 rfl
instance fv36_1 : FV adD 36 1 false 1 1:=FV.mk' kR ti34 rfl
instance fa70_0 : FA adD 70 0 0:=FA.mk' kR ti9 rfl
instance fv70_0 : FV adD 70 0 false 0 1:=FV.mk' kR ti9 rfl
instance fa70_1 : FA adD 70 1 1:=FA.mk' kR ti9 rfl
instance fv70_1 : FV adD 70 1 false 1 1:=FV.mk' kR ti9 rfl
instance fa70_2 : FA adD 70 2 2:=FA.mk' kR ti9 rfl
instance fv70_2 : FV adD 70 2 false 2 1:=FV.mk' kR ti9 rfl
instance fa71_0 : FA adD 71 0 0:=FA.mk' kR ti9 rfl
instance fv71_0 : FV adD 71 0 false 0 1:=FV.mk' kR ti9 rfl
instance fa71_1 : FA adD 71 1 1:=FA.mk' kR ti9 rfl
instance fv71_1 : FV adD 71 1 false 1 1:=FV.mk' kR ti9 rfl
instance fa71_2 : FA adD 71 2 2:=FA.mk' kR ti9 rfl
instance fv71_2 : FV adD 71 2 false 2 1:=FV.mk' kR ti9 rfl
instance : BT adD 71 [(0,1),(1,1),(2,1)] [(S []),(S []),(S [])]:=BT.mk' [(9,0,1),(9,1,1),(9,2,1)] rfl kR kR rfl
instance fa75_0 : FA adD 75 0 0:=FA.mk' kR ti5 rfl
instance fv75_0 : FV adD 75 0 false 0 1:=FV.mk' kR ti5 rfl
instance fa75_1 : FA adD 75 1 1:=FA.mk' kR ti9 rfl
instance fv75_1 : FV adD 75 1 false 1 1:=FV.mk' kR ti9 rfl
instance fa75_2 : FA adD 75 2 2:=FA.mk' kR ti3 rfl
instance fv75_2 : FV adD 75 2 false 2 1:=FV.mk' kR ti3 rfl
instance fa75_3 : FA adD 75 3 3:=FA.mk' kR ti74 rfl
instance fv75_3 : FV adD 75 3 false 3 1:=FV.mk' kR ti74 rfl
instance fa76_0 : FA adD 76 0 0:=FA.mk' kR ti5 rfl
instance fv76_0 : FV adD 76 0 false 0 1:=FV.mk' kR ti5 rfl
instance fa76_1 : FA adD 76 1 1:=FA.mk' kR ti9 rfl
instance fv76_1 : FV adD 76 1 false 1 1:=FV.mk' kR ti9 rfl
instance fa76_2 : FA adD 76 2 2:=FA.mk' kR ti3 rfl
instance fv76_2 : FV adD 76 2 false 2 1:=FV.mk' kR ti3 rfl
instance fa76_3 : FA adD 76 3 3:=FA.mk' kR ti74 rfl
instance fv76_3 : FV adD 76 3 false 3 1:=FV.mk' kR ti74 rfl
instance : BT adD 76 [(0,1),(1,1),(2,1),(3,1)] [(.int .u8 0),(S []),(.int .i64 0),aN]:=BT.mk' [(5,0,1),(9,1,1),(3,2,1),(74,3,1)] rfl kR kR rfl
instance fa85_0 : FA adD 85 0 0:=FA.mk' kR ti9 rfl
instance fv85_0 : FV adD 85 0 false 0 1:=FV.mk' kR ti9 rfl
instance fa85_1 : FA adD 85 1 1:=FA.mk' kR ti9 rfl
instance fv85_1 : FV adD 85 1 false 1 1:=FV.mk' kR ti9 rfl
instance fa85_2 : FA adD 85 2 2:=FA.mk' kR ti9 rfl
instance fv85_2 : FV adD 85 2 false 2 1:=FV.mk' kR ti9 rfl
instance fa86_0 : FA adD 86 0 0:=FA.mk' kR ti9 rfl
instance fv86_0 : FV adD 86 0 false 0 1:=FV.mk' kR ti9 rfl
instance fa86_1 : FA adD 86 1 1:=FA.mk' kR ti9 rfl
instance fv86_1 : FV adD 86 1 false 1 1:=FV.mk' kR ti9 rfl
instance fa86_2 : FA adD 86 2 2:=FA.mk' kR ti9 rfl
instance fv86_2 : FV adD 86 2 false 2 1:=FV.mk' kR ti9 rfl
instance fa92_0 : FA adD 92 0 0:=FA.mk' kR ti69 rfl
instance fv92_0 : FV adD 92 0 false 0 1:=FV.mk' kR ti69 rfl
instance fa92_1 : FA adD 92 1 1:=FA.mk' kR ti9 rfl
instance fv92_1 : FV adD 92 1 false 1 1:=FV.mk' kR ti9 rfl
instance fa92_2 : FA adD 92 2 2:=FA.mk' kR ti4 rfl
instance fv92_2 : FV adD 92 2 false 2 1:=FV.mk' kR ti4 rfl
instance fa92_3 : FA adD 92 3 3:=FA.mk' kR ti63 rfl
instance fv92_3 : FV adD 92 3 false 3 1:=FV.mk' kR ti63 rfl
instance fa92_4 : FA adD 92 4 4:=FA.mk' kR ti3 rfl
instance fv92_4 : FV adD 92 4 false 4 1:=FV.mk' kR ti3 rfl
instance fa93_0 : FA adD 93 0 0:=FA.mk' kR ti69 rfl
instance fv93_0 : FV adD 93 0 false 0 1:=FV.mk' kR ti69 rfl
instance fa93_1 : FA adD 93 1 1:=FA.mk' kR ti9 rfl
instance fv93_1 : FV adD 93 1 false 1 1:=FV.mk' kR ti9 rfl
instance fa93_2 : FA adD 93 2 2:=FA.mk' kR ti4 rfl
instance fv93_2 : FV adD 93 2 false 2 1:=FV.mk' kR ti4 rfl
instance fa93_3 : FA adD 93 3 3:=FA.mk' kR ti63 rfl
instance fv93_3 : FV adD 93 3 false 3 1:=FV.mk' kR ti63 rfl
instance fa93_4 : FA adD 93 4 4:=FA.mk' kR ti3 rfl
instance fv93_4 : FV adD 93 4 false 4 1:=FV.mk' kR ti3 rfl
instance : BT adD 93 [(0,1),(1,1),(2,1),(3,1),(4,1)] [(.pointer none),(S []),(.bool false),aN,(.int .i64 0)]:=BT.mk' [(69,0,1),(9,1,1),(4,2,1),(63,3,1),(3,4,1)] rfl kR kR rfl
instance fa100_0 : FA adD 100 0 0:=FA.mk' kR ti22 rfl
instance fv100_0 : FV adD 100 0 false 0 1:=FV.mk' kR ti22 rfl
instance fa100_1 : FA adD 100 1 1:=FA.mk' kR ti3 rfl
instance fv100_1 : FV adD 100 1 false 1 1:=FV.mk' kR ti3 rfl
instance fa101_0 : FA adD 101 0 0:=FA.mk' kR ti22 rfl
instance fv101_0 : FV adD 101 0 false 0 1:=FV.mk' kR ti22 rfl
instance fa101_1 : FA adD 101 1 1:=FA.mk' kR ti3 rfl
instance fv101_1 : FV adD 101 1 false 1 1:=FV.mk' kR ti3 rfl
instance : BT adD 101 [(0,1),(1,1)] [aN,(.int .i64 0)]:=BT.mk' [(22,0,1),(3,1,1)] rfl kR kR rfl
instance fa113_0 : FA adD 113 0 0:=FA.mk' kR ti59 rfl
instance fv113_0 : FV adD 113 0 false 0 1:=FV.mk' kR ti59 rfl
instance fa114_0 : FA adD 114 0 0:=FA.mk' kR ti59 rfl
instance fv114_0 : FV adD 114 0 false 0 1:=FV.mk' kR ti59 rfl
instance : BT adD 114 [(0,1)] [aN]:=BT.mk' [(59,0,1)] rfl kR kR rfl
instance fa119_0 : FA adD 119 0 0:=FA.mk' kR ti9 rfl
instance fv119_0 : FV adD 119 0 false 0 1:=FV.mk' kR ti9 rfl
instance fa119_1 : FA adD 119 1 1:=FA.mk' kR ti9 rfl
instance fv119_1 : FV adD 119 1 false 1 1:=FV.mk' kR ti9 rfl
instance fa119_2 : FA adD 119 2 2:=FA.mk' kR ti63 rfl
instance fv119_2 : FV adD 119 2 false 2 1:=FV.mk' kR ti63 rfl
instance fa119_3 : FA adD 119 3 3:=FA.mk' kR ti118 rfl
instance fv119_3 : FV adD 119 3 false 3 1:=FV.mk' kR ti118 rfl
instance fa120_0 : FA adD 120 0 0:=FA.mk' kR ti9 rfl
instance fv120_0 : FV adD 120 0 false 0 1:=FV.mk' kR ti9 rfl
instance fa120_1 : FA adD 120 1 1:=FA.mk' kR ti9 rfl
instance fv120_1 : FV adD 120 1 false 1 1:=FV.mk' kR ti9 rfl
instance fa120_2 : FA adD 120 2 2:=FA.mk' kR ti63 rfl
instance fv120_2 : FV adD 120 2 false 2 1:=FV.mk' kR ti63 rfl
instance fa120_3 : FA adD 120 3 3:=FA.mk' kR ti118 rfl
instance fv120_3 : FV adD 120 3 false 3 1:=FV.mk' kR ti118 rfl
instance : BT adD 120 [(0,1),(1,1),(2,1),(3,1)] [(S []),(S []),aN,aN]:=BT.mk' [(9,0,1),(9,1,1),(63,2,1),(118,3,1)] rfl kR kR rfl
instance fa145_0 : FA adD 145 0 0:=FA.mk' kR ti5 rfl
instance fv145_0 : FV adD 145 0 false 0 1:=FV.mk' kR ti5 rfl
instance fa145_1 : FA adD 145 1 1:=FA.mk' kR ti9 rfl
instance fv145_1 : FV adD 145 1 false 1 1:=FV.mk' kR ti9 rfl
instance fa145_2 : FA adD 145 2 2:=FA.mk' kR ti144 rfl
instance fv145_2 : FV adD 145 2 false 2 1:=FV.mk' kR ti144 rfl
instance fa146_0 : FA adD 146 0 0:=FA.mk' kR ti5 rfl
instance fv146_0 : FV adD 146 0 false 0 1:=FV.mk' kR ti5 rfl
instance fa146_1 : FA adD 146 1 1:=FA.mk' kR ti9 rfl
instance fv146_1 : FV adD 146 1 false 1 1:=FV.mk' kR ti9 rfl
instance fa146_2 : FA adD 146 2 2:=FA.mk' kR ti144 rfl
instance fv146_2 : FV adD 146 2 false 2 1:=FV.mk' kR ti144 rfl
instance : BT adD 146 [(0,1),(1,1),(2,1)] [(.int .u8 0),(S []),aN]:=BT.mk' [(5,0,1),(9,1,1),(144,2,1)] rfl kR kR rfl
instance fa149_0 : FA adD 149 0 0:=FA.mk' kR ti3 rfl
instance fv149_0 : FV adD 149 0 false 0 1:=FV.mk' kR ti3 rfl
instance fa149_1 : FA adD 149 1 1:=FA.mk' kR ti9 rfl
instance fv149_1 : FV adD 149 1 false 1 1:=FV.mk' kR ti9 rfl
instance fa149_2 : FA adD 149 2 2:=FA.mk' kR ti9 rfl
instance fv149_2 : FV adD 149 2 false 2 1:=FV.mk' kR ti9 rfl
instance fa149_3 : FA adD 149 3 3:=FA.mk' kR ti9 rfl
instance fv149_3 : FV adD 149 3 false 3 1:=FV.mk' kR ti9 rfl
instance fa150_0 : FA adD 150 0 0:=FA.mk' kR ti3 rfl
instance fv150_0 : FV adD 150 0 false 0 1:=FV.mk' kR ti3 rfl
instance fa150_1 : FA adD 150 1 1:=FA.mk' kR ti9 rfl
instance fv150_1 : FV adD 150 1 false 1 1:=FV.mk' kR ti9 rfl
instance fa150_2 : FA adD 150 2 2:=FA.mk' kR ti9 rfl
instance fv150_2 : FV adD 150 2 false 2 1:=FV.mk' kR ti9 rfl
instance fa150_3 : FA adD 150 3 3:=FA.mk' kR ti9 rfl
instance fv150_3 : FV adD 150 3 false 3 1:=FV.mk' kR ti9 rfl
instance : BT adD 150 [(0,1),(1,1),(2,1),(3,1)] [(.int .i64 0),(S []),(S []),(S [])]:=BT.mk' [(3,0,1),(9,1,1),(9,2,1),(9,3,1)] rfl kR kR rfl
instance fa157_0 : FA adD 157 0 0:=FA.mk' kR ti156 rfl
instance fv157_0 : FV adD 157 0 false 0 1:=FV.mk' kR ti156 rfl
instance fa157_1 : FA adD 157 1 1:=FA.mk' kR ti155 rfl
instance fv157_1 : FV adD 157 1 false 1 1:=FV.mk' kR ti155 rfl
instance fa158_0 : FA adD 158 0 0:=FA.mk' kR ti156 rfl
instance fv158_0 : FV adD 158 0 false 0 1:=FV.mk' kR ti156 rfl
instance fa158_1 : FA adD 158 1 1:=FA.mk' kR ti155 rfl
instance fv158_1 : FV adD 158 1 false 1 1:=FV.mk' kR ti155 rfl
instance : BT adD 158 [(0,1),(1,1)] [aN,(.map none)]:=BT.mk' [(156,0,1),(155,1,1)] rfl kR kR rfl
instance fa164_0 : FA adD 164 0 0:=FA.mk' kR ti5 rfl
instance fv164_0 : FV adD 164 0 false 0 1:=FV.mk' kR ti5 rfl
instance fa164_1 : FA adD 164 1 1:=FA.mk' kR ti9 rfl
instance fv164_1 : FV adD 164 1 false 1 1:=FV.mk' kR ti9 rfl
instance fa164_2 : FA adD 164 2 2:=FA.mk' kR ti163 rfl
instance fv164_2 : FV adD 164 2 false 2 1:=FV.mk' kR ti163 rfl
instance fa164_3 : FA adD 164 3 3:=FA.mk' kR ti9 rfl
instance fv164_3 : FV adD 164 3 false 3 1:=FV.mk' kR ti9 rfl
instance fa165_0 : FA adD 165 0 0:=FA.mk' kR ti5 rfl
instance fv165_0 : FV adD 165 0 false 0 1:=FV.mk' kR ti5 rfl
instance fa165_1 : FA adD 165 1 1:=FA.mk' kR ti9 rfl
instance fv165_1 : FV adD 165 1 false 1 1:=FV.mk' kR ti9 rfl
instance fa165_2 : FA adD 165 2 2:=FA.mk' kR ti163 rfl
instance fv165_2 : FV adD 165 2 false 2 1:=FV.mk' kR ti163 rfl
instance fa165_3 : FA adD 165 3 3:=FA.mk' kR ti9 rfl
instance fv165_3 : FV adD 165 3 false 3 1:=FV.mk' kR ti9 rfl
instance : BT adD 165 [(0,1),(1,1),(2,1),(3,1)] [(.int .u8 0),(S []),aN,(S [])]:=BT.mk' [(5,0,1),(9,1,1),(163,2,1),(9,3,1)] rfl kR kR rfl
instance fa166_0 : FA adD 166 0 0:=FA.mk' kR ti3 rfl
instance fv166_0 : FV adD 166 0 false 0 1:=FV.mk' kR ti3 rfl
instance fa166_1 : FA adD 166 1 1:=FA.mk' kR ti9 rfl
instance fv166_1 : FV adD 166 1 false 1 1:=FV.mk' kR ti9 rfl
instance fa166_2 : FA adD 166 2 2:=FA.mk' kR ti71 rfl
instance fv166_2 : FV adD 166 2 true 2 3:=FV.mk' kR ti71 rfl
instance fa166_3 : FA adD 166 3 5:=FA.mk' kR ti9 rfl
instance fv166_3 : FV adD 166 3 false 5 1:=FV.mk' kR ti9 rfl
instance fa167_0 : FA adD 167 0 0:=FA.mk' kR ti3 rfl
instance fv167_0 : FV adD 167 0 false 0 1:=FV.mk' kR ti3 rfl
instance fa167_1 : FA adD 167 1 1:=FA.mk' kR ti9 rfl
instance fv167_1 : FV adD 167 1 false 1 1:=FV.mk' kR ti9 rfl
instance fa167_2 : FA adD 167 2 2:=FA.mk' kR ti71 rfl
instance fv167_2 : FV adD 167 2 true 2 3:=FV.mk' kR ti71 rfl
instance fa167_3 : FA adD 167 3 5:=FA.mk' kR ti9 rfl
instance fv167_3 : FV adD 167 3 false 5 1:=FV.mk' kR ti9 rfl
instance : BT adD 167 [(0,1),(1,1),(2,3),(5,1)] [(.int .i64 0),(S []),(S []),(S []),(S []),(S [])]:=BT.mk' [(3,0,1),(9,1,1),(71,2,3),(9,5,1)] rfl kR kR rfl
instance fa178_0 : FA adD 178 0 0:=FA.mk' kR ti177 rfl
instance fv178_0 : FV adD 178 0 false 0 1:=FV.mk' kR ti177 rfl
instance fa178_1 : FA adD 178 1 1:=FA.mk' kR ti22 rfl
instance fv178_1 : FV adD 178 1 false 1 1:=FV.mk' kR ti22 rfl
instance fa179_0 : FA adD 179 0 0:=FA.mk' kR ti177 rfl
instance fv179_0 : FV adD 179 0 false 0 1:=FV.mk' kR ti177 rfl
instance fa179_1 : FA adD 179 1 1:=FA.mk' kR ti22 rfl
instance fv179_1 : FV adD 179 1 false 1 1:=FV.mk' kR ti22 rfl
instance : BT adD 179 [(0,1),(1,1)] [(.pointer none),aN]:=BT.mk' [(177,0,1),(22,1,1)] rfl kR kR rfl
instance fa186_0 : FA adD 186 0 0:=FA.mk' kR ti69 rfl
instance fv186_0 : FV adD 186 0 false 0 1:=FV.mk' kR ti69 rfl
instance fa186_1 : FA adD 186 1 1:=FA.mk' kR ti9 rfl
instance fv186_1 : FV adD 186 1 false 1 1:=FV.mk' kR ti9 rfl
instance fa186_2 : FA adD 186 2 2:=FA.mk' kR ti4 rfl
instance fv186_2 : FV adD 186 2 false 2 1:=FV.mk' kR ti4 rfl
instance fa187_0 : FA adD 187 0 0:=FA.mk' kR ti69 rfl
instance fv187_0 : FV adD 187 0 false 0 1:=FV.mk' kR ti69 rfl
instance fa187_1 : FA adD 187 1 1:=FA.mk' kR ti9 rfl
instance fv187_1 : FV adD 187 1 false 1 1:=FV.mk' kR ti9 rfl
instance fa187_2 : FA adD 187 2 2:=FA.mk' kR ti4 rfl
instance fv187_2 : FV adD 187 2 false 2 1:=FV.mk' kR ti4 rfl
instance : BT adD 187 [(0,1),(1,1),(2,1)] [(.pointer none),(S []),(.bool false)]:=BT.mk' [(69,0,1),(9,1,1),(4,2,1)] rfl kR kR rfl
instance fa234_0 : FA adD 234 0 0:=FA.mk' kR ti5 rfl
instance fv234_0 : FV adD 234 0 false 0 1:=FV.mk' kR ti5 rfl
instance fa234_1 : FA adD 234 1 1:=FA.mk' kR ti5 rfl
instance fv234_1 : FV adD 234 1 false 1 1:=FV.mk' kR ti5 rfl
instance fa235_0 : FA adD 235 0 0:=FA.mk' kR ti5 rfl
instance fv235_0 : FV adD 235 0 false 0 1:=FV.mk' kR ti5 rfl
instance fa235_1 : FA adD 235 1 1:=FA.mk' kR ti5 rfl
instance fv235_1 : FV adD 235 1 false 1 1:=FV.mk' kR ti5 rfl
instance fa238_0 : FA adD 238 0 0:=FA.mk' kR ti17 rfl
instance fv238_0 : FV adD 238 0 false 0 1:=FV.mk' kR ti17 rfl
instance fa238_1 : FA adD 238 1 1:=FA.mk' kR ti17 rfl
instance fv238_1 : FV adD 238 1 false 1 1:=FV.mk' kR ti17 rfl
instance fa238_2 : FA adD 238 2 2:=FA.mk' kR ti17 rfl
instance fv238_2 : FV adD 238 2 false 2 1:=FV.mk' kR ti17 rfl
instance fa238_3 : FA adD 238 3 3:=FA.mk' kR ti9 rfl
instance fv238_3 : FV adD 238 3 false 3 1:=FV.mk' kR ti9 rfl
instance fa239_0 : FA adD 239 0 0:=FA.mk' kR ti17 rfl
instance fv239_0 : FV adD 239 0 false 0 1:=FV.mk' kR ti17 rfl
instance fa239_1 : FA adD 239 1 1:=FA.mk' kR ti17 rfl
instance fv239_1 : FV adD 239 1 false 1 1:=FV.mk' kR ti17 rfl
instance fa239_2 : FA adD 239 2 2:=FA.mk' kR ti17 rfl
instance fv239_2 : FV adD 239 2 false 2 1:=FV.mk' kR ti17 rfl
instance fa239_3 : FA adD 239 3 3:=FA.mk' kR ti9 rfl
instance fv239_3 : FV adD 239 3 false 3 1:=FV.mk' kR ti9 rfl
def tb : Tbl:=⟨12,42404329554681223909999140017830044379859613525014854994918548831022874720,16,3584,128555092784112555274688629758034047715783940054155593454419968,[(7,[(false,0,1),(false,1,1),(false,2,1),(false,3,1)]),(8,[(false,0,1),(false,1,1),(false,2,1),(false,3,1)]),(13,[(false,0,1),(false,1,1)]),(14,[(false,0,1),(false,1,1)]),(18,[(false,0,1)]),(19,[(false,0,1)]),(35,[(false,0,1),(false,1,1)]),(36,[(false,0,1),(false,1,1)]),(70,[(false,0,1),(false,1,1),(false,2,1)]),(71,[(false,0,1),(false,1,1),(false,2,1)]),(75,[(false,0,1),(false,1,1),(false,2,1),(false,3,1)]),(76,[(false,0,1),(false,1,1),(false,2,1),(false,3,1)]),(85,[(false,0,1),(false,1,1),(false,2,1)]),(86,[(false,0,1),(false,1,1),(false,2,1)]),(92,[(false,0,1),(false,1,1),(false,2,1),(false,3,1),(false,4,1)]),(93,[(false,0,1),(false,1,1),(false,2,1),(false,3,1),(false,4,1)]),(100,[(false,0,1),(false,1,1)]),(101,[(false,0,1),(false,1,1)]),(113,[(false,0,1)]),(114,[(false,0,1)]),(119,[(false,0,1),(false,1,1),(false,2,1),(false,3,1)]),(120,[(false,0,1),(false,1,1),(false,2,1),(false,3,1)]),(145,[(false,0,1),(false,1,1),(false,2,1)]),(146,[(false,0,1),(false,1,1),(false,2,1)]),(149,[(false,0,1),(false,1,1),(false,2,1),(false,3,1)]),(150,[(false,0,1),(false,1,1),(false,2,1),(false,3,1)]),(157,[(false,0,1),(false,1,1)]),(158,[(false,0,1),(false,1,1)]),(164,[(false,0,1),(false,1,1),(false,2,1),(false,3,1)]),(165,[(false,0,1),(false,1,1),(false,2,1),(false,3,1)]),(166,[(false,0,1),(false,1,1),(true,2,3),(false,5,1)]),(167,[(false,0,1),(false,1,1),(true,2,3),(false,5,1)]),(178,[(false,0,1),(false,1,1)]),(179,[(false,0,1),(false,1,1)]),(186,[(false,0,1),(false,1,1),(false,2,1)]),(187,[(false,0,1),(false,1,1),(false,2,1)]),(234,[(false,0,1),(false,1,1)]),(235,[(false,0,1),(false,1,1)]),(238,[(false,0,1),(false,1,1),(false,2,1),(false,3,1)]),(239,[(false,0,1),(false,1,1),(false,2,1),(false,3,1)])]⟩
theorem adh : vr adD tb.fl:=⟨⟨⟨fv7_0,fa7_0⟩,⟨fv7_1,fa7_1⟩,⟨fv7_2,fa7_2⟩,⟨fv7_3,fa7_3⟩,trivial⟩,⟨⟨fv8_0,fa8_0⟩,⟨fv8_1,fa8_1⟩,⟨fv8_2,fa8_2⟩,⟨fv8_3,fa8_3⟩,trivial⟩,⟨⟨fv13_0,fa13_0⟩,⟨fv13_1,fa13_1⟩,trivial⟩,⟨⟨fv14_0,fa14_0⟩,⟨fv14_1,fa14_1⟩,trivial⟩,⟨⟨fv18_0,fa18_0⟩,trivial⟩,⟨⟨fv19_0,fa19_0⟩,trivial⟩,⟨⟨fv35_0,fa35_0⟩,⟨fv35_1,fa35_1⟩,trivial⟩,⟨⟨fv36_0,fa36_0⟩,⟨fv36_1,fa36_1⟩,trivial⟩,⟨⟨fv70_0,fa70_0⟩,⟨fv70_1,fa70_1⟩,⟨fv70_2,fa70_2⟩,trivial⟩,⟨⟨fv71_0,fa71_0⟩,⟨fv71_1,fa71_1⟩,⟨fv71_2,fa71_2⟩,trivial⟩,⟨⟨fv75_0,fa75_0⟩,⟨fv75_1,fa75_1⟩,⟨fv75_2,fa75_2⟩,⟨fv75_3,fa75_3⟩,trivial⟩,⟨⟨fv76_0,fa76_0⟩,⟨fv76_1,fa76_1⟩,⟨fv76_2,fa76_2⟩,⟨fv76_3,fa76_3⟩,trivial⟩,⟨⟨fv85_0,fa85_0⟩,⟨fv85_1,fa85_1⟩,⟨fv85_2,fa85_2⟩,trivial⟩,⟨⟨fv86_0,fa86_0⟩,⟨fv86_1,fa86_1⟩,⟨fv86_2,fa86_2⟩,trivial⟩,⟨⟨fv92_0,fa92_0⟩,⟨fv92_1,fa92_1⟩,⟨fv92_2,fa92_2⟩,⟨fv92_3,fa92_3⟩,⟨fv92_4,fa92_4⟩,trivial⟩,⟨⟨fv93_0,fa93_0⟩,⟨fv93_1,fa93_1⟩,⟨fv93_2,fa93_2⟩,⟨fv93_3,fa93_3⟩,⟨fv93_4,fa93_4⟩,trivial⟩,⟨⟨fv100_0,fa100_0⟩,⟨fv100_1,fa100_1⟩,trivial⟩,⟨⟨fv101_0,fa101_0⟩,⟨fv101_1,fa101_1⟩,trivial⟩,⟨⟨fv113_0,fa113_0⟩,trivial⟩,⟨⟨fv114_0,fa114_0⟩,trivial⟩,⟨⟨fv119_0,fa119_0⟩,⟨fv119_1,fa119_1⟩,⟨fv119_2,fa119_2⟩,⟨fv119_3,fa119_3⟩,trivial⟩,⟨⟨fv120_0,fa120_0⟩,⟨fv120_1,fa120_1⟩,⟨fv120_2,fa120_2⟩,⟨fv120_3,fa120_3⟩,trivial⟩,⟨⟨fv145_0,fa145_0⟩,⟨fv145_1,fa145_1⟩,⟨fv145_2,fa145_2⟩,trivial⟩,⟨⟨fv146_0,fa146_0⟩,⟨fv146_1,fa146_1⟩,⟨fv146_2,fa146_2⟩,trivial⟩,⟨⟨fv149_0,fa149_0⟩,⟨fv149_1,fa149_1⟩,⟨fv149_2,fa149_2⟩,⟨fv149_3,fa149_3⟩,trivial⟩,⟨⟨fv150_0,fa150_0⟩,⟨fv150_1,fa150_1⟩,⟨fv150_2,fa150_2⟩,⟨fv150_3,fa150_3⟩,trivial⟩,⟨⟨fv157_0,fa157_0⟩,⟨fv157_1,fa157_1⟩,trivial⟩,⟨⟨fv158_0,fa158_0⟩,⟨fv158_1,fa158_1⟩,trivial⟩,⟨⟨fv164_0,fa164_0⟩,⟨fv164_1,fa164_1⟩,⟨fv164_2,fa164_2⟩,⟨fv164_3,fa164_3⟩,trivial⟩,⟨⟨fv165_0,fa165_0⟩,⟨fv165_1,fa165_1⟩,⟨fv165_2,fa165_2⟩,⟨fv165_3,fa165_3⟩,trivial⟩,⟨⟨fv166_0,fa166_0⟩,⟨fv166_1,fa166_1⟩,⟨fv166_2,fa166_2⟩,⟨fv166_3,fa166_3⟩,trivial⟩,⟨⟨fv167_0,fa167_0⟩,⟨fv167_1,fa167_1⟩,⟨fv167_2,fa167_2⟩,⟨fv167_3,fa167_3⟩,trivial⟩,⟨⟨fv178_0,fa178_0⟩,⟨fv178_1,fa178_1⟩,trivial⟩,⟨⟨fv179_0,fa179_0⟩,⟨fv179_1,fa179_1⟩,trivial⟩,⟨⟨fv186_0,fa186_0⟩,⟨fv186_1,fa186_1⟩,⟨fv186_2,fa186_2⟩,trivial⟩,⟨⟨fv187_0,fa187_0⟩,⟨fv187_1,fa187_1⟩,⟨fv187_2,fa187_2⟩,trivial⟩,⟨⟨fv234_0,fa234_0⟩,⟨fv234_1,fa234_1⟩,trivial⟩,⟨⟨fv235_0,fa235_0⟩,⟨fv235_1,fa235_1⟩,trivial⟩,⟨⟨fv238_0,fa238_0⟩,⟨fv238_1,fa238_1⟩,⟨fv238_2,fa238_2⟩,⟨fv238_3,fa238_3⟩,trivial⟩,⟨⟨fv239_0,fa239_0⟩,⟨fv239_1,fa239_1⟩,⟨fv239_2,fa239_2⟩,⟨fv239_3,fa239_3⟩,trivial⟩,trivial⟩
instance : Tab adD tb:=Tab.mk' 250 kR kR kR kR kR adh
theorem aj : adD.follows .mixedOrders = true:=by kernel_rfl
section
variable {n : Nat} {D : List Deferred} {E : bx} {B : Base} {G : Gh} {L : List Own} {k : List Fr} {Q : Exit → Act → World → Prop} {K : Act → World → Prop}
theorem jT [PQ Q] {ops : List Oper} {G0 : Gh} {L0 : List Own} (fuel : Nat) (is : List Nat) {E' : bx} {p' : List Prop} {fuel' : Nat} {listed : Array Bool} (listed' : Array Bool) (hn : Nx n D E' B G L (xA adD ops.toArray Q (b9 B G0 L0) fuel listed'))
    (hf : Nat.beq (fuel + is.length) fuel' = true:=by exact F) (h : iM tb n ops is E [] = some (E',p'):=by exact F) (hsel : Region.noSelect ops.toArray = true:=by kernel_rfl) (hb : mF ops.toArray is listed listed' = true:=by kernel_rfl)
    (hG : Gh.le G0 G:=by first | exact Gh.le.refl _ | assumption) (hL : L0.Sublist L:=by repeat (first | exact List.Sublist.refl _ | exact List.nil_sublist _ | apply List.Sublist.cons_cons | apply List.Sublist.cons)) (hp : iL p':=by exact trivial) : Nx n D E B G L (xA adD ops.toArray Q (b9 B G0 L0) fuel' listed):=uO is listed' hsel hb hf h hG hL hp hn
theorem jU [PQ Q] {ops : List Oper} {G0 : Gh} {L0 : List Own} (fuel : Nat) (is : List Nat) {E' : bx} {p' : List Prop} {fuel' : Nat} {listed : Array Bool} (listed' : Array Bool) (hp : iL p') (hn : Nx n D E' B G L (xA adD ops.toArray Q (b9 B G0 L0) fuel listed'))
    (hf : Nat.beq (fuel + is.length) fuel' = true:=by exact F) (h : iM tb n ops is E [] = some (E',p'):=by exact F) (hsel : Region.noSelect ops.toArray = true:=by kernel_rfl) (hb : mF ops.toArray is listed listed' = true:=by kernel_rfl)
    (hG : Gh.le G0 G:=by first | exact Gh.le.refl _ | assumption) (hL : L0.Sublist L:=by repeat (first | exact List.Sublist.refl _ | exact List.nil_sublist _ | apply List.Sublist.cons_cons | apply List.Sublist.cons)) : Nx n D E B G L (xA adD ops.toArray Q (b9 B G0 L0) fuel' listed):=uO is listed' hsel hb hf h hG hL hp hn
theorem jN {ops : List Oper} {G0 : Gh} {L0 : List Own} {fuel : Nat} {listed : Array Bool} (listed' : Array Bool) [PQ Q] (i : Nat) {o : Oper} {d : Nat} (hi : ops.toArray[i]? = some o)
    (k : Nx n D ((d,undef) :: E) B G L (xA adD ops.toArray Q (b9 B G0 L0) fuel listed')) (hb : nQ ops.toArray listed i listed' = true:=by kernel_rfl) (hgu : sE E ops o = some false:=by exact F) (hG : Gh.le G0 G:=by first | exact Gh.le.refl _ | assumption) (hL : L0.Sublist L:=by repeat (first | exact List.Sublist.refl _ | exact List.nil_sublist _ | apply List.Sublist.cons_cons | apply List.Sublist.cons)) (hd : o.dst = some d:=by exact F) (hlt : Nat.blt d n = true:=by exact F) :
    Nx n D E B G L (xA adD ops.toArray Q (b9 B G0 L0) (fuel + 1) listed):=yf listed' i hi hb hgu hG hL hd hlt k
theorem jG {ops : List Oper} {G0 : Gh} {L0 : List Own} {fuel : Nat} {listed : Array Bool} (listed' : Array Bool) [PQ Q] (i : Nat) {o : Oper} {d : Nat} {v : Value} (hi : ops.toArray[i]? = some o) (hg : Gives adD n D E (b9 B G0 L0) o v)
    (k : Nx n D ((d,v) :: E) B G L (xA adD ops.toArray Q (b9 B G0 L0) fuel listed')) (hb : nQ ops.toArray listed i listed' = true:=by kernel_rfl) (hgu : sE E ops o = some true:=by exact F) (hG : Gh.le G0 G:=by first | exact Gh.le.refl _ | assumption) (hL : L0.Sublist L:=by repeat (first | exact List.Sublist.refl _ | exact List.nil_sublist _ | apply List.Sublist.cons_cons | apply List.Sublist.cons)) (hd : o.dst = some d:=by exact F) (hlt : Nat.blt d n = true:=by exact F) :
    Nx n D E B G L (xA adD ops.toArray Q (b9 B G0 L0) (fuel + 1) listed):=uP listed' i hi hb hgu hG hL hg hd hlt k
theorem jV {o : Oper} {d : Nat} {v : Value} (hg : Gives adD n D E (St B G L) o v) (k : Nx n D ((d,v) :: E) B G L K) (hd : o.dst = some d:=by exact F) (hlt : Nat.blt d n = true:=by exact F) : Nx n D E B G L (ow adD o Q K):=kS hg hd hlt k
theorem jR {E' : bx} {c c' : Cu} {k k' : List Fr} {p' : List Prop} (hn : Nx n D E' B G L (cu adD c' k' Q)) (h : rY tb n 400 E c k = some ⟨E',c',k',p'⟩:=by exact F) (hp : iL p':=by exact trivial) : Nx n D E B G L (cu adD c k Q):=run 400 h hp hn
theorem jM {E' : bx} {c c' : Cu} {k k' : List Fr} {p' : List Prop} (hn : Nx n D E' B G L (cu adD c' k' Q)) (h : rY tb n 400 E c k = some ⟨E',c',k',p'⟩:=by exact F) (hp : iL p':=by (repeat' (first | exact trivial | apply And.intro | omega));done) : Nx n D E B G L (cu adD c k Q):=run 400 h hp hn
theorem jE {f : FuncId} {fn : Func} {c : Code} {args : List Value} {R : Value → Prop} (E0 : bx) (hf : adD.funcs[f]? = some fn) (hn : fn.ntmps = n)
    (h : ∀ B,B.W = [] → Nx n [] E0 B G [] (cu adD (.code c) [] (bp adD fn (dO B (fun v G' L'=>G' = G ∧ L' = [] ∧ R v))))) (hb : fn.body = some c:=by exact F) (hok : eg adD f = true:=by kernel_rfl) (hlen : Nat.ble args.length n = true:=by exact F) (hE : hX E0 (params 0 args):=by repeat' constructor) : aG adD f args G R:=yW E0 hf hok hn hb hlen hE h
theorem jB {f : FuncId} {fn : Func} {c : Code} {args : List Value} {Post : Value → Gh → List Own → Prop} (E0 : bx) (hf : adD.funcs[f]? = some fn) (hn : fn.ntmps = n)
    (h : ∀ B,BOk B → B.G = G → B.W = co L → Nx n [] E0 B G L (cu adD (.code c) [] (bp adD fn (dO B Post)))) (hb : fn.body = some c:=by exact F) (hok : eg adD f = true:=by kernel_rfl) (hlen : Nat.ble args.length n = true:=by exact F) (hE : hX E0 (params 0 args):=by repeat' constructor) : Fn adD f args G L Post:=aag E0 hf hok hn hb hlen hE h
theorem jH {f : FuncId} {fn : Func} {c : Code} {args : List Value} {R : Value → List Own → Prop} (E0 : bx) (hf : adD.funcs[f]? = some fn) (hn : fn.ntmps = n)
    (h : ∀ B,B.G = G → B.W = co L → Nx n [] E0 B G L (cu adD (.code c) [] (bp adD fn (dO B (fun v G' L'=>G' = G ∧ R v L'))))) (hb : fn.body = some c:=by exact F) (hok : eg adD f = true:=by kernel_rfl) (hlen : Nat.ble args.length n = true:=by exact F) (hE : hX E0 (params 0 args):=by repeat' constructor) : cM adD f args G L R:=zq E0 hf hok hn hb hlen hE h
theorem jK {ops : Array Oper} {G0 : Gh} {L0 : List Own} {fuel : Nat} {listed : Array Bool} (listed' : Array Bool) (h : Nx n D E B G L (xA adD ops Q (b9 B G0 L0) fuel listed')) (hG : Gh.le G0 G:=by first | exact Gh.le.refl _ | assumption) (hL : L0.Sublist L:=by repeat (first | exact List.Sublist.refl _ | exact List.nil_sublist _ | apply List.Sublist.cons_cons | apply List.Sublist.cons)) (hl : (listed == listed') = true:=by kernel_rfl) : Nx n D E B G L (xK adD ops Q (b9 B G0 L0) fuel listed):=adg hG hL hl h
theorem jS {ops : Array Oper} {G0 : Gh} {L0 : List Own} {fuel : Nat} {listed : Array Bool} (listed' : Array Bool) (h : Nx n D E B G L (xA adD ops Q (b9 B G L) fuel listed')) (hG : Gh.le G0 G:=by first | exact Gh.le.refl _ | assumption) (hL : L0.Sublist L:=by repeat (first | exact List.Sublist.refl _ | exact List.nil_sublist _ | apply List.Sublist.cons_cons | apply List.Sublist.cons)) (hl : (listed == listed') = true:=by kernel_rfl) : Nx n D E B G L (xK adD ops Q (b9 B G0 L0) fuel listed):=adf hG hL hl h
theorem jA {ops : List Oper} {S : World → Prop} {fuel : Nat} {listed : Array Bool} (i : Nat) {o : Oper} (hi : ops.toArray[i]? = some o) (h : Nx n D E B G L (ow adD o Q (xK adD ops.toArray Q S fuel (listed.setIfInBounds i true)))) (hr : Region.ready .any ops.toArray listed = [i]:=by kernel_rfl) (hgu : sE E ops o = some true:=by exact F) : Nx n D E B G L (xA adD ops.toArray Q S (fuel + 1) listed) :=
  cX [i] hr (by simp) ⟨bE hi hgu h,trivial⟩
theorem jZ {fn : Func} {rs : List ResultVar} {vs : List Value} {v : Value} {L' : List Own} {Post : Value → Gh → List Own → Prop} (hr : fn.results = rs.toArray) (h : je adD (St B G L) E rs vs) (hv : ff vs = v) (hP : Post v G L')
    (hL : L'.Sublist L:=by exact List.nil_sublist _) : Nx n [] E B G L (cu adD (.exit .ret) [] (bp adD fn (dO B Post))):=aR hr h hv hL hP
theorem jX {E' : bx} {c c' : Cu} {k k' : List Fr} {p' : List Prop} (hn : Nx n D E' B G L (cu adD c' k' Q)) (h : rY tb n 400 E c k = some ⟨E',c',k',p'⟩:=by exact F) (hp : iL p':=by (repeat' (first | exact trivial | apply And.intro | omega | assumption | (simp only [List.length_append,List.length_cons,List.length_nil,Int.toNat_natCast];omega) | (simp only [List.length_append,List.length_cons,List.length_nil,List.length_take,List.length_drop];omega) | (with_reducible exact (rP _ _).1) | (with_reducible exact (rP _ _).2)));done) : Nx n D E B G L (cu adD c k Q):=run 400 h hp hn
theorem jW [PQ Q] {ops : List Oper} {G0 : Gh} {L0 : List Own} (fuel : Nat) (is : List Nat) {E' : bx} {p' : List Prop} {fuel' : Nat} {listed : Array Bool} (listed' : Array Bool) (hn : Nx n D E' B G L (xA adD ops.toArray Q (b9 B G0 L0) fuel listed'))
    (hf : Nat.beq (fuel + is.length) fuel' = true:=by exact F) (h : iM tb n ops is E [] = some (E',p'):=by exact F) (hsel : Region.noSelect ops.toArray = true:=by kernel_rfl) (hb : mF ops.toArray is listed listed' = true:=by kernel_rfl)
    (hG : Gh.le G0 G:=by first | exact Gh.le.refl _ | assumption) (hL : L0.Sublist L:=by repeat (first | exact List.Sublist.refl _ | exact List.nil_sublist _ | apply List.Sublist.cons_cons | apply List.Sublist.cons)) (hp : iL p':=by (repeat' (first | exact trivial | apply And.intro | omega | assumption | (simp only [List.length_append,List.length_cons,List.length_nil,Int.toNat_natCast];omega) | (simp only [List.length_append,List.length_cons,List.length_nil,List.length_take,List.length_drop];omega) | (with_reducible exact (rP _ _).1) | (with_reducible exact (rP _ _).2)));done) : Nx n D E B G L (xA adD ops.toArray Q (b9 B G0 L0) fuel' listed):=uO is listed' hsel hb hf h hG hL hp hn
section
variable {d : Nat} {ty : TypeId} {pos : String} {aft : Array Edge} {gd : Option (Nat × Bool)} {K2 : Act → World → Prop}
theorem al {T T0 : TypeId} {x : Operand} {desc : TypeDesc} {size bytes : Nat} {zero : Value} {b o : Nat} {v : Value} {cs : List Value} {fr : Nat × Nat} [TI adD T desc size bytes zero] [BlkI L b cs T0 fr] (hx : ev E x = some (Pt b o)) (k : Nx n D ((d,v) :: E) B G L K)
    (ha : dz desc = false:=by exact F) (hc : cs[o]? = some v:=by exact F) (hlt : Nat.blt d n = true:=by exact F) : Nx n D E B G L (ow adD ⟨some d,.load T x,ty,pos,aft,gd⟩ Q K):=kS (aC hx ha hc) F hlt k
theorem aQ {T T0 : TypeId} {x : Operand} {desc : TypeDesc} {size bytes : Nat} {zero : Value} {b o : Nat} {vs : List Value} {cs : List Value} {fr : Nat × Nat} [TI adD T desc size bytes zero] [BlkI L b cs T0 fr] (hx : ev E x = some (Pt b o)) (k : Nx n D ((d,Ag vs) :: E) B G L K)
    (ha : dz desc = true:=by exact F) (hc : lE cs o size = some vs:=by exact F) (hl : Nat.beq vs.length size = true:=by exact F) (hlt : Nat.blt d n = true:=by exact F) : Nx n D E B G L (ow adD ⟨some d,.load T x,ty,pos,aft,gd⟩ Q K):=kS (bz hx ha hc hl) F hlt k
theorem aK {c x y : Operand} {b : Bool} {v : Value} (hc : ev E c = some (.bool b)) (k : Nx n D ((d,v) :: E) B G L K) (hx : ev E x = some v:=by exact F) (hb : b = true:=by exact F) (hlt : Nat.blt d n = true:=by exact F) : Nx n D E B G L (ow adD ⟨some d,.pick c x y,ty,pos,aft,gd⟩ Q K):=kS (bJ hc hx hb) F hlt k
theorem aw {c x y : Operand} {b : Bool} {v : Value} (hc : ev E c = some (.bool b)) (k : Nx n D ((d,v) :: E) B G L K) (hy : ev E y = some v:=by exact F) (hb : b = false:=by exact F) (hlt : Nat.blt d n = true:=by exact F) : Nx n D E B G L (ow adD ⟨some d,.pick c x y,ty,pos,aft,gd⟩ Q K):=kS (bm hc hy hb) F hlt k
theorem jC {T T0 : TypeId} {x y : Operand} {desc : TypeDesc} {size bytes : Nat} {zero : Value} {b o : Nat} {cs vs cs' : List Value} {fr : Nat × Nat} {L' : List Own} [TI adD T desc size bytes zero] [BlkI L b cs T0 fr] [hu : UpdI b cs' L cs T0 L'] (hx : ev E x = some (Pt b o)) (hy : ev E y = some (Ag vs)) (hp : gM cs o vs = some cs') (k : Nx n D E B G L' K)
    (hl : Nat.beq vs.length size = true:=by exact F) (hne : vs.isEmpty = false:=by exact F) (h1 : gT vs = true:=by exact F) : Nx n D E B G L (ow adD ⟨none,.store T x y,ty,pos,aft,gd⟩ Q K):=acI hx hy hl hne h1 hp k
theorem jD {T T0 : TypeId} {x y : Operand} {desc : TypeDesc} {bytes : Nat} {zero v : Value} {b o : Nat} {cs cs' : List Value} {fr : Nat × Nat} {L' : List Own} [TI adD T desc 1 bytes zero] [BlkI L b cs T0 fr] [hu : UpdI b cs' L cs T0 L'] (hx : ev E x = some (Pt b o)) (hy : ev E y = some v) (hp : gM cs o [v] = some cs') (k : Nx n D E B G L' K) (h1 : v.oneCell' = true:=by exact F) : Nx n D E B G L (ow adD ⟨none,.store T x y,ty,pos,aft,gd⟩ Q K):=acJ hx hy h1 hp k
end
theorem jY {fn : Func} {rs : List ResultVar} {vs : List Value} {R : Value → Prop} (hP : R (ff vs)) (hr : fn.results = rs.toArray:=by exact F) (h : je adD (St B G L) E rs vs:=by repeat' (first | exact trivial | refine ⟨F,?_⟩)) : Nx n [] E B G L (cu adD (.exit .ret) [] (bp adD fn (dO B (fun v G' L'=>G' = G ∧ L' = [] ∧ R v)))):=aR hr h F (List.nil_sublist _) ⟨F,F,hP⟩
theorem jo {a l : List Oper} {i : Nat} {pm : List Nat} {o : Oper} (h : Nx n D E B G L (ow adD o (kk adD k Q) (cu adD (.ops a l (i + 1) pm) k Q))) (hg : oe E a pm o = some true:=by exact F) : Nx n D E B G L (cu adD (.ops a (o :: l) i pm) k Q):=vj hg h
section
variable {d : Nat} {ty : TypeId} {pos : String} {aft : Array Edge} {gd : Option (Nat × Bool)}
theorem jF {T el : TypeId} {len : Nat} {ps : List (Nat × Operand)} {qs : List (Nat × List Value)} {desc : TypeDesc} {size bytes size' bytes' : Nat} {zero zero' : Value} {zs cs : List Value} [TI adD T (.slice el) size' bytes' zero'] [TI adD el desc size bytes zero] (k : ∀ b,Nx n D ((d,.slice (some ⟨b,0,none⟩) len len) :: E) B G (.blk b (.cells cs.toArray el (0,0)) :: L) K) (hz : fp zero = some zs:=by exact F)
    (hsz : Nat.beq zs.length size = true:=by exact F) (he : rt E ps = some qs:=by exact F) (hf : pU (jm (qd size) (bW zs len) qs) = some cs:=by exact F) (hsm : Nat.ble (len * size) 16777216 = true:=by exact F) (hlt : Nat.blt d n = true:=by exact F) : Nx n D E B G L (ow adD ⟨some d,.buildSlice T len ps.toArray,ty,pos,aft,gd⟩ Q K):=acS hz hsz hsm hlt he hf k
theorem jL {T : TypeId} {desc : TypeDesc} {size bytes : Nat} {zero : Value} {cs : List Value} [TI adD T desc size bytes zero] (k : ∀ b,Nx n D ((d,Pt b 0) :: E) B G (.blk b (.cells cs.toArray T (0,0)) :: L) K) (hz : fp zero = some cs:=by exact F) (hlt : Nat.blt d n = true:=by exact F) : Nx n D E B G L (ow adD ⟨some d,.alloc T,ty,pos,aft,gd⟩ Q K):=adt hz hlt k
theorem jO {T : TypeId} {x : Operand} {v : Value} {cs : List Value} (k : ∀ b,Nx n D ((d,Pt b 0) :: E) B G (.blk b (.cells cs.toArray T (0,0)) :: L) K) (hx : ev E x = some v:=by exact F) (hz : fp v = some cs:=by exact F) (hlt : Nat.blt d n = true:=by exact F) : Nx n D E B G L (ow adD ⟨some d,.box T x,ty,pos,aft,gd⟩ Q K):=ads hx hz hlt k
end
theorem jQ {ops : Array Oper} {S : World → Prop} {fuel : Nat} {listed : Array Bool} (h : Nx n D E B G L (cu adD (.exit .normal) k Q)) (hr : Region.ready .any ops listed = []:=by kernel_rfl) : Nx n D E B G L (xA adD ops (kk adD k Q) S fuel listed):=aak hr (adq h)
theorem zA {α : Type _} {a : α} {l m : List α} : a :: l ++ m = a :: (l ++ m):=rfl
theorem fA {α : Type _} {l : List α} : [] ++ l = l:=rfl
end
set_option maxRecDepth 20000
set_option maxHeartbeats 2000000
theorem xe (l : adE) (c : UInt8) : bM (l ++ [c]) = bM l ++ [U8 c.toNat]:=by simp [bM]
def num (n : Nat) : adE:=if h : n < 128 then [u8 n] else u8 (128 + n % 128 : Nat) :: num (n / 128)
termination_by n
decreasing_by omega
theorem sj {n : Nat} (h : n < 128) : num n = [u8 n]:=by rw [num];simp [h]
theorem v7 {n : Nat} (h : ¬ n < 128) : num n = u8 (128 + n % 128 : Nat) :: num (n / 128):=by rw [num];simp [h]
def bL (n : Int) : adE:=num n.toNat
theorem gj {n : Int} (h : n < 128) (h0 : 0 ≤ n) : bL n = [u8 n]:=by
 unfold bL;rw [sj oM,Int.toNat_of_nonneg h0]
theorem iA {n : Int} (h : ¬ n < 128) : bL n = u8 (128 + n % 128) :: bL (n / 128):=by
 unfold bL;rw [v7 oM]
 congr 2
 ·omega
 ·omega
theorem nH (n : Nat) : ∀ k,n < 128 ^ (k + 1) → (num n).length ≤ k + 1:=by
 intro k
 induction k generalizing n with
 | zero=>intro h;rw [sj (by simpa using h)];simp
 | succ k ih =>
  intro h
  by_cases h1 : n < 128
  ·rw [sj h1];simp
  ·rw [v7 h1]
   have:=ih (n / 128) (Nat.div_lt_of_lt_mul (by rw [Nat.pow_succ] at h;omega))
   simp;omega
theorem xy (n : Nat) (h : n ≤ 9223372036854775807) : (num n).length ≤ 9:=nH n 8 oM
theorem xz (n : Int) (h : n ≤ 9223372036854775807) : (bL n).length ≤ 9:=xy _ oM
def aat (n : Int) : adE → Int
 | []=>n
 | c :: l=>aat ((n * 31 + (c.toNat : Int)) % 9973) l
def adm (l : adE) : Int:=aat 1 l
theorem iF {l : adE} {i : Nat} (h : i < l.length) : ∃ c : UInt8,l.drop i = c :: l.drop (i + 1) ∧ bt l i = c.toNat:=by
 refine ⟨l[i],(List.getElem_cons_drop (h:=h)).symm,?_⟩
 simp [bt,List.getD,List.getElem?_eq_getElem h]
def frame (s : adE) : adE:=[u8 126] ++ bL s.length ++ s ++ bL (adm s)
theorem cL {n : Int} (h : n ≤ 999999) : (bL n).length ≤ 3:=nH _ 2 oM
variable {G : Gh}
theorem abH {n lo hi : Int} : aG adD 76 [I n,I lo,I hi] G (· = Bo (decide (lo ≤ n) && decide (n ≤ hi))):=by
 refine jE [(0,_),(1,_),(2,_)] Tryz.func76 Tryz.ntmps76 fun B hB=>?_
 repeat' (first | refine jR ?_ | (refine jo ?_;first | refine aK F ?_ | refine aw F ?_) | refine eD F F (fun _=>?_) (fun _=>?_))
 all_goals refine jY (vs:=[_]) ?_
 all_goals (rw [aH];simp [*])
theorem xX : ∀ (k : Nat) {n : Int},n.toNat ≤ k → 0 ≤ n ∧ n ≤ 9223372036854775807 → aG adD 36 [I n] G (· = S (bL n)):=by
 intro k
 induction k with
 | zero =>
  intro n hk hn
  have h1 : n < 128:=oM
  refine jE [(0,_)] Tryz.func36 Tryz.ntmps36 fun B hB=>?_
  repeat' (first | refine jR ?_ | (refine jo ?_;first | refine jF fun _=>?_ | refine jV (dU F F (by (repeat (first | exact BL.nil | apply BL.cons));done)) ?_) | refine ab F (aD ‹_›) ?_)
  refine jY (vs:=[_]) ?_
  rw [aH,gj h1 hn.1]
 | succ k ih =>
  intro n hk hn
  have hl:=xz (n / 128) oM
  refine jE [(0,_)] Tryz.func36 Tryz.ntmps36 fun B hB=>?_
  repeat' (first | refine jR ?_ | (refine jo ?_;first | refine jF fun _=>?_ | refine jV (dU F F (by (repeat (first | exact BL.nil | apply BL.cons));done)) ?_) | refine dJ F (fun _=>?_) (fun _=>?_) | (refine ak (ar (id:=3) _ (fun _ h=>h) aj ?_);refine jW 5 [0,1,2,3,6,7] (aa 11 207) ?_;refine cX [4,8] kR dC ⟨?_,?_,trivial⟩;(focus (refine bE F F ?_;(refine jF fun _=>?_);refine jS (aa 11 223) ?_;((refine jG (aa 11 255) 5 F (dU F F (by (repeat (first | exact BL.nil | apply BL.cons));done)) ?_));refine jA 8 F ?_;((refine ac F F F (ih ?_ ?_) F ?_;(focus omega);focus omega));refine jS (aa 11 511) ?_;refine jW 0 [9,10] (aa 11 2047) ?_;refine jQ ?_));rotate_left 1;(focus (refine bE F F ?_;((refine ac F F F (ih ?_ ?_) F ?_;(focus omega);focus omega));refine jS (aa 11 463) ?_;refine jA 4 F ?_;(refine jF fun _=>?_);refine jS (aa 11 479) ?_;((refine jG (aa 11 511) 5 F (dU F F (by (repeat (first | exact BL.nil | apply BL.cons));done)) ?_));refine jW 0 [9,10] (aa 11 2047) ?_;refine jQ ?_));rotate_left 1))
  ·refine jY (vs:=[_]) ?_
   rw [aH,gj aS hn.1]
  all_goals refine jY (vs:=[_]) ?_
  all_goals (rw [aH,iA (n:=n) aS];rfl)
theorem lv {n : Int} (hn : 0 ≤ n ∧ n ≤ 9223372036854775807) : aG adD 36 [I n] G (· = S (bL n)):=xX n.toNat (Nat.le_refl _) hn
def ql (xs : List adE) : List Value:=xs.map fun x=>S x
theorem qU (xs : List adE) (x : adE) : ql (xs ++ [x]) = ql xs ++ [S x]:=by simp [ql]
abbrev uT : TypeId:=9
theorem bh {α : Type} [Inhabited α] {a : List α} {i : Nat} (h : i < a.length) : ae a i ∈ a:=by rw [aI h];exact List.getElem_mem h
theorem nK {α : Type} [Inhabited α] {a : List α} {x : α} (h : x ∈ a) : ∃ i,i < a.length ∧ ae a i = x:=by
 obtain ⟨i,hi,e⟩:=List.mem_iff_getElem.1 h
 exact ⟨i,hi,by rw [aI hi,e]⟩
theorem pL (p s : adE) : p.isPrefixOf s = decide (p.length ≤ s.length ∧ s.take p.length = p):=by
 by_cases h : p <+: s
 ·have h1:=List.isPrefixOf_iff_prefix.2 h
  rw [h1];obtain ⟨r,rfl⟩:=h;simp
 ·have h1 : p.isPrefixOf s = false:=by
   cases hb : p.isPrefixOf s with
   | false=>rfl
   | true=>exact absurd (List.isPrefixOf_iff_prefix.1 hb) h
  rw [h1];symm;refine decide_eq_false fun ⟨_,h3⟩=>h ?_
  rw [← h3];exact List.take_prefix _ _
theorem iq {s p : adE} : aG adD 170 [S s,S p] G (· = Bo (p.isPrefixOf s)):=by
 rw [pL]
 refine jE [(0,_),(1,_)] Tryz.func170 Tryz.ntmps170 fun B hB=>?_
 repeat' (first | refine jM ?_ | (refine jo ?_;first | refine aK F ?_ | refine aw F ?_) | refine eD F F (fun _=>?_) (fun _=>?_))
 all_goals refine jY (vs:=[_]) ?_
 all_goals (rw [aH];simp;omega)
theorem iR {s p : adE} : aG adD 130 [S s,S p] G (· = Bo (p.isPrefixOf s)):=by
 refine jE [(0,_),(1,_)] Tryz.func130 Tryz.ntmps130 fun B hB=>?_
 repeat' (first | refine jR ?_ | (refine jo ?_;refine ac F F F iq F ?_))
 all_goals refine jY (vs:=[_]) ?_
 all_goals rfl
def kF (c : UInt8) : Bool:=decide (97 ≤ c.toNat ∧ c.toNat ≤ 122)
def cB (s : adE) : Bool:=s.all kF && decide (1 ≤ s.length ∧ s.length ≤ 3)
def d9 : adE → Bool
 | []=>false
 | c :: r=>if c.toNat = 91 ∨ c.toNat = 63 then d9 r
  else if c.toNat = 64 then decide (((bt (c :: r) r.length : Nat) : Int) = 59) && cB (r.take (r.length - 1))
  else decide (r = []) && (decide (c.toNat = 110) || decide (c.toNat = 116) || decide (c.toNat = 102))
def bC (s : adE) : Bool:=decide (s.length ≤ 12) && d9 s
def bo : adE → adE
 | []=>[]
 | c :: r=>if c.toNat = 91 ∨ c.toNat = 63 then bo r else c :: r
theorem ui {s : adE} {i : Nat} (h : i < s.length) (h2 : ¬ (97 ≤ bt s i ∧ bt s i ≤ 122)) : cB s = false:=by
 have e : bt s i = (s[i]).toNat:=by simp [bt,List.getD,List.getElem?_eq_getElem h]
 have : s.all kF = false:=by
  rw [List.all_eq_false]
  exact ⟨s[i],List.getElem_mem h,by rw [e] at h2;simpa [kF] using h2⟩
 rw [cB,this,Bool.false_and]
theorem xE {s : adE} (h : ∀ i,i < s.length → 97 ≤ bt s i ∧ bt s i ≤ 122) : cB s = decide (1 ≤ s.length ∧ s.length ≤ 3):=by
 have : s.all kF = true:=by
  rw [List.all_eq_true]
  intro c hc
  obtain ⟨i,hi,rfl⟩:=List.mem_iff_getElem.1 hc
  have e : bt s i = (s[i]).toNat:=by simp [bt,List.getD,List.getElem?_eq_getElem hi]
  have:=h i hi
  rw [e] at this
  simpa [kF] using this
 rw [cB,this,Bool.true_and]
def rz (n : Nat) : adE:=if h : n < 10 then [u8 (48 + n : Nat)] else rz (n / 10) ++ [u8 (48 + n % 10 : Nat)]
termination_by n
decreasing_by omega
def a8 (n : Int) : adE:=rz n.toNat
theorem dP {n : Int} (h : n < 10) (h0 : 0 ≤ n) : a8 n = [u8 (48 + n)]:=by
 unfold a8;rw [rz,dif_pos oM];congr 1;congr 1;omega
theorem g7 {n : Int} (h : ¬ n < 10) : a8 n = a8 (n / 10) ++ [u8 (48 + n % 10)]:=by
 unfold a8;rw [rz,dif_neg oM]
 have e1 : n.toNat / 10 = (n / 10).toNat:=oM
 have e2 : ((48 + n.toNat % 10 : Nat) : Int) = 48 + n % 10:=oM
 rw [e1,e2]
theorem uq (n : Nat) : ∀ k,n < 10 ^ (k + 1) → (rz n).length ≤ k + 1:=by
 intro k
 induction k generalizing n with
 | zero=>intro h;rw [rz,dif_pos (by simpa using h)];simp
 | succ k ih =>
  intro h
  by_cases h1 : n < 10
  ·rw [rz,dif_pos h1];simp
  ·rw [rz,dif_neg h1]
   have:=ih (n / 10) (Nat.div_lt_of_lt_mul (by rw [Nat.pow_succ] at h;omega))
   simp;omega
theorem gR {n : Int} (h : n ≤ 9223372036854775807) : (a8 n).length ≤ 19:=uq _ 18 oM
theorem gf {s : adE} (h : s.length ≤ 9000000000000000000) : aG adD 108 [S s] G (· = Bo (cB s)):=by
 refine jE [(0,_)] Tryz.func108 Tryz.ntmps108 fun B hB=>?_
 repeat' (refine jR ?_)
 refine aU (ι:=Nat) (fun i=>i ≤ s.length ∧ ∀ k,k < i → 97 ≤ bt s k ∧ bt s k ≤ 122) (fun i=>[(0,S s),(3,I i)]) (fun _=>G) (fun i=>[]) (fun i=>s.length - i) 0 ?_ tU F aZ (fun i Hi=>?_)
 ·exact ⟨oM,fun k hk=>absurd hk oM⟩
 by_cases hi : i < s.length
 ·repeat' (first | refine jM ?_ | (refine jo ?_;first | refine aK F ?_ | refine aw F ?_) | refine eD F F (fun _=>?_) (fun _=>?_) | (refine ab F (by first | rfl | (refine decide_eq_true ?_;(omega))) ?_) | refine dJ F (fun _=>?_) (fun _=>?_))
  ·rename_i hc
   refine jY (vs:=[_]) ?_
   have hc : ((bt s i : Nat) : Int) < 97:=hc
   rw [aH,ui hi oM]
  ·rename_i _ hc
   refine jY (vs:=[_]) ?_
   have hc : (122 : Int) < ((bt s i : Nat) : Int):=hc
   rw [aH,ui hi oM]
  ·rename_i h1 h2
   have h1 : ¬ ((bt s i : Nat) : Int) < 97:=h1
   have h2 : ¬ (122 : Int) < ((bt s i : Nat) : Int):=h2
   refine a7 (i + 1) ⟨oM,fun k hk=>?_⟩ oM tU F aZ
   rcases Nat.lt_or_ge k i with h3 | h3
   ·exact Hi.2 k h3
   ·have : k = i:=oM
    subst this;omega
 ·repeat' (first | refine jR ?_ | (refine jo ?_;refine ac F F F abH F ?_) | refine ad F (aE oM) ?_)
  refine jY (vs:=[_]) ?_
  rw [aH,xE fun k hk=>Hi.2 k oM]
  refine congrArg Bo ?_
  rw [Bool.decide_and]
  exact congr (congrArg and (decide_eq_decide.2 oM)) (decide_eq_decide.2 oM)
theorem mv (c : UInt8) (r : adE) : bt (c :: r) 0 = c.toNat:=by simp [bt,List.getD]
theorem z8 {c : UInt8} {r : adE} (h : r ≠ []) (hl : r.length ≤ 1000000) : aG adD 118 [S (c :: r)] G (· = Tu [S (if c.toNat = 64 then r.take (r.length - 1) else []),Bo (decide (c.toNat = 64))]):=by
 have hp:=List.length_pos_iff.2 h
 have e0:=mv c r
 refine jE [(0,_)] Tryz.func118 Tryz.ntmps118 fun B hB=>?_
 repeat' (first | refine jX ?_ | refine dJ F (fun _=>?_) (fun _=>?_))
 ·rename_i hc
  refine jY (vs:=[_,_]) ?_
  have hc : ((bt (c :: r) 0 : Nat) : Int) ≠ 64:=hc
  have hc : ¬ c.toNat = 64:=oM
  rw [eC,if_neg hc,decide_eq_false hc]
 ·rename_i hc
  refine jY (vs:=[_,_]) ?_
  have hc : ¬ ((bt (c :: r) 0 : Nat) : Int) ≠ 64:=hc
  have hc : c.toNat = 64:=oM
  have e : ((((c :: r).length : Nat) : Int) - 1).toNat = (r.length - 1) + 1:=by simp only [List.length_cons];omega
  rw [eC,if_pos hc,decide_eq_true hc,e,List.take_succ_cons];rfl
theorem ny {s : adE} : aG adD 117 [S s] G (· = Bo (bC s)):=by
 induction s with
 | nil =>
  refine jE [(0,_)] Tryz.func117 Tryz.ntmps117 fun B hB=>?_
  repeat' (first | refine jR ?_ | (refine jo ?_;refine aw F ?_) | refine am F F F ?_ | refine ab F F ?_)
  all_goals refine jY (vs:=[_]) ?_
  all_goals rfl
 | cons c r ih =>
  have e0 : bt (c :: r) (Int.toNat 0) = c.toNat:=mv c r
  by_cases hl : (c :: r).length ≤ 12
  ·have hl2 : r.length ≤ 12:=by simp at hl;omega
   rw [bC,decide_eq_true hl,Bool.true_and,d9]
   rw [bC,decide_eq_true hl2,Bool.true_and] at ih
   have hcons : (c :: r).length = r.length + 1:=rfl
   by_cases h1 : c.toNat = 91
   ·rw [if_pos (.inl h1)]
    refine jE [(0,_)] Tryz.func117 Tryz.ntmps117 fun B hB=>?_
    repeat' (first | refine jM ?_ | (refine jo ?_;first | refine aw F ?_ | refine ac F F F ih F ?_) | refine am F F (aE oM) ?_ | refine ab F (aD oM) ?_ | refine ad F F ?_)
    refine jY (vs:=[_]) ?_
    rfl
   by_cases h2 : c.toNat = 63
   ·rw [if_pos (.inr h2)]
    refine jE [(0,_)] Tryz.func117 Tryz.ntmps117 fun B hB=>?_
    repeat' (first | refine jM ?_ | (refine jo ?_;first | refine aw F ?_ | refine ac F F F ih F ?_) | refine am F F (aE oM) ?_ | refine ab F (aD oM) ?_ | (refine ad F (by first | rfl | (refine decide_eq_false ?_;(omega))) ?_))
    refine jY (vs:=[_]) ?_
    rfl
   rw [if_neg oM]
   by_cases h3 : c.toNat = 64
   ·rw [if_pos h3]
    have h5 : ((((c :: r).length : Nat) : Int) - 1).toNat = r.length:=oM
    by_cases h4 : ((bt (c :: r) r.length : Nat) : Int) = 59
    ·have h6 : ((bt (c :: r) ((((c :: r).length : Nat) : Int) - 1).toNat : Nat) : Int) = 59:=by rw [h5];exact h4
     have hp : 0 < r.length:=by
      rcases Nat.eq_zero_or_pos r.length with h0 | h0
      ·have : r = []:=List.length_eq_zero_iff.1 h0
       subst this
       have : ((bt [c] (Int.toNat 0) : Nat) : Int) = 59:=h4
       omega
      ·exact h0
     have e1 : ((((c :: r).length : Nat) : Int) - 1).toNat = (r.length - 1) + 1:=oM
     refine jE [(0,_)] Tryz.func117 Tryz.ntmps117 fun B hB=>?_
     repeat' (first | refine jM ?_ | (refine jo ?_;first | refine aK F ?_ | refine aw F ?_ | (refine ac F F F (gf ?_) F ?_;(focus ((simp;omega);done)))) | refine aA F F (aD ‹_›) ?_ | refine am F F (aE oM) ?_ | refine ab F (aD oM) ?_ | (refine ad F (by first | rfl | (refine decide_eq_false ?_;(omega))) ?_))
     refine jY (vs:=[_]) ?_
     rw [aH,decide_eq_true h4,Bool.true_and,e1,List.take_succ_cons];rfl
    ·have h6 : ¬ ((bt (c :: r) ((((c :: r).length : Nat) : Int) - 1).toNat : Nat) : Int) = 59:=by rw [h5];exact h4
     refine jE [(0,_)] Tryz.func117 Tryz.ntmps117 fun B hB=>?_
     repeat' (first | refine jM ?_ | (refine jo ?_;refine aw F ?_) | (refine am F F (by refine decide_eq_false ?_;first | assumption | omega) ?_) | refine ab F (aD oM) ?_ | (refine ad F (by first | rfl | (refine decide_eq_false ?_;(omega))) ?_))
     refine jY (vs:=[_]) ?_
     rw [aH,decide_eq_false h4,Bool.false_and]
   ·rw [if_neg h3]
    have n1 : ∀ x : UInt8,(c :: r = [x]) = (c.toNat = x.toNat ∧ r = []):=fun x=>by
     rw [List.cons.injEq];exact propext ⟨fun h=>⟨by rw [h.1],h.2⟩,fun h=>⟨UInt8.toNat_inj.1 h.1,h.2⟩⟩
    refine jE [(0,_)] Tryz.func117 Tryz.ntmps117 fun B hB=>?_
    repeat' (first | refine jM ?_ | (refine jo ?_;first | refine aK F ?_ | refine aw F ?_) | refine aA F F F ?_ | refine am F F (aE oM) ?_ | refine eD F F (fun _=>?_) (fun _=>?_) | (refine ad F (by first | rfl | (refine decide_eq_false ?_;(omega))) ?_))
    all_goals refine jY (vs:=[_]) ?_
    all_goals rw [aH]
    ·rename_i h;rw [n1] at h;rw [decide_eq_true h.2,decide_eq_true (p:=c.toNat = 110) h.1];rfl
    ·rename_i h;rw [n1] at h;rw [decide_eq_true h.2,decide_eq_true (p:=c.toNat = 116) h.1];simp
    ·rename_i ha hb
     refine congrArg Bo ?_
     rw [n1] at ha hb
     simp only [n1]
     by_cases hr : r = []
     ·have hx : ¬ c.toNat = 110:=fun h=>ha ⟨h,hr⟩
      have hy : ¬ c.toNat = 116:=fun h=>hb ⟨h,hr⟩
      simp [hr,hx,hy]
     ·simp [hr]
  ·rw [bC,decide_eq_false hl,Bool.false_and]
   refine jE [(0,_)] Tryz.func117 Tryz.ntmps117 fun B hB=>?_
   repeat' (first | refine jR ?_ | (refine jo ?_;refine aK F ?_) | refine aA F F (aD oM) ?_ | refine ab F F ?_)
   all_goals refine jY (vs:=[_]) ?_
   all_goals rfl
theorem s7 {s : adE} (h : d9 s = true) : aG adD 119 [S s] G (· = S (bo s)):=by
 refine jE [(0,_)] Tryz.func119 Tryz.ntmps119 fun B hB=>?_
 repeat' (refine jR ?_)
 refine aU (ι:=adE) (fun t=>d9 t = true ∧ bo t = bo s) (fun t=>[(0,S t)]) (fun _=>G) (fun t=>[]) (fun t=>t.length) s ?_ tU F aZ (fun t Ht=>?_)
 ·exact ⟨h,F⟩
 match t,Ht with
 | c :: r,Ht =>
  have e0 : bt (c :: r) (Int.toNat 0) = c.toNat:=mv c r
  have hcons : (c :: r).length = r.length + 1:=rfl
  by_cases h1 : c.toNat = 91 ∨ c.toNat = 63
  ·have hk : d9 r = true:=by have:=Ht.1;rw [d9,if_pos h1] at this;exact this
   have hc : bo r = bo s:=by rw [← Ht.2,bo,if_pos h1]
   rcases h1 with h1 | h1
   all_goals repeat' (first | refine jM ?_ | (refine jo ?_;first | refine aK F ?_ | refine aw F ?_) | refine aA F F (aD oM) ?_ | refine am F F (aE oM) ?_ | (refine ab F (by first | rfl | (refine decide_eq_true ?_;(omega))) ?_))
   all_goals exact a7 r ⟨hk,hc⟩ oM tU F aZ
  ·repeat' (first | refine jM ?_ | (refine jo ?_;refine aw F ?_) | refine am F F (aE oM) ?_ | refine ad F (aE oM) ?_)
   refine jY (vs:=[_]) ?_
   rw [aH,← Ht.2,bo,if_neg h1]
theorem xW : ∀ (k : Nat) {n : Int},n.toNat ≤ k → 0 ≤ n ∧ n ≤ 9223372036854775807 → aG adD 122 [I n] G (· = S (a8 n)):=by
 intro k
 induction k with
 | zero =>
  intro n hk hn
  have h1 : n < 10:=oM
  refine jE [(0,_)] Tryz.func122 Tryz.ntmps122 fun B hB=>?_
  repeat' (first | refine jM ?_ | (refine jo ?_;first | refine jF fun _=>?_ | refine jV (dU F F (by (repeat (first | exact BL.nil | apply BL.cons));done)) ?_) | refine ab F (aD ‹_›) ?_ | refine ad F (aE oM) ?_)
  refine jY (vs:=[_]) ?_
  rw [aH,dP h1 hn.1]
 | succ k ih =>
  intro n hk hn
  have hl:=gR (n:=n / 10) oM
  by_cases h1 : n < 10
  ·refine jE [(0,_)] Tryz.func122 Tryz.ntmps122 fun B hB=>?_
   repeat' (first | refine jM ?_ | (refine jo ?_;first | refine jF fun _=>?_ | refine jV (dU F F (by (repeat (first | exact BL.nil | apply BL.cons));done)) ?_) | refine ab F (aD ‹_›) ?_ | refine ad F (aE oM) ?_)
   refine jY (vs:=[_]) ?_
   rw [aH,dP h1 hn.1]
  ·refine jE [(0,_)] Tryz.func122 Tryz.ntmps122 fun B hB=>?_
   repeat' (first | refine jR ?_ | (refine ad F (by refine decide_eq_false ?_;first | assumption | omega) ?_) | (refine ak (ar (id:=7) _ (fun _ h=>h) aj ?_);refine jW 5 [0,1,3,4,5,6] (aa 11 123) ?_;refine cX [2,7] kR dC ⟨?_,?_,trivial⟩;(focus (refine bE F F ?_;((refine ac F F F (ih ?_ ?_) F ?_;(focus omega);focus omega));refine jS (aa 11 127) ?_;refine jA 7 F ?_;(refine jF fun _=>?_);refine jS (aa 11 255) ?_;((refine jG (aa 11 511) 8 F (dU F F (by (repeat (first | exact BL.nil | apply BL.cons));done)) ?_));refine jW 0 [9,10] (aa 11 2047) ?_;refine jQ ?_));rotate_left 1;(focus (refine bE F F ?_;(refine jF fun _=>?_);refine jS (aa 11 251) ?_;((refine jG (aa 11 507) 8 F (dU F F (by (repeat (first | exact BL.nil | apply BL.cons));done)) ?_));refine jA 2 F ?_;((refine ac F F F (ih ?_ ?_) F ?_;(focus omega);focus omega));refine jS (aa 11 511) ?_;refine jW 0 [9,10] (aa 11 2047) ?_;refine jQ ?_));rotate_left 1))
   all_goals refine jY (vs:=[_]) ?_
   all_goals rw [aH,g7 (n:=n) h1]
theorem dp {n : Int} (hn : 0 ≤ n ∧ n ≤ 9223372036854775807) : aG adD 122 [I n] G (· = S (a8 n)):=xW n.toNat (Nat.le_refl _) hn
def gh (s : adE) : adE:=if s = [110] then [48] else if s = [116] then [39,39] else if s = [102] then [110,111] else []
theorem rG {s : adE} : aG adD 195 [S s] G (· = S (gh s)):=by
 refine jE [(0,_)] Tryz.func195 Tryz.ntmps195 fun B hB=>?_
 repeat' (first | refine jR ?_ | refine dJ F (fun _=>?_) (fun _=>?_))
 all_goals refine jY (vs:=[_]) ?_
 all_goals (rw [aH,gh];simp [*])
def jf (x : Nat) : Prop:=x = 32 ∨ (48 ≤ x ∧ x ≤ 57) ∨ (97 ≤ x ∧ x ≤ 122)
instance (x : Nat) : Decidable (jf x):=inferInstanceAs (Decidable (_ ∨ _))
def yF (s : adE) : Prop:=(2 ≤ s.length ∧ s.length ≤ 14) ∧ bt s 0 = 39 ∧ bt s (s.length - 1) = 39 ∧ ∀ i,i < s.length - 1 → i = 0 ∨ jf (bt s i)
instance (s : adE) : Decidable (yF s):=inferInstanceAs (Decidable (_ ∧ _ ∧ _ ∧ _))
def dc (s : adE) : Bool:=decide (yF s)
theorem fF {s : adE} (h : s.length ≤ 100000000) : aG adD 157 [S s] G (· = Bo (dc s)):=by
 by_cases h1 : 2 ≤ s.length ∧ s.length ≤ 14
 case neg =>
  have e : dc s = false:=decide_eq_false fun x=>h1 x.1
  rw [e]
  refine jE [(0,_)] Tryz.func157 Tryz.ntmps157 fun B hB=>?_
  repeat' (first | refine jR ?_ | (refine jo ?_;first | refine aK F ?_ | refine aw F ?_) | (refine aA F F (by first | rfl | (refine decide_eq_true ?_;(omega))) ?_) | refine eD F F (fun _=>?_) (fun _=>?_) | refine ab F F ?_)
  all_goals refine jY (vs:=[_]) ?_
  all_goals rfl
 by_cases h2 : bt s 0 = 39
 case neg =>
  have e : dc s = false:=decide_eq_false fun x=>h2 x.2.1
  have h3 : ¬ bt s (Int.toNat 0) = 39:=h2
  rw [e]
  refine jE [(0,_)] Tryz.func157 Tryz.ntmps157 fun B hB=>?_
  repeat' (first | refine jM ?_ | (refine jo ?_;first | refine aK F ?_ | refine aw F ?_) | refine aA F F (aD oM) ?_ | refine am F F (aE oM) ?_ | refine ab F F ?_)
  all_goals refine jY (vs:=[_]) ?_
  all_goals rfl
 have h3 : bt s (Int.toNat 0) = 39:=h2
 have h4 : (((s.length : Nat) : Int) - 1).toNat = s.length - 1:=oM
 by_cases h5 : bt s (s.length - 1) = 39
 case neg =>
  have e : dc s = false:=decide_eq_false fun x=>h5 x.2.2.1
  have h6 : ¬ bt s (((s.length : Nat) : Int) - 1).toNat = 39:=by rw [h4];exact h5
  rw [e]
  refine jE [(0,_)] Tryz.func157 Tryz.ntmps157 fun B hB=>?_
  repeat' (first | refine jM ?_ | (refine jo ?_;refine aw F ?_) | refine am F F (aE oM) ?_ | refine ab F (aD oM) ?_)
  all_goals refine jY (vs:=[_]) ?_
  all_goals rfl
 have h6 : bt s (((s.length : Nat) : Int) - 1).toNat = 39:=by rw [h4];exact h5
 refine jE [(0,_)] Tryz.func157 Tryz.ntmps157 fun B hB=>?_
 repeat' (first | refine jM ?_ | (refine jo ?_;refine aw F ?_) | refine am F F (aE oM) ?_ | refine ad F (aE oM) ?_)
 refine aU (ι:=Nat) (fun i=>(1 ≤ i ∧ i ≤ s.length - 1) ∧ ∀ k,k < i → k = 0 ∨ jf (bt s k)) (fun i=>[(0,S s),(3,I i)]) (fun _=>G) (fun i=>[]) (fun i=>s.length - i) 1 ?_ tU F aZ (fun i Hi=>?_)
 ·exact ⟨⟨Nat.le_refl _,oM⟩,fun k hk=>.inl oM⟩
 by_cases hi : i < s.length - 1
 ·by_cases ht : jf (bt s i)
  ·have ht2 : jf (bt s ((i : Int).toNat)):=ht
   unfold jf at ht2
   repeat' (first | refine jM ?_ | (refine jo ?_;first | refine aK F ?_ | refine aw F ?_) | (refine am F F (by first | rfl | (refine decide_eq_false ?_;(omega))) ?_) | refine eD F F (fun _=>?_) (fun _=>?_) | refine ab F (aD oM) ?_ | (refine ad F (by first | rfl | (refine decide_eq_false ?_;(omega))) ?_))
   all_goals refine a7 (i + 1) ⟨⟨oM,oM⟩,fun k hk=>?_⟩ oM tU F aZ
   all_goals (rcases Nat.lt_or_ge k i with h7 | h7;· exact Hi.2 k h7)
   all_goals (have : k = i:=by omega)
   all_goals (subst this;exact .inr ht)
  ·have ht2 : ¬ jf (bt s ((i : Int).toNat)):=ht
   unfold jf at ht2
   have e : dc s = false:=decide_eq_false fun x=>(x.2.2.2 i hi).elim (fun h8=>by omega) ht
   rw [e]
   repeat' (first | refine jM ?_ | (refine jo ?_;first | refine aK F ?_ | refine aw F ?_) | (refine aA F F (by first | rfl | (refine decide_eq_true ?_;(omega))) ?_) | refine eD F F (fun _=>?_) (fun _=>?_) | (refine ab F (by first | rfl | (refine decide_eq_true ?_;(omega))) ?_))
   all_goals refine jY (vs:=[_]) ?_
   all_goals rfl
 ·have e : dc s = true:=decide_eq_true ⟨h1,h2,h5,fun k hk=>Hi.2 k oM⟩
  rw [e]
  repeat' (first | refine jM ?_ | refine ad F (aE oM) ?_)
  refine jY (vs:=[_]) ?_
  rfl
def d4 (k : Nat) (acc : adE) : adE → List adE
 | []=>[acc]
 | c :: r=>if c.toNat = k then acc :: d4 k [] r else d4 k (acc ++ [c]) r
def aY (k : Nat) (s : adE) : List adE:=d4 k [] s
theorem uE {s : adE} {k : Nat} (h : s.length ≤ 100000000) : cM adD 82 [S s,U8 k] G [] (fun v L'=>L' = [.acc v uT 1 (aY k s).length (ql (aY k s))] ∧ uN v (aY k s).length):=by
 refine jH [(0,_),(1,_)] Tryz.func82 Tryz.ntmps82 fun B hB hW=>?_
 repeat' (first | refine jR ?_ | (refine jo ?_;refine jF fun _=>?_))
 rename_i x
 refine Nx.blkAcc (m:=0) (sz:=1) .here F ?_
 refine aU (ι:=Value × List adE × Nat × Nat) (fun i=>(i.2.2.1 ≤ i.2.2.2 ∧ i.2.2.2 ≤ s.length ∧ i.2.1.length ≤ i.2.2.2) ∧ i.2.1 ++ d4 k ((s.take i.2.2.2).drop i.2.2.1) (s.drop i.2.2.2) = aY k s) (fun i=>[(0,S s),(1,U8 k),(5,i.1),(6,I i.2.2.1),(7,I i.2.2.2)]) (fun _=>G) (fun i=>[.acc i.1 uT 1 i.2.1.length (ql i.2.1)]) (fun i=>s.length - i.2.2.2) (.slice (some ⟨x,0,none⟩) 0 0,[],0,0) ?_ tU F aZ (fun i Hi=>?_)
 ·exact ⟨⟨Nat.le_refl _,Nat.zero_le _,Nat.zero_le _⟩,F⟩
 obtain ⟨u,xs,fr,i⟩:=i
 dsimp only at Hi ⊢
 by_cases hi : i < s.length
 ·obtain ⟨c,hc1,hc2⟩:=iF hi
  have hn : s.drop i ≠ []:=by rw [hc1];simp
  have ht : (s.take (i + 1)).drop fr = (s.take i).drop fr ++ [c]:=by
   have e : s[i] = c:=by have:=List.getElem_cons_drop (h:=hi);rw [hc1] at this;exact (List.cons.inj this).1
   rw [List.take_succ_eq_append_getElem hi,e,List.drop_append_of_le_length (by simp;omega)]
  have hcut:=Hi.2
  rw [hc1,d4] at hcut
  by_cases hk : c.toNat = k
  ·have hk2 : bt s i = k:=oM
   rw [if_pos hk] at hcut
   repeat' (first | refine jM ?_ | (refine jo ?_;first | refine jF fun _=>?_ | refine rO F F F F F F F F oM fun _=>?_) | (refine ab F ?_ ?_;(focus ((first | (refine decide_eq_true ?_;(omega)) | (simp [*];done));done))))
   refine a7 (_,xs ++ [(s.take i).drop fr],i + 1,i + 1) ⟨⟨by dsimp only;omega,by dsimp only;omega,by simp;omega⟩,?_⟩ (by dsimp only;omega) tU rfl (by dsimp only;simp only [qU,List.length_append,List.length_cons,List.length_nil,Nat.zero_add];repeat (first | exact List.nil_sublist _ | apply List.Sublist.cons_cons))
   have e0 : (s.take (i + 1)).drop (i + 1) = []:=by simp
   dsimp only;rw [e0,← hcut];simp
  ·have hk2 : ¬ bt s i = k:=oM
   rw [if_neg hk] at hcut
   repeat' (first | refine jM ?_ | refine ab F (aD oM) ?_ | (refine ad F ?_ ?_;(focus ((simp;omega);done))))
   refine a7 (u,xs,fr,i + 1) ⟨⟨by dsimp only;omega,by dsimp only;omega,by dsimp only;omega⟩,?_⟩ (by dsimp only;omega) tU rfl aZ
   dsimp only;rw [ht];exact hcut
 ·have e : aY k s = xs ++ [s.drop fr]:=by
   have ei : i = s.length:=oM
   rw [← Hi.2,ei,List.take_length,List.drop_length];rfl
  repeat' (first | refine jM ?_ | (refine jo ?_;first | refine jF fun _=>?_ | refine rO F F F F F F F F oM fun _=>?_) | refine ad F (aE oM) ?_)
  refine Nx.shp (.head _) fun hsh=>aR (vs:=[_]) F ⟨F,trivial⟩ F (List.Sublist.cons_cons _ (List.nil_sublist _)) ⟨F,?_,?_⟩
  ·rw [e,qU,List.length_append];rfl
  ·rw [e,List.length_append];exact hsh
def df (n : Int) : adE → Option Int
 | []=>some n
 | c :: r=>if 48 ≤ c.toNat ∧ c.toNat ≤ 57 then df (10 * n + ((c.toNat : Int) - 48)) r else none
def aM (s : adE) (top : Int) : Option Int :=
 if s.length ≤ 6 then
  match df 0 s with
  | some n=>if s = a8 n ∧ n ≤ top then some n else none
  | none=>none
 else none
theorem xu (i : Nat) (hi : i ≤ 5) : (10 : Int) ^ (i + 1) = 10 * 10 ^ i ∧ (10 : Int) ^ i ≤ 100000 ∧ (0 : Int) < 10 ^ i:=by
 refine ⟨by rw [Int.pow_succ,Int.mul_comm],?_⟩
 rcases (show i = 0 ∨ i = 1 ∨ i = 2 ∨ i = 3 ∨ i = 4 ∨ i = 5 by omega) with rfl | rfl | rfl | rfl | rfl | rfl <;> decide
theorem gt {s : adE} {top : Int} (h : s.length ≤ 100000000) : aG adD 86 [S s,I top] G (fun v=>∃ n,v = Tu [I n,Bo (aM s top).isSome] ∧ (∀ m,aM s top = some m → n = m)):=by
 refine jE [(0,_),(1,_)] Tryz.func86 Tryz.ntmps86 fun B hB=>?_
 repeat' (refine jR ?_)
 refine aU (ι:=Nat × Int) (fun i=>(i.1 ≤ s.length ∧ i.1 ≤ 6) ∧ (0 ≤ i.2 ∧ i.2 + 1 ≤ 10 ^ i.1) ∧ df i.2 (s.drop i.1) = df 0 s) (fun i=>[(0,S s),(1,I top),(6,I i.2),(7,I i.1)]) (fun _=>G) (fun i=>[]) (fun i=>s.length - i.1) (0,0) ?_ tU F aZ (fun i Hi=>?_)
 ·exact ⟨⟨by dsimp only;omega,by dsimp only;omega⟩,⟨by dsimp only;omega,by dsimp only;decide⟩,rfl⟩
 obtain ⟨i,n⟩:=i
 dsimp only at Hi ⊢
 by_cases hi : i < s.length
 ·obtain ⟨c,hc1,hc2⟩:=iF hi
  have hc3 : bt s ((i : Int).toNat) = c.toNat:=hc2
  have hd:=Hi.2.2
  rw [hc1,df] at hd
  by_cases h5 : i ≤ 5
  ·have hp:=xu i h5
   by_cases hdig : 48 ≤ c.toNat ∧ c.toNat ≤ 57
   ·rw [if_pos hdig] at hd
    repeat' (first | refine jM ?_ | (refine jo ?_;refine aw F ?_) | refine am F F (aE oM) ?_ | refine ab F (aD oM) ?_ | refine ad F (aE oM) ?_)
    refine a7 (i + 1,10 * n + ((c.toNat : Int) - 48)) ⟨⟨by dsimp only;omega,by dsimp only;omega⟩,⟨by dsimp only;omega,by dsimp only;rw [hp.1];omega⟩,hd⟩ (by dsimp only;omega) ?_ rfl aZ
    rw [← hc2];repeat (first | exact trivial | refine ⟨F,?_⟩)
   ·rw [if_neg hdig] at hd
    have hno : aM s top = none:=by unfold aM;rw [← hd];split <;> rfl
    repeat' (first | refine jM ?_ | (refine jo ?_;first | refine aK F ?_ | refine aw F ?_) | (refine aA F F (by first | rfl | (refine decide_eq_true ?_;(omega))) ?_) | refine eD F F (fun _=>?_) (fun _=>?_) | (refine ab F (by first | rfl | (refine decide_eq_true ?_;(omega))) ?_))
    all_goals refine jY (vs:=[_,_]) ?_
    all_goals exact ⟨_,by rw [hno];rfl,fun m hm=>by rw [hno] at hm;cases hm⟩
  ·have hno : aM s top = none:=by unfold aM;rw [if_neg oM]
   have e6 : i = 6:=oM
   subst e6
   repeat' (first | refine jM ?_ | (refine jo ?_;first | refine aK F ?_ | refine aw F ?_) | refine aA F F F ?_ | refine eD F F (fun _=>?_) (fun _=>?_) | (refine ab F (by first | rfl | (refine decide_eq_true ?_;(omega))) ?_))
   all_goals refine jY (vs:=[_,_]) ?_
   all_goals exact ⟨_,by rw [hno];rfl,fun m hm=>by rw [hno] at hm;cases hm⟩
 ·have ei : i = s.length:=oM
  have hd:=Hi.2.2
  rw [ei,List.drop_length,df] at hd
  have hp : n ≤ 9223372036854775807:=by
   rcases Nat.lt_or_ge i 6 with h1 | h1
   ·have:=xu i oM;omega
   ·have e6 : i = 6:=oM
    subst e6
    have:=Hi.2.1.2
    have e : (10 : Int) ^ 6 = 1000000:=by decide
    omega
  have hno : aM s top = if s = a8 n ∧ n ≤ top then some n else none:=by unfold aM;rw [if_pos oM,← hd]
  repeat' (first | refine jR ?_ | (refine jo ?_;first | refine aK F ?_ | refine aw F ?_ | refine ac F F F (dp oM) F ?_) | refine eD F F (fun _=>?_) (fun _=>?_) | refine ad F (aE oM) ?_)
  ·rename_i hs
   refine jY (vs:=[_,_]) ?_
   refine ⟨n,?_,fun m hm=>?_⟩
   ·rw [hno,eC]
    by_cases ht : n ≤ top
    ·rw [if_pos ⟨hs,ht⟩,decide_eq_true ht];rfl
    ·rw [if_neg (fun h=>ht h.2),decide_eq_false ht];rfl
   ·rw [hno] at hm
    split at hm
    ·exact Option.some.inj hm
    ·cases hm
  ·rename_i hs
   refine jY (vs:=[_,_]) ?_
   refine ⟨n,by rw [hno,if_neg (fun h=>hs h.1)];rfl,fun m hm=>?_⟩
   rw [hno,if_neg (fun h=>hs h.1)] at hm;cases hm
def bN (k s : adE) : Bool :=
 if k = [110] then (aM s 999999).isSome && decide (s ≠ [48])
 else if k = [116] then dc s && decide (s ≠ [39,39])
 else if k = [102] then decide (s = [121,101,115])
 else false
theorem wN {k s : adE} (h : s.length ≤ 100000000) : aG adD 209 [S k,S s] G (· = Bo (bN k s)):=by
 by_cases h1 : k = [110]
 ·have e : bN k s = ((aM s 999999).isSome && decide (s ≠ [48])):=by rw [bN,if_pos h1]
  rw [e]
  refine jE [(0,_),(1,_)] Tryz.func209 Tryz.ntmps209 fun B hB=>?_
  repeat' (first | refine jR ?_ | (refine jo ?_;first | refine aK F ?_ | refine aw F ?_ | (refine dn F F F (gt oM) F ?_;rintro _ ⟨n,rfl,hnum⟩)) | refine oQ F F (fun _=>?_) (fun _=>?_) | refine ab F (aD ‹_›) ?_)
  all_goals refine jY (vs:=[_]) ?_
  all_goals (rw [aH];simp [*])
 by_cases h2 : k = [116]
 ·have e : bN k s = (dc s && decide (s ≠ [39,39])):=by rw [bN,if_neg h1,if_pos h2]
  rw [e]
  refine jE [(0,_),(1,_)] Tryz.func209 Tryz.ntmps209 fun B hB=>?_
  repeat' (first | refine jR ?_ | (refine jo ?_;first | refine aK F ?_ | refine aw F ?_ | refine ac F F F (fF ‹_›) F ?_) | refine eD F F (fun _=>?_) (fun _=>?_) | refine ab F (aD ‹_›) ?_ | refine ad F (aE ‹_›) ?_)
  all_goals refine jY (vs:=[_]) ?_
  all_goals (rw [aH];simp [*,dc])
 by_cases h3 : k = [102]
 ·have e : bN k s = decide (s = [121,101,115]):=by rw [bN,if_neg h1,if_neg h2,if_pos h3]
  rw [e]
  refine jE [(0,_),(1,_)] Tryz.func209 Tryz.ntmps209 fun B hB=>?_
  repeat' (first | refine jR ?_ | refine ab F (aD ‹_›) ?_ | refine ad F (aE ‹_›) ?_)
  all_goals refine jY (vs:=[_]) ?_
  all_goals rfl
 ·have e : bN k s = false:=by rw [bN,if_neg h1,if_neg h2,if_neg h3]
  rw [e]
  refine jE [(0,_),(1,_)] Tryz.func209 Tryz.ntmps209 fun B hB=>?_
  repeat' (first | refine jR ?_ | refine ad F (aE ‹_›) ?_)
  all_goals refine jY (vs:=[_]) ?_
  all_goals rfl
structure Fld where
 tag : Int
 name : adE
 kind : adE
 stand : adE
deriving Inhabited
def gP (f : Fld) : List Value:=[I f.tag,S f.name,S f.kind,S f.stand]
instance : RowF gP 4:=⟨fun _=>rfl⟩
def bX (s : adE) (k : Nat) : Option Fld :=
 match aY 58 s with
 | [a,b]=>if k = 69 then
   match aM a 200 with
   | some n=>if 1 ≤ n ∧ cB b = true then some ⟨n,b,[],[]⟩ else none
   | none=>none
  else none
 | [a,b,c]=>if k = 69 then none else
   match aM a 200 with
   | some n=>if 1 ≤ n ∧ cB b = true then
     match aY 61 c with
     | [d]=>if bC d = true then some ⟨n,b,d,[]⟩ else none
     | [d,e]=>if k = 82 ∧ bN d e = true then some ⟨n,b,d,e⟩ else none
     | _=>none
    else none
   | none=>none
 | _=>none
theorem oW {k : Nat} : ∀ {s acc : adE} {x : adE},x ∈ d4 k acc s → x.length ≤ acc.length + s.length
 | [],acc,x,h=>by simp [d4] at h;subst h;simp
 | c :: r,acc,x,h=>by
  unfold d4 at h
  split at h
  ·rcases List.mem_cons.1 h with rfl | h
   ·simp
   ·have:=oW h;simp at this ⊢;omega
  ·have:=oW h;simp at this ⊢;omega
theorem c6 {k : Nat} {s x : adE} (h : x ∈ aY k s) : x.length ≤ s.length:=by have:=oW h;simpa using this
theorem oZ {k : Nat} : ∀ {s acc : adE},0 < (d4 k acc s).length
 | [],acc=>by simp [d4]
 | c :: r,acc=>by
  unfold d4
  split
  ·simp
  ·exact oZ
theorem dZ {k : Nat} {s : adE} : 0 < (aY k s).length:=oZ
theorem ja {k : Nat} : ∀ {s acc : adE},(d4 k acc s).length ≤ s.length + 1
 | [],acc=>by simp [d4]
 | c :: r,acc=>by
  unfold d4
  split
  ·have:=ja (k:=k) (s:=r) (acc:=[]);simp;omega
  ·have:=ja (k:=k) (s:=r) (acc:=acc ++ [c]);simp;omega
theorem g8 {k : Nat} {s : adE} : (aY k s).length ≤ s.length + 1:=ja
def aJ (k : Nat) : adE → adE × adE × Bool
 | []=>([],[],false)
 | c :: r=>if c.toNat = k then ([],r,true) else (c :: (aJ k r).1,(aJ k r).2.1,(aJ k r).2.2)
theorem dQ (c : UInt8) (r : adE) (i : Nat) : bt (c :: r) (i + 1) = bt r i:=by simp [bt,List.getD]
theorem a6 (c : UInt8) (r : adE) : bt (c :: r) 0 = c.toNat:=by simp [bt,List.getD]
theorem qH {k : Nat} : ∀ {s : adE},(∀ j,j < s.length → bt s j ≠ k) → aJ k s = (s,[],false)
 | [],_=>rfl
 | c :: r,h=>by
  have h0:=h 0 (by simp)
  rw [a6] at h0
  have ih:=qH (k:=k) (s:=r) fun j hj=>by have:=h (j + 1) (by simpa using hj);rwa [dQ] at this
  rw [aJ,if_neg h0,ih]
theorem nN {k : Nat} : ∀ {s : adE} {i : Nat},i < s.length → (∀ j,j < i → bt s j ≠ k) → bt s i = k → aJ k s = (s.take i,s.drop (i + 1),true)
 | [],i,h,_,_=>by simp at h
 | c :: r,0,_,_,h=>by rw [a6] at h;rw [aJ,if_pos h];rfl
 | c :: r,i + 1,hl,h,hi=>by
  have h0:=h 0 oM
  rw [a6] at h0
  rw [dQ] at hi
  have ih:=nN (k:=k) (s:=r) (i:=i) (by simpa using hl) (fun j hj=>by have:=h (j + 1) oM;rwa [dQ] at this) hi
  rw [aJ,if_neg h0,ih];rfl
structure Ty where
 sort : Nat
 name : adE
 fields : List Fld
deriving Inhabited
def fresh (f : Fld) (fs : List Fld) : Bool:=fs.all fun g=>decide (g.tag < f.tag ∧ g.name ≠ f.name)
def da (k : Nat) : List adE → List Fld → Option (List Fld)
 | [],fs=>some fs
 | x :: xs,fs=>match bX x k with
  | none=>none
  | some f=>if fresh f fs = true then da k xs (fs ++ [f]) else none
def ep (k : Nat) : Prop:=k = 82 ∨ k = 85 ∨ k = 69
instance (k : Nat) : Decidable (ep k):=inferInstanceAs (Decidable (_ ∨ _ ∨ _))
def dh : adE → Option Ty
 | []=>none
 | c :: r=>match aJ 61 r with
  | (name,rest,true)=>if cB name = true ∧ ep c.toNat then
    if rest = [] then (if c.toNat = 82 then some ⟨82,name,[]⟩ else none)
    else match da c.toNat (aY 44 rest) [] with
     | some fs=>if fs.length ≤ 8 then some ⟨c.toNat,name,fs⟩ else none
     | none=>none
   else none
  | _=>none
def bH : adE → Option adE
 | []=>none
 | c :: r=>if c.toNat = 64 then some (r.take (r.length - 1)) else none
def gD (ts : List Ty) (name : adE) : Option Ty:=ts.find? fun t=>decide (t.name = name)
def aX (ts : List Ty) (k : adE) : Option Ty:=(bH k).bind (gD ts)
def fV (t : Ty) : adE:=(t.fields.headD default).kind
def bR (ts : List Ty) : Nat → Ty → Bool
 | 0,_=>false
 | n + 1,t=>if t.sort ≠ 85 then true else match aX ts (fV t) with
  | none=>true
  | some u=>bR ts n u
def eL (ts : List Ty) (k : adE) : Bool:=match bH (bo k) with
 | none=>true
 | some n=>(gD ts n).isSome
def lx (ts : List Ty) (i : Nat) : Prop:=∀ k,k < i → (ae ts k).name ≠ (ae ts i).name
def iK (ts : List Ty) (t : Ty) : Prop:=t.sort = 69 ∨ ∀ j,j < t.fields.length → eL ts (ae t.fields j).kind = true
def i7 (ts : List Ty) : Prop:=(∀ i,i < ts.length → lx ts i ∧ iK ts (ae ts i)) ∧ ∀ i,i < ts.length → bR ts (ts.length + 1) (ae ts i) = true
instance (ts : List Ty) (i : Nat) : Decidable (lx ts i):=inferInstanceAs (Decidable (∀ k,k < i → _))
instance (ts : List Ty) (t : Ty) : Decidable (iK ts t):=inferInstanceAs (Decidable (_ ∨ ∀ j,j < t.fields.length → _))
instance (ts : List Ty) : Decidable (i7 ts):=inferInstanceAs (Decidable ((∀ i,i < ts.length → _) ∧ ∀ i,i < ts.length → _))
def cb : List adE → Option (List Ty)
 | []=>some []
 | x :: xs=>match dh x with
  | none=>none
  | some t=>(cb xs).map (t :: ·)
def aP (s : adE) : Option (List Ty) :=
 if s.length ≤ 400 ∧ (aY 10 s).length ≤ 9 ∧ (aY 10 s).getLastD [] = [] then
  match cb (aY 10 s).dropLast with
  | some ts=>if i7 ts then some ts else none
  | none=>none
 else none
structure FldW (k : Nat) (f : Fld) : Prop where
 tag : 1 ≤ f.tag ∧ f.tag ≤ 200
 name : cB f.name = true
 kind : k ≠ 69 → bC f.kind = true
 enm : k = 69 → f.kind = [] ∧ f.stand = []
 stand : f.stand ≠ [] → k = 82 ∧ bN f.kind f.stand = true
theorem dE {s : adE} {top n : Int} (h : aM s top = some n) : n ≤ top ∧ s = a8 n ∧ s.length ≤ 6:=by
 unfold aM at h
 split at h
 ·split at h
  ·split at h
   ·rename_i h1 _ _ _ h2;simp only [Option.some.injEq] at h;subst h;exact ⟨h2.2,h2.1,h1⟩
   ·cases h
  ·cases h
 ·cases h
theorem mM {k s : adE} (h : bN k s = true) : bC k = true:=by
 unfold bN at h
 split at h
 ·subst_vars;decide
 ·split at h
  ·subst_vars;decide
  ·split at h
   ·subst_vars;decide
   ·cases h
theorem zx {s : adE} {k : Nat} {f : Fld} (h : bX s k = some f) : FldW k f:=by
 unfold bX at h
 split at h
 ·split at h
  ·rename_i hk
   split at h
   ·rename_i n hn
    split at h
    ·rename_i hg
     simp only [Option.some.injEq] at h;subst h
     exact ⟨⟨hg.1,(dE hn).1⟩,hg.2,fun h=>absurd hk h,fun _=>⟨F,F⟩,fun h=>absurd F h⟩
    ·cases h
   ·cases h
  ·cases h
 ·split at h
  ·cases h
  ·rename_i hk
   split at h
   ·rename_i n hn
    split at h
    ·rename_i hg
     split at h
     ·split at h
      ·rename_i hd
       simp only [Option.some.injEq] at h;subst h
       exact ⟨⟨hg.1,(dE hn).1⟩,hg.2,fun _=>hd,fun h=>absurd h hk,fun h=>absurd F h⟩
      ·cases h
     ·split at h
      ·rename_i hd
       simp only [Option.some.injEq] at h;subst h
       exact ⟨⟨hg.1,(dE hn).1⟩,hg.2,fun _=>mM hd.2,fun h=>absurd h hk,fun _=>hd⟩
      ·cases h
     ·cases h
    ·cases h
   ·cases h
 ·cases h
structure TyW (t : Ty) : Prop where
 sort : ep t.sort
 name : cB t.name = true
 ne : t.sort ≠ 82 → t.fields ≠ []
 len : t.fields.length ≤ 8
 fld : ∀ f ∈ t.fields,FldW t.sort f
 asc : t.fields.Pairwise fun g f=>g.tag < f.tag ∧ g.name ≠ f.name
theorem pR {k : Nat} : ∀ {xs : List adE} {fs gs : List Fld},da k xs fs = some gs → (∀ f ∈ fs,FldW k f) → fs.Pairwise (fun g f=>g.tag < f.tag ∧ g.name ≠ f.name) →
  (∀ f ∈ gs,FldW k f) ∧ gs.Pairwise (fun g f=>g.tag < f.tag ∧ g.name ≠ f.name) ∧ gs.length = fs.length + xs.length
 | [],fs,gs,h,h1,h2=>by
  simp only [da,Option.some.injEq] at h;subst h;exact ⟨h1,h2,by simp⟩
 | x :: xs,fs,gs,h,h1,h2=>by
  unfold da at h
  split at h
  ·cases h
  ·rename_i f hf
   split at h
   ·rename_i hfr
    simp only [fresh,List.all_eq_true,decide_eq_true_eq] at hfr
    have:=pR h (fun g hg=>by
     rcases List.mem_append.1 hg with hg | hg
     ·exact h1 g hg
     ·simp only [List.mem_singleton] at hg;subst hg;exact zx hf) (List.pairwise_append.2 ⟨h2,by simp,fun a ha b hb=>by
      simp only [List.mem_singleton] at hb;subst hb;exact hfr a ha⟩)
    refine ⟨this.1,this.2.1,?_⟩
    rw [this.2.2];simp;omega
   ·cases h
theorem aan {s : adE} {t : Ty} (h : dh s = some t) : TyW t:=by
 unfold dh at h
 split at h
 ·cases h
 ·split at h
  ·split at h
   ·rename_i hn
    split at h
    ·split at h
     ·simp only [Option.some.injEq] at h;subst h
      exact ⟨.inl F,hn.1,fun h=>absurd F h,by simp,by simp,by simp⟩
     ·cases h
    ·split at h
     ·rename_i fs hfs
      split at h
      ·rename_i hl
       simp only [Option.some.injEq] at h;subst h
       have hw:=pR hfs (by simp) (by simp)
       refine ⟨hn.2,hn.1,fun _ h0=>?_,hl,hw.1,hw.2.1⟩
       have:=hw.2.2
       dsimp only at h0
       rw [h0] at this
       have:=dZ (k:=44) (s:=‹adE›)
       simp at *;omega
      ·cases h
     ·cases h
   ·cases h
  ·cases h
theorem iT : ∀ {xs : List adE} {ts : List Ty},cb xs = some ts → (∀ t ∈ ts,TyW t) ∧ ts.length = xs.length
 | [],ts,h=>by simp only [cb,Option.some.injEq] at h;subst h;simp
 | x :: xs,ts,h=>by
  unfold cb at h
  split at h
  ·cases h
  ·rename_i t ht
   cases hr : cb xs with
   | none=>rw [hr] at h;cases h
   | some us =>
    rw [hr] at h
    simp only [Option.map_some,Option.some.injEq] at h;subst h
    have:=iT hr
    exact ⟨fun u hu=>by rcases List.mem_cons.1 hu with rfl | hu;exact aan ht;exact this.1 u hu,by simp [this.2]⟩
structure SchW (ts : List Ty) : Prop where
 ty : ∀ t ∈ ts,TyW t
 len : ts.length ≤ 8
 valid : i7 ts
theorem b6 {s : adE} {ts : List Ty} (h : aP s = some ts) : SchW ts:=by
 unfold aP at h
 split at h
 ·rename_i hc
  split at h
  ·rename_i us hus
   split at h
   ·rename_i hv
    simp only [Option.some.injEq] at h;subst h
    have:=iT hus
    exact ⟨this.1,by rw [this.2,List.length_dropLast];omega,hv⟩
   ·cases h
  ·cases h
 ·cases h
def aB (ts : List Ty) (k : adE) : Bool:=bC k && eL ts k
theorem wt {ts : List Ty} {n : adE} {t : Ty} (h : gD ts n = some t) : t ∈ ts:=List.mem_of_find?_eq_some h
theorem bi {ts : List Ty} {k : adE} {t : Ty} (h : aX ts k = some t) : t ∈ ts:=by
 unfold aX at h
 cases hr : bH k with
 | none=>rw [hr] at h;cases h
 | some n=>rw [hr] at h;exact wt h
theorem l5 (ts : List Ty) : ∀ (k : Nat) (t : Ty),bR ts k t = true → bR ts (k + 1) t = true
 | 0,t,h=>by cases h
 | k + 1,t,h=>by
  unfold bR at h ⊢
  split
  ·rfl
  ·rename_i hs
   rw [if_neg hs] at h
   cases hr : aX ts (fV t) with
   | none=>rfl
   | some u=>rw [hr] at h;exact l5 ts k u h
def fa (ts : List Ty) (k : Nat) : Prop:=∀ t ∈ ts,bR ts (k + 1) t = bR ts k t
theorem nU {ts : List Ty} {k : Nat} (h : fa ts k) : fa ts (k + 1):=by
 intro t ht
 rw [bR,bR]
 split
 ·rfl
 ·cases hr : aX ts (fV t) with
  | none=>rfl
  | some u=>exact h u (bi hr)
theorem pj {ts : List Ty} {k : Nat} (h : fa ts k) : ∀ (m : Nat) (t : Ty),t ∈ ts → bR ts (k + m) t = bR ts k t:=by
 have hs : ∀ m,fa ts (k + m):=fun m=>by
  induction m with
  | zero=>exact h
  | succ m ih=>exact nU ih
 intro m t ht
 induction m with
 | zero=>rfl
 | succ m ih=>rw [← ih];exact hs m t ht
theorem sU {α : Type} {p q : α → Bool} : ∀ {l : List α},(∀ x ∈ l,p x = true → q x = true) → (∃ x ∈ l,q x = true ∧ p x = false) → l.countP p < l.countP q
 | [],_,h=>by obtain ⟨x,hx,_⟩:=h;cases hx
 | a :: l,h1,h2=>by
  have hle : ∀ l : List α,(∀ x ∈ l,p x = true → q x = true) → l.countP p ≤ l.countP q:=fun l h=>List.countP_mono_left h
  rw [List.countP_cons,List.countP_cons]
  have h3:=hle l fun x hx=>h1 x (List.mem_cons_of_mem _ hx)
  obtain ⟨x,hx,h4,h5⟩:=h2
  rcases List.mem_cons.1 hx with rfl | hx
  ·simp [h4,h5];omega
  ·have h6:=sU (fun x hx=>h1 x (List.mem_cons_of_mem _ hx)) ⟨x,hx,h4,h5⟩
   by_cases hp : p a = true
   ·simp [hp,h1 a (List.mem_cons_self ..) hp];exact h6
   ·simp [hp];split <;> omega
theorem nO {ts : List Ty} {k : Nat} (h : ¬ fa ts k) : ts.countP (bR ts k) < ts.countP (bR ts (k + 1)):=by
 refine sU (fun x _=>l5 ts k x) ?_
 unfold fa at h
 simp only [Classical.not_forall] at h
 obtain ⟨t,ht,hne⟩:=h
 refine ⟨t,ht,?_⟩
 cases h1 : bR ts k t with
 | false =>
  refine ⟨?_,F⟩
  cases h2 : bR ts (k + 1) t with
  | false=>rw [h1,h2] at hne;exact absurd F hne
  | true=>rfl
 | true=>rw [l5 ts k t h1,h1] at hne;exact absurd F hne
theorem vW (ts : List Ty) (k : Nat) : fa ts k ∨ k + 1 ≤ ts.countP (bR ts (k + 1)):=by
 induction k with
 | zero =>
  by_cases h : fa ts 0
  ·exact .inl h
  ·have:=nO h;exact .inr oM
 | succ k ih =>
  by_cases h : fa ts (k + 1)
  ·exact .inl h
  ·have:=nO h
   rcases ih with h3 | h3
   ·exact absurd (nU h3) h
   ·exact .inr oM
theorem zz {ts : List Ty} {t : Ty} (hl : ts.length ≤ 8) (ht : t ∈ ts) : bR ts 9 t = bR ts (ts.length + 1) t:=by
 have hs : fa ts ts.length:=by
  rcases vW ts ts.length with h | h
  ·exact h
  ·have:=List.countP_le_length (p:=bR ts (ts.length + 1)) (l:=ts)
   omega
 have h1:=pj hs (9 - ts.length) t ht
 have h2:=pj hs 1 t ht
 rw [show ts.length + (9 - ts.length) = 9 by omega] at h1
 rw [h1,h2]
def fQ (k : Nat) (s : adE) : Int:=if (aJ k s).2.2 = true then ((aJ k s).1.length : Int) else -1
theorem g9 {k : Nat} : ∀ {s a b : adE},aJ k s = (a,b,true) → ∃ c : UInt8,c.toNat = k ∧ s = a ++ c :: b
 | [],a,b,h=>by simp [aJ] at h
 | c :: r,a,b,h=>by
  unfold aJ at h
  split at h
  ·rename_i hc
   simp only [Prod.mk.injEq,and_true] at h
   obtain ⟨rfl,rfl⟩:=h
   exact ⟨c,hc,F⟩
  ·simp only [Prod.mk.injEq] at h
   obtain ⟨rfl,h2,h3⟩:=h
   obtain ⟨d,hd,hr⟩:=g9 (k:=k) (s:=r) (a:=(aJ k r).1) (b:=b) (by rw [← h2,← h3])
   exact ⟨d,hd,by rw [List.cons_append,← hr]⟩
theorem fu {k : Nat} : ∀ {s : adE},(aJ k s).2.2 = false → aJ k s = (s,[],false)
 | [],h=>rfl
 | c :: r,h=>by
  unfold aJ at h ⊢
  split at h
  ·cases h
  ·rename_i hc
   rw [if_neg hc,fu (s:=r) h]
theorem kh {k : Nat} {s : adE} : (aJ k s).1.length ≤ s.length ∧ (aJ k s).2.1.length ≤ s.length:=by
 cases h : (aJ k s).2.2 with
 | false=>rw [fu h];simp
 | true =>
  obtain ⟨c,_,e⟩:=g9 (k:=k) (s:=s) (a:=(aJ k s).1) (b:=(aJ k s).2.1) (by rw [← h])
  have:=congrArg List.length e
  simp at this
  omega
theorem qu (s : adE) (c : UInt8) : Lib.indexByte s c = fQ c.toNat s:=by
 induction s with
 | nil=>rfl
 | cons b r ih =>
  unfold Lib.indexByte
  by_cases hb : b = c
  ·subst hb;simp [fQ,aJ]
  ·have hb2 : ¬ b.toNat = c.toNat:=fun h=>hb (UInt8.toNat_inj.1 h)
   have hb3 : (b == c) = false:=by simpa using hb
   rw [hb3,ih]
   unfold fQ
   rw [aJ,if_neg hb2]
   dsimp only
   cases (aJ c.toNat r).2.2 <;> simp
theorem tv {s : adE} {c : UInt8} : aG adD 210 [S s,U8 c.toNat] G (· = I (fQ c.toNat s)):=by
 have hx : ∀ w,(callFunc 218 [S s,U8 c.toNat].toArray).run adD w = .ok (.value (I (fQ c.toNat s))) w:=fun w=>by
  rw [run_callFunc_extern Tryz.func218 kR kR kR (e:=Extern.BytealgIndexByte.indexByte) kR]
  have:=Lib.run_indexByteString (P:=adD) ⟨s.toArray⟩ (c.toNat : Int) w
  rw [this]
  simp only [Result.andThen]
  rw [qu]
  simp
 refine jE [(0,_),(1,_)] Tryz.func210 Tryz.ntmps210 fun B hB=>?_
 repeat' (refine jR ?_)
 refine vj F (kS (oS F F F hx) F F ?_)
 repeat' (refine jR ?_)
 refine jY (vs:=[_]) ?_
 rfl
theorem wg (c : UInt8) : fQ c.toNat [c] = 0:=by simp [fQ,aJ]
theorem tu {s : adE} {c : UInt8} : aG adD 196 [S s,S [c]] G (· = I (fQ c.toNat s)):=by
 have e0 : ((bt [c] (Int.toNat 0) : Nat) : Int) = c.toNat:=by rw [show Int.toNat 0 = 0 from rfl,a6]
 by_cases hs : [c] = s
 ·subst hs
  rw [wg]
  refine jE [(0,_),(1,_)] Tryz.func196 Tryz.ntmps196 fun B hB=>?_
  repeat' (first | refine jR ?_ | (refine jo ?_;refine aw F ?_) | refine am F F F ?_ | refine ab F (aD F) ?_)
  all_goals refine jY (vs:=[_]) ?_
  all_goals rfl
 ·have cx_ib : aG adD 210 [S s,U8 (bt [c] (Int.toNat 0))] G (· = I (fQ c.toNat s)):=by rw [show (bt [c] (Int.toNat 0)) = c.toNat from a6 c []];exact tv
  refine jE [(0,_),(1,_)] Tryz.func196 Tryz.ntmps196 fun B hB=>?_
  repeat' (first | refine jX ?_ | (refine jo ?_;first | refine aw F ?_ | refine ac F F F cx_ib F ?_) | refine am F F F ?_ | refine ab F F ?_ | refine ad F (aE ‹_›) ?_)
  all_goals refine jY (vs:=[_]) ?_
  all_goals rfl
theorem uJ {s : adE} {c : UInt8} : aG adD 183 [S s,S [c]] G (· = I (fQ c.toNat s)):=by
 refine jE [(0,_),(1,_)] Tryz.func183 Tryz.ntmps183 fun B hB=>?_
 repeat' (first | refine jR ?_ | (refine jo ?_;refine ac F F F tu F ?_))
 refine jY (vs:=[_]) ?_
 rfl
theorem pN (k : Nat) (s : adE) : (fQ k s = -1 ∧ aJ k s = (s,[],false)) ∨ ∃ i : Nat,fQ k s = i ∧ i < s.length ∧ aJ k s = (s.take i,s.drop (i + 1),true):=by
 cases h : (aJ k s).2.2 with
 | false=>exact .inl ⟨by simp [fQ,h],fu h⟩
 | true =>
  obtain ⟨c,_,e⟩:=g9 (k:=k) (s:=s) (a:=(aJ k s).1) (b:=(aJ k s).2.1) (by rw [← h])
  have h5 : aJ k s = ((aJ k s).1,(aJ k s).2.1,true):=by rw [← h]
  have h6 : fQ k s = ((aJ k s).1.length : Int):=by simp [fQ,h]
  generalize (aJ k s).1 = a at *
  generalize (aJ k s).2.1 = b at *
  refine .inr ⟨a.length,h6,?_,?_⟩
  ·have:=congrArg List.length e
   simp at this
   omega
  ·rw [h5,e];simp
theorem abV {s : adE} {c : UInt8} (h : s.length ≤ 9000000000000000000) : aG adD 163 [S s,S [c]] G (· = Tu [S (aJ c.toNat s).1,S (aJ c.toNat s).2.1,Bo (aJ c.toNat s).2.2]):=by
 have hix:=tu (G:=G) (s:=s) (c:=c)
 rcases pN c.toNat s with ⟨h1,h2⟩ | ⟨i,h1,h3,h2⟩
 ·rw [h2]
  have cx_ix : aG adD 196 [S s,S [c]] G (· = I (-1)):=by rwa [h1] at hix
  refine jE [(0,_),(1,_)] Tryz.func163 Tryz.ntmps163 fun B hB=>?_
  repeat' (first | refine jR ?_ | (refine jo ?_;refine ac F F F cx_ix F ?_) | refine ad F F ?_)
  all_goals refine jY (vs:=[_,_,_]) ?_
  all_goals rfl
 ·rw [h2]
  have cx_ix : aG adD 196 [S s,S [c]] G (· = I (i : Int)):=by rwa [h1] at hix
  have e2 : ((i : Int) + (([c] : adE).length : Nat)).toNat = i + 1:=by simp only [List.length_cons,List.length_nil];omega
  refine jE [(0,_),(1,_)] Tryz.func163 Tryz.ntmps163 fun B hB=>?_
  repeat' (first | refine jR ?_ | (refine jo ?_;refine ac F F F cx_ix F ?_) | refine ab F F ?_ | (refine ak (ar (id:=3) _ (fun _ h=>h) aj ?_);refine jW 0 [0,1,2,3,4,5,6,7,8,9,10,11] (aa 12 4095) ?_;refine jQ ?_))
  all_goals refine jY (vs:=[_,_,_]) ?_
  all_goals (rfl)
theorem qc {s : adE} {c : UInt8} (h : s.length ≤ 9000000000000000000) : aG adD 126 [S s,S [c]] G (· = Tu [S (aJ c.toNat s).1,S (aJ c.toNat s).2.1,Bo (aJ c.toNat s).2.2]):=by
 refine jE [(0,_),(1,_)] Tryz.func126 Tryz.ntmps126 fun B hB=>?_
 repeat' (first | refine jR ?_ | (refine jo ?_;refine ac F F F (abV oM) F ?_))
 all_goals refine jY (vs:=[_,_,_]) ?_
 all_goals rfl
theorem vH {s : adE} {c : UInt8} : aG adD 164 [S s,S [c]] G (· = Bo (decide (0 ≤ fQ c.toNat s))):=by
 refine jE [(0,_),(1,_)] Tryz.func164 Tryz.ntmps164 fun B hB=>?_
 repeat' (first | refine jR ?_ | (refine jo ?_;refine ac F F F uJ F ?_))
 all_goals refine jY (vs:=[_]) ?_
 all_goals rfl
def fJ (k : Nat) (s : adE) : Prop:=∀ c ∈ s,c.toNat ≠ k
def aO (c : UInt8) : List adE → adE
 | []=>[]
 | [x]=>x
 | x :: y :: r=>x ++ c :: aO c (y :: r)
theorem lW (c : UInt8) (x : adE) {xs : List adE} (h : xs ≠ []) : aO c (x :: xs) = x ++ c :: aO c xs:=by
 cases xs with
 | nil=>exact absurd F h
 | cons y r=>rfl
theorem kL {c : UInt8} : ∀ {s acc : adE},fJ c.toNat acc → aO c (d4 c.toNat acc s) = acc ++ s ∧ ∀ x ∈ d4 c.toNat acc s,fJ c.toNat x
 | [],acc,h=>by simp [d4,aO];exact h
 | d :: r,acc,h=>by
  unfold d4
  split
  ·rename_i hd
   have hd : d = c:=UInt8.toNat_inj.1 hd
   subst hd
   have ih:=kL (c:=d) (s:=r) (acc:=[]) (by intro x hx;cases hx)
   have hp : d4 d.toNat [] r ≠ []:=fun e=>by have:=oZ (k:=d.toNat) (s:=r) (acc:=[]);rw [e] at this;simp at this
   refine ⟨by rw [lW d acc hp,ih.1];rfl,fun x hx=>?_⟩
   rcases List.mem_cons.1 hx with rfl | hx
   ·exact h
   ·exact ih.2 x hx
  ·rename_i hd
   have ih:=kL (c:=c) (s:=r) (acc:=acc ++ [d]) (by
    intro x hx
    rcases List.mem_append.1 hx with hx | hx
    ·exact h x hx
    ·simp only [List.mem_singleton] at hx;subst hx;exact hd)
   exact ⟨by rw [ih.1];simp,ih.2⟩
theorem l8 (c : UInt8) (s : adE) : aO c (aY c.toNat s) = s:=by have:=(kL (c:=c) (s:=s) (acc:=[]) (by intro x hx;cases hx)).1;simpa [aY] using this
theorem zD {c : UInt8} {s x : adE} (h : x ∈ aY c.toNat s) : fJ c.toNat x:=(kL (c:=c) (s:=s) (acc:=[]) (by intro x hx;cases hx)).2 x h
theorem oY {k : Nat} : ∀ {s acc t : adE},fJ k s → d4 k acc (s ++ t) = d4 k (acc ++ s) t
 | [],acc,t,_=>by simp
 | d :: r,acc,t,h=>by
  rw [List.cons_append,d4,if_neg (h d (by simp)),oY (fun c hc=>h c (by simp [hc]))];simp
theorem pT {k : Nat} {s : adE} (h : fJ k s) : aY k s = [s]:=by
 have:=oY (k:=k) (s:=s) (acc:=[]) (t:=[]) h
 simpa [aY,d4] using this
theorem qG {k : Nat} {s t : adE} {c : UInt8} (h : fJ k s) (hc : c.toNat = k) : aY k (s ++ c :: t) = s :: aY k t:=by
 unfold aY
 rw [oY h,d4,if_pos hc];rfl
theorem lU {c : UInt8} : ∀ {xs : List adE},xs ≠ [] → (∀ x ∈ xs,fJ c.toNat x) → aY c.toNat (aO c xs) = xs
 | [],h,_=>absurd rfl h
 | [x],_,h=>pT (h x (by simp))
 | x :: y :: r,_,h=>by
  rw [aO,qG (h x (by simp)) rfl,lU (by simp) fun z hz=>h z (by simp at hz ⊢;exact .inr hz)]
theorem xR {k : Nat} {s t : adE} {c : UInt8} (h : fJ k s) (hc : c.toNat = k) : aJ k (s ++ c :: t) = (s,t,true):=by
 induction s with
 | nil=>rw [List.nil_append,aJ,if_pos hc]
 | cons d r ih=>rw [List.cons_append,aJ,if_neg (h d (by simp)),ih fun x hx=>h x (by simp [hx])]
theorem sT {k : Nat} {s : adE} (h : fJ k s) : aJ k s = (s,[],false):=by
 induction s with
 | nil=>rfl
 | cons d r ih=>rw [aJ,if_neg (h d (by simp)),ih fun x hx=>h x (by simp [hx])]
theorem o3 {k : Nat} : ∀ {s : adE},fJ k (aJ k s).1
 | []=>by intro c hc;cases hc
 | d :: r=>by
  unfold aJ
  split
  ·intro c hc;cases hc
  ·rename_i hd
   intro c hc
   rcases List.mem_cons.1 hc with rfl | hc
   ·exact hd
   ·exact o3 c hc
theorem kg {k : Nat} (s : adE) : aY k s = if (aJ k s).2.2 = true then (aJ k s).1 :: aY k (aJ k s).2.1 else [s]:=by
 cases h : (aJ k s).2.2 with
 | false =>
  rw [if_neg (by simp)]
  have h1:=fu h
  refine pT ?_
  have:=o3 (k:=k) (s:=s)
  rwa [h1] at this
 | true =>
  rw [if_pos rfl]
  obtain ⟨c,hc,e⟩:=g9 (k:=k) (s:=s) (a:=(aJ k s).1) (b:=(aJ k s).2.1) (by rw [← h])
  conv=>{ lhs;rw [e] }
  exact qG o3 hc
theorem lX {s : adE} {k : Nat} (h : cB s = true) (hk : k < 97) : fJ k s:=by
 intro c hc
 simp only [cB,Bool.and_eq_true,List.all_eq_true] at h
 have:=h.1 c hc
 simp only [kF,decide_eq_true_eq] at this
 omega
theorem sQ {n m : Int} : ∀ {s : adE},df n s = some m → ∀ c ∈ s,48 ≤ c.toNat ∧ c.toNat ≤ 57
 | [],_,c,hc=>by cases hc
 | d :: r,h,c,hc=>by
  unfold df at h
  split at h
  ·rename_i hd
   rcases List.mem_cons.1 hc with rfl | hc
   ·exact hd
   ·exact sQ h c hc
  ·cases h
theorem q7 {s : adE} {top n : Int} (h : aM s top = some n) : ∀ c ∈ s,48 ≤ c.toNat ∧ c.toNat ≤ 57:=by
 unfold aM at h
 split at h
 ·split at h
  ·rename_i hd;exact sQ hd
  ·cases h
 ·cases h
theorem m5 {s : adE} {top n : Int} {k : Nat} (h : aM s top = some n) (hk : 57 < k) : fJ k s:=fun c hc=>by
 have:=q7 h c hc;omega
theorem we {s : adE} (h : dc s = true) {c : UInt8} (hc : c ∈ s) : c.toNat = 39 ∨ jf c.toNat:=by
 unfold dc at h
 simp only [decide_eq_true_eq] at h
 obtain ⟨h1,h2,h3,h4⟩:=h
 obtain ⟨i,hi,rfl⟩:=List.mem_iff_getElem.1 hc
 have e : bt s i = (s[i]).toNat:=by simp [bt,List.getD,List.getElem?_eq_getElem hi]
 rw [← e]
 rcases Nat.lt_or_ge i (s.length - 1) with h5 | h5
 ·rcases h4 i h5 with h6 | h6
  ·subst h6;exact .inl h2
  ·exact .inr h6
 ·have : i = s.length - 1:=oM
  subst this;exact .inl h3
theorem nT {d v : adE} {k : Nat} (h : bN d v = true) (hk : k = 58 ∨ k = 61) : fJ k v:=by
 intro c hc
 unfold bN at h
 split at h
 ·simp only [Bool.and_eq_true] at h
  obtain ⟨n,hn⟩:=Option.isSome_iff_exists.1 h.1
  have:=q7 hn c hc;omega
 ·split at h
  ·simp only [Bool.and_eq_true] at h
   have:=we h.1 hc
   unfold jf at this;omega
  ·split at h
   ·simp only [decide_eq_true_eq] at h
    subst h
    simp only [List.mem_cons,List.not_mem_nil,or_false] at hc
    rcases hc with rfl | rfl | rfl <;> (rcases hk with rfl | rfl <;> decide)
   ·cases h
theorem ma : ∀ s : adE,(bo s).length ≤ s.length
 | []=>Nat.le_refl _
 | c :: r=>by
  unfold bo
  split
  ·have:=ma r;simp;omega
  ·exact Nat.le_refl _
def sg (s : adE) : adE:=s.take (s.length - (bo s).length)
def oo : adE → adE
 | []=>[]
 | c :: r=>if c.toNat = 64 then [64] else c :: r
def bs (s : adE) : adE:=oo (bo s)
def nm (s : adE) : adE:=(bH (bo s)).getD []
theorem ug {k : Nat} (hk : k = 58 ∨ k = 61) : ∀ {s : adE},d9 s = true → fJ k s
 | [],h=>by cases h
 | c :: r,h=>by
  unfold d9 at h
  split at h
  ·rename_i hc
   intro d hd
   rcases List.mem_cons.1 hd with rfl | hd
   ·omega
   ·exact ug hk h d hd
  ·split at h
   ·rename_i hc
    simp only [Bool.and_eq_true,decide_eq_true_eq] at h
    intro d hd
    rcases List.mem_cons.1 hd with rfl | hd
    ·omega
    ·obtain ⟨i,hi,rfl⟩:=List.mem_iff_getElem.1 hd
     rcases Nat.lt_or_ge i (r.length - 1) with h5 | h5
     ·refine lX h.2 oM _ ?_
      exact List.mem_iff_getElem.2 ⟨i,by simp;omega,by simp⟩
     ·have h1 : bt (c :: r) r.length = 59:=oM
      have e : i = r.length - 1:=oM
      obtain ⟨m,hm⟩ : ∃ m,r.length = m + 1:=⟨r.length - 1,oM⟩
      rw [hm,dQ] at h1
      have : bt r m = (r[m]'oM).toNat:=by simp [bt,List.getD,List.getElem?_eq_getElem (show m < r.length by omega)]
      have e2 : i = m:=oM
      subst e2
      omega
   ·simp only [Bool.and_eq_true,Bool.or_eq_true,decide_eq_true_eq] at h
    intro d hd
    obtain ⟨rfl,h⟩:=h
    simp only [List.mem_singleton] at hd
    subst hd;omega
theorem ii {k : Nat} (hk : k = 58 ∨ k = 61) {s : adE} (h : bC s = true) : fJ k s:=by
 unfold bC at h;simp only [Bool.and_eq_true] at h;exact ug hk h.2
def nj (s : adE) (k : Nat) : Option Fld :=
 match aY 58 (aJ 61 s).1 with
 | [a,b]=>if k = 69 ∧ (aJ 61 s).2.2 = false then
   match aM a 200 with
   | some n=>if 1 ≤ n ∧ cB b = true then some ⟨n,b,[],[]⟩ else none
   | none=>none
  else none
 | [a,b,c]=>if k = 69 then none else
   match aM a 200 with
   | some n=>if (1 ≤ n ∧ cB b = true) ∧ bC c = true ∧ ((aJ 61 s).2.2 = true → k = 82 ∧ bN c (aJ 61 s).2.1 = true) then some ⟨n,b,c,(aJ 61 s).2.1⟩ else none
   | none=>none
 | _=>none
theorem gm {k : Nat} {a b : adE} : fJ k (a ++ b) ↔ fJ k a ∧ fJ k b:=by
 constructor
 ·intro h;exact ⟨fun c hc=>h c (by simp [hc]),fun c hc=>h c (by simp [hc])⟩
 ·intro h c hc
  rcases List.mem_append.1 hc with hc | hc
  ·exact h.1 c hc
  ·exact h.2 c hc
theorem iB {k : Nat} {c : UInt8} {b : adE} : fJ k (c :: b) ↔ c.toNat ≠ k ∧ fJ k b:=by
 constructor
 ·intro h;exact ⟨h c (by simp),fun d hd=>h d (by simp [hd])⟩
 ·intro h d hd
  rcases List.mem_cons.1 hd with rfl | hd
  ·exact h.1
  ·exact h.2 d hd
theorem vy {s : adE} {xs : List adE} (h : aY 58 s = xs) : s = aO 58 xs ∧ ∀ x ∈ xs,fJ 58 x:=by
 subst h
 exact ⟨(l8 58 s).symm,fun x hx=>zD (c:=58) hx⟩
theorem qA (s : adE) (k : Nat) : nj s k = bX s k:=by
 apply Option.ext
 intro f
 constructor
 ·intro h
  unfold nj at h
  split at h
  ·rename_i a b e
   split at h
   ·rename_i hk
    have hs:=fu hk.2
    rw [hs] at e
    unfold bX
    rw [e]
    simp only [hk.1,if_true]
    exact h
   ·cases h
  ·rename_i a b c e
   split at h
   ·cases h
   ·rename_i hk
    split at h
    ·rename_i n hn
     split at h
     ·rename_i hg
      simp only [Option.some.injEq] at h;subst h
      cases ht : (aJ 61 s).2.2 with
      | false =>
       have hs:=fu ht
       rw [hs] at e ⊢
       have hc61 : aY 61 c = [c]:=pT (ii (.inr rfl) hg.2.1)
       unfold bX
       rw [e]
       simp [hk,hn,hg.1.1,hg.1.2,hc61,hg.2.1]
      | true =>
       have hst:=hg.2.2 ht
       obtain ⟨d,hd,es⟩:=g9 (k:=61) (s:=s) (a:=(aJ 61 s).1) (b:=(aJ 61 s).2.1) (by rw [← ht])
       generalize (aJ 61 s).1 = hd1 at *
       generalize (aJ 61 s).2.1 = v at *
       have hd : d = 61:=UInt8.toNat_inj.1 hd
       subst hd
       obtain ⟨e1,e2⟩:=vy e
       have e3 : s = aO 58 [a,b,c ++ 61 :: v]:=by rw [es,e1];simp [aO]
       have e4 : aY 58 s = [a,b,c ++ 61 :: v]:=by
        rw [e3]
        refine lU (c:=58) (by simp) fun x hx=>?_
        simp only [List.mem_cons,List.not_mem_nil,or_false] at hx
        rcases hx with rfl | rfl | rfl
        ·exact e2 _ (by simp)
        ·exact e2 _ (by simp)
        ·exact gm.2 ⟨e2 _ (by simp),iB.2 ⟨by decide,nT hst.2 (.inl F)⟩⟩
       have e5 : aY 61 (c ++ 61 :: v) = [c,v]:=by
        rw [qG (k:=61) (ii (.inr rfl) hg.2.1) rfl,pT (nT hst.2 (.inr rfl))]
       unfold bX
       rw [e4]
       simp [hk,hn,hg.1.1,hg.1.2,e5,hst.1,hst.2]
     ·cases h
    ·cases h
  ·cases h
 ·intro h
  unfold bX at h
  split at h
  ·rename_i a b e
   split at h
   ·rename_i hk
    split at h
    ·rename_i n hn
     split at h
     ·rename_i hg
      obtain ⟨e1,e2⟩:=vy e
      have hno : fJ 61 s:=by rw [e1];simp only [aO];exact gm.2 ⟨m5 hn oM,iB.2 ⟨by decide,lX hg.2 oM⟩⟩
      unfold nj
      rw [sT hno,e]
      simp only [hk,hn,hg,and_self,if_true]
      exact h
     ·cases h
    ·cases h
   ·cases h
  ·rename_i a b c e
   split at h
   ·cases h
   ·rename_i hk
    split at h
    ·rename_i n hn
     split at h
     ·rename_i hg
      obtain ⟨e1,e2⟩:=vy e
      split at h
      ·rename_i d e3
       split at h
       ·rename_i hd
        simp only [Option.some.injEq] at h;subst h
        have e4 : c = d:=by have:=l8 61 c;rw [show (61 : UInt8).toNat = 61 from rfl,e3] at this;exact this.symm
        subst e4
        have hno : fJ 61 s:=by rw [e1];simp only [aO];exact gm.2 ⟨m5 hn oM,iB.2 ⟨by decide,gm.2 ⟨lX hg.2 oM,iB.2 ⟨by decide,ii (.inr F) hd⟩⟩⟩⟩
        unfold nj
        rw [sT hno,e]
        simp [hk,hn,hg.1,hg.2,hd]
       ·cases h
      ·rename_i d v e3
       split at h
       ·rename_i hd
        simp only [Option.some.injEq] at h;subst h
        have e4 : c = d ++ 61 :: v:=by have:=l8 61 c;rw [show (61 : UInt8).toNat = 61 from rfl,e3] at this;exact this.symm
        subst e4
        have hkd:=mM hd.2
        have es : s = aO 58 [a,b,d] ++ 61 :: v:=by rw [e1];simp [aO]
        have hno : fJ 61 (aO 58 [a,b,d]):=by simp only [aO];exact gm.2 ⟨m5 hn oM,iB.2 ⟨by decide,gm.2 ⟨lX hg.2 oM,iB.2 ⟨by decide,ii (.inr F) hkd⟩⟩⟩⟩
        have e5 : aY 58 (aO 58 [a,b,d]) = [a,b,d]:=by
         refine lU (c:=58) (by simp) fun x hx=>?_
         simp only [List.mem_cons,List.not_mem_nil,or_false] at hx
         rcases hx with rfl | rfl | rfl
         ·exact e2 _ (by simp)
         ·exact e2 _ (by simp)
         ·exact ii (.inl F) hkd
        unfold nj
        rw [es,xR (k:=61) hno rfl,e5]
        simp [hn,hg.1,hg.2,hkd,hd.1,hd.2]
       ·cases h
      ·cases h
     ·cases h
    ·cases h
  ·cases h
def tag0 (t : Ty) : Int:=(t.fields.headD default).tag
def cA (ts : List Ty) : Nat → adE → adE
 | 0,_=>[]
 | _ + 1,[]=>[]
 | n + 1,c :: r=>if c.toNat = 91 then [91,93] else if c.toNat = 63 then [45] else
   match aX ts (c :: r) with
   | none=>gh (c :: r)
   | some t=>if t.sort = 82 then [123,125] else if t.sort = 69 then 35 :: a8 (tag0 t) else 60 :: (a8 (tag0 t) ++ 61 :: (cA ts n (fV t) ++ [62]))
def pi (ts : List Ty) (k : adE) : adE:=cA ts (ts.length + 2) k
def bK (ts : List Ty) (f : Fld) : adE:=if f.stand = [] then pi ts f.kind else f.stand
def bB (fs : List Fld) (tag : Int) : Option Fld:=fs.find? fun f=>decide (f.tag = tag)
structure AskW (ts us : List Ty) (m : List Pr) : Prop where
 nd : m.Nodup
 mem : ∀ p ∈ m,(∃ t ∈ ts,t.name = p.1) ∧ ∃ u ∈ us,u.name = p.2
theorem AskW.nil {ts us : List Ty} : AskW ts us []:=⟨List.nodup_nil,by simp⟩
theorem sq {α : Type} [DecidableEq α] : ∀ {l l' : List α},l.Nodup → (∀ x ∈ l,x ∈ l') → l.length ≤ l'.length
 | [],_,_,_=>Nat.zero_le _
 | a :: l,l',hn,hs=>by
  rw [List.nodup_cons] at hn
  have ha:=hs a (.head _)
  have:=sq (l:=l) (l':=l'.erase a) hn.2 fun x hx=>by
   have hx':=hs x (.tail _ hx)
   exact (List.mem_erase_of_ne (fun e=>hn.1 (by rw [← e];exact hx))).2 hx'
  rw [List.length_erase_of_mem ha] at this
  have hp : 0 < l'.length:=List.length_pos_of_mem ha
  simp only [List.length_cons];omega
theorem AskW.len {ts us : List Ty} {m : List Pr} (h : AskW ts us m) : m.length ≤ ts.length * us.length:=by
 have h1 : m.length ≤ (ts.flatMap fun t=>us.map fun u=>(t.name,u.name)).length:=sq h.nd fun p hp=>by
  obtain ⟨⟨t,ht,e1⟩,u,hu,e2⟩:=h.mem p hp
  exact List.mem_flatMap.2 ⟨t,ht,List.mem_map.2 ⟨u,hu,by rw [e1,e2]⟩⟩
 have h2 : ∀ ts : List Ty,(ts.flatMap fun t=>us.map fun u=>(t.name,u.name)).length = ts.length * us.length:=fun ts=>by
  induction ts with
  | nil=>simp
  | cons t ts ih=>rw [List.flatMap_cons,List.length_append,ih,List.length_map,List.length_cons,Nat.succ_mul,Nat.add_comm]
 rw [h2] at h1;exact h1
theorem m9 {ts : List Ty} {k : adE} (h : aB ts k = true) (hr : (bH (bo k)).isSome = true) : ∃ t,aX ts (bo k) = some t:=by
 unfold aB eL at h
 unfold aX
 cases hc : bH (bo k) with
 | none=>rw [hc] at hr;cases hr
 | some n =>
  rw [hc] at h
  simp only [Bool.and_eq_true] at h
  obtain ⟨_,h⟩:=h
  exact Option.isSome_iff_exists.1 h
inductive V where
 | nd (what : Nat) (text : adE) (tag : Int) (kids : List V)
instance : Inhabited V:=⟨.nd 0 [] 0 []⟩
def V.what : V → Nat | .nd w _ _ _=>w
def V.text : V → adE | .nd _ x _ _=>x
def V.tag : V → Int | .nd _ _ t _=>t
def V.kids : V → List V | .nd _ _ _ ks=>ks
def cO (w : Nat) (x : adE) (t : Int) (e : Bool) (j : adE) : adE :=
 if w = 116 then 39 :: (x ++ [39]) else if w = 91 then 91 :: (j ++ [93]) else if w = 63 then (if e = true then [45] else 43 :: j)
 else if w = 61 then a8 t ++ 61 :: j else if w = 82 then 123 :: (j ++ [125]) else if w = 85 then 60 :: (a8 t ++ 61 :: (j ++ [62])) else if w = 69 then 35 :: a8 t else x
mutual
def V.out : V → adE
 | .nd w x t ks=>cO w x t ks.isEmpty (aO 44 (V.outs ks))
def V.outs : List V → List adE
 | []=>[]
 | v :: r=>V.out v :: V.outs r
end
mutual
def V.deep : V → Nat
 | .nd w _ _ ks=>if w = 61 then V.deeps ks else V.deeps ks + 1
def V.deeps : List V → Nat
 | []=>0
 | v :: r=>max (V.deep v) (V.deeps r)
end
def cN (w : Nat) (e : Bool) : Bool:=(decide (w = 110) || decide (w = 116) || decide (w = 102) || decide (w = 69)) || (decide (w = 63) && e)
mutual
def V.size : V → Nat
 | .nd w _ _ ks=>if cN w ks.isEmpty = true then 1 else V.sizes ks
def V.sizes : List V → Nat
 | []=>0
 | v :: r=>V.size v + V.sizes r
end
theorem V.outs_map : ∀ ks : List V,V.outs ks = ks.map V.out
 | []=>rfl
 | v :: r=>by rw [V.outs,V.outs_map r];rfl
def bc (c : UInt8) : Bool:=decide (48 ≤ c.toNat ∧ c.toNat ≤ 57)
def cq (top : Int) (s : adE) : Option (Int × adE):=(aM (s.takeWhile bc) top).map fun n=>(n,s.dropWhile bc)
def bj (f : adE → Option (V × adE)) : Nat → adE → List V → Option (List V × adE)
 | 0,_,_=>none
 | m + 1,s,acc=>match f s with
  | none=>none
  | some (v,r)=>match r with
   | []=>none
   | c :: r'=>if c.toNat = 44 then bj f m r' (acc ++ [v]) else if c.toNat = 93 then some (acc ++ [v],r') else none
def aW (f : adE → adE → Option (V × adE)) (t : Ty) (s : adE) : Option ((Fld × V) × adE) :=
 match cq 200 s with
 | none=>none
 | some (n,r)=>match bB t.fields n with
  | none=>none
  | some d=>match r with
   | []=>none
   | c :: r'=>if c.toNat = 61 then (f d.kind r').map fun x=>((d,x.1),x.2) else none
def bP (ts : List Ty) (f : adE → adE → Option (V × adE)) (t : Ty) : Nat → Int → adE → List V → Option (List V × adE)
 | 0,_,_,_=>none
 | m + 1,last,s,acc=>match aW f t s with
  | none=>none
  | some ((d,v),r)=>if d.tag ≤ last ∨ v.out = bK ts d then none else match r with
   | []=>none
   | c :: r'=>if c.toNat = 44 then bP ts f t m d.tag r' (acc ++ [.nd 61 [] d.tag [v]]) else if c.toNat = 125 then some (acc ++ [.nd 61 [] d.tag [v]],r') else none
def be (ts : List Ty) (f : adE → adE → Option (V × adE)) (t : Ty) : adE → Option (V × adE)
 | []=>none
 | c :: s=>if t.sort = 82 then
   (if c.toNat = 123 then (match s with
    | []=>none
    | c' :: r=>if c'.toNat = 125 then some (.nd 82 [] 0 [],r) else (bP ts f t (s.length + 1) 0 s []).map fun x=>(.nd 82 [] 0 x.1,x.2)) else none)
  else if t.sort = 69 then
   (if c.toNat = 35 then (match cq 200 s with
    | none=>none
    | some (n,r)=>if (bB t.fields n).isSome = true then some (.nd 69 [] n [],r) else none) else none)
  else if c.toNat = 60 then (match aW f t s with
    | none=>none
    | some ((d,v),r)=>match r with
     | []=>none
     | c' :: r'=>if c'.toNat = 62 then some (.nd 85 [] d.tag [v],r') else none)
   else none
def dw : adE → Option (V × adE)
 | []=>none
 | c :: s=>if c.toNat = 39 then (match aJ 39 s with
   | (x,r,true)=>if dc (39 :: (x ++ [39])) = true then some (.nd 116 x 0 [],r) else none
   | _=>none) else none
def er (s : adE) : Option (V × adE) :=
 if [121,101,115].isPrefixOf s = true then some (.nd 102 [121,101,115] 0 [],s.drop 3) else if [110,111].isPrefixOf s = true then some (.nd 102 [110,111] 0 [],s.drop 2) else none
def fe (ts : List Ty) (f : adE → adE → Option (V × adE)) : adE → adE → Option (V × adE)
 | [],_=>none
 | c :: k,s =>
  if c.toNat = 91 then (match s with
   | []=>none
   | d :: s'=>if d.toNat = 91 then (match s' with
     | []=>none
     | e :: r=>if e.toNat = 93 then some (.nd 91 [] 0 [],r) else (bj (f k) 20 s' []).map fun x=>(.nd 91 [] 0 x.1,x.2)) else none)
  else if c.toNat = 63 then (match s with
   | []=>none
   | d :: s'=>if d.toNat = 45 then some (.nd 63 [] 0 [],s') else if d.toNat = 43 then (f k s').map fun x=>(.nd 63 [] 0 [x.1],x.2) else none)
  else match aX ts (c :: k) with
   | some t=>be ts f t s
   | none=>if c.toNat = 110 then (cq 999999 s).map fun x=>(.nd 110 (a8 x.1) 0 [],x.2) else if c.toNat = 116 then dw s else if c.toNat = 102 then er s else none
def rd (ts : List Ty) : Nat → adE → adE → Option (V × adE)
 | 0,_,_=>none
 | n + 1,k,s=>fe ts (rd ts n) k s
def bV (ts : List Ty) (k s : adE) : Option V:=if s.length ≤ 400 then (match rd ts 12 k s with
 | some (v,[])=>some v
 | _=>none) else none
theorem mW {f g : adE → Option (V × adE)} (h : ∀ s x,f s = some x → g s = some x) : ∀ (m : Nat) (s : adE) (acc : List V) {x : List V × adE},bj f m s acc = some x → bj g m s acc = some x
 | 0,_,_,_,e=>by cases e
 | m + 1,s,acc,x,e=>by
  unfold bj at e ⊢
  cases hf : f s with
  | none=>rw [hf] at e;cases e
  | some y =>
   rw [hf] at e
   rw [h s y hf]
   obtain ⟨v,r⟩:=y
   cases r with
   | nil=>exact e
   | cons c r =>
    dsimp only at e ⊢
    split at e
    ·rename_i hc;rw [if_pos hc];exact mW h m r _ e
    ·rename_i hc;rw [if_neg hc];exact e
theorem mX {f g : adE → adE → Option (V × adE)} (h : ∀ k s x,f k s = some x → g k s = some x) (t : Ty) (s : adE) {x : (Fld × V) × adE} (e : aW f t s = some x) : aW g t s = some x:=by
 unfold aW at e ⊢
 cases hn : cq 200 s with
 | none=>rw [hn] at e;cases e
 | some y =>
  rw [hn] at e
  obtain ⟨n,r⟩:=y
  dsimp only at e ⊢
  cases hd : bB t.fields n with
  | none=>rw [hd] at e;cases e
  | some d =>
   rw [hd] at e
   cases r with
   | nil=>cases e
   | cons c r' =>
    dsimp only at e ⊢
    by_cases hc : c.toNat = 61
    ·rw [if_pos hc] at e ⊢
     cases hf : f d.kind r' with
     | none=>rw [hf] at e;cases e
     | some y=>rw [hf] at e;rw [h _ _ y hf];exact e
    ·rw [if_neg hc] at e;cases e
theorem n0 {ts : List Ty} {f g : adE → adE → Option (V × adE)} (h : ∀ k s x,f k s = some x → g k s = some x) (t : Ty) : ∀ (m : Nat) (last : Int) (s : adE) (acc : List V) {x : List V × adE},bP ts f t m last s acc = some x → bP ts g t m last s acc = some x
 | 0,_,_,_,_,e=>by cases e
 | m + 1,last,s,acc,x,e=>by
  unfold bP at e ⊢
  cases hf : aW f t s with
  | none=>rw [hf] at e;cases e
  | some y =>
   rw [hf] at e
   rw [mX h t s hf]
   obtain ⟨⟨d,v⟩,r⟩:=y
   dsimp only at e ⊢
   split at e
   ·cases e
   ·rename_i hd
    rw [if_neg hd]
    cases r with
    | nil=>exact e
    | cons c r =>
     dsimp only at e ⊢
     split at e
     ·rename_i hc;rw [if_pos hc];exact n0 h t m _ r _ e
     ·rename_i hc;rw [if_neg hc];exact e
theorem r4 {ts : List Ty} {f g : adE → adE → Option (V × adE)} (h : ∀ k s x,f k s = some x → g k s = some x) (t : Ty) : ∀ (s : adE) {x : V × adE},be ts f t s = some x → be ts g t s = some x
 | [],_,e=>by cases e
 | c :: s,x,e=>by
  unfold be at e ⊢
  dsimp only at e ⊢
  by_cases h82 : t.sort = 82
  ·rw [if_pos h82] at e ⊢
   by_cases hc : c.toNat = 123
   ·rw [if_pos hc] at e ⊢
    cases s with
    | nil=>exact e
    | cons c' r =>
     dsimp only at e ⊢
     by_cases hc' : c'.toNat = 125
     ·rw [if_pos hc'] at e ⊢;exact e
     ·rw [if_neg hc'] at e ⊢
      cases hf : bP ts f t ((c' :: r).length + 1) 0 (c' :: r) [] with
      | none=>rw [hf] at e;cases e
      | some y=>rw [hf] at e;rw [n0 h t _ _ _ _ hf];exact e
   ·rw [if_neg hc] at e;cases e
  ·rw [if_neg h82] at e ⊢
   by_cases h69 : t.sort = 69
   ·rw [if_pos h69] at e ⊢;exact e
   ·rw [if_neg h69] at e ⊢
    by_cases hc : c.toNat = 60
    ·rw [if_pos hc] at e ⊢
     cases hf : aW f t s with
     | none=>rw [hf] at e;cases e
     | some y=>rw [hf] at e;rw [mX h t s hf];exact e
    ·rw [if_neg hc] at e;cases e
theorem xl {ts : List Ty} {f g : adE → adE → Option (V × adE)} (ih : ∀ k s x,f k s = some x → g k s = some x) : ∀ (k s : adE) {x : V × adE},fe ts f k s = some x → fe ts g k s = some x
 | [],_,_,e=>by cases e
 | c :: k,s,x,e=>by
  unfold fe at e ⊢
  dsimp only at e ⊢
  by_cases h91 : c.toNat = 91
  ·rw [if_pos h91] at e ⊢
   cases s with
   | nil=>exact e
   | cons d s' =>
    dsimp only at e ⊢
    by_cases hd : d.toNat = 91
    ·rw [if_pos hd] at e ⊢
     cases s' with
     | nil=>exact e
     | cons e' r =>
      dsimp only at e ⊢
      by_cases he : e'.toNat = 93
      ·rw [if_pos he] at e ⊢;exact e
      ·rw [if_neg he] at e ⊢
       cases hf : bj (f k) 20 (e' :: r) [] with
       | none=>rw [hf] at e;cases e
       | some y=>rw [hf] at e;rw [mW (ih k) _ _ _ hf];exact e
    ·rw [if_neg hd] at e;cases e
  ·rw [if_neg h91] at e ⊢
   by_cases h63 : c.toNat = 63
   ·rw [if_pos h63] at e ⊢
    cases s with
    | nil=>exact e
    | cons d s' =>
     dsimp only at e ⊢
     by_cases hd : d.toNat = 45
     ·rw [if_pos hd] at e ⊢;exact e
     ·rw [if_neg hd] at e ⊢
      by_cases hd2 : d.toNat = 43
      ·rw [if_pos hd2] at e ⊢
       cases hf : f k s' with
       | none=>rw [hf] at e;cases e
       | some y=>rw [hf] at e;rw [ih k s' y hf];exact e
      ·rw [if_neg hd2] at e;cases e
   ·rw [if_neg h63] at e ⊢
    cases hr : aX ts (c :: k) with
    | none=>rw [hr] at e;exact e
    | some t=>rw [hr] at e;exact r4 ih t s e
theorem t6 {ts : List Ty} : ∀ (n : Nat) (k s : adE) {x : V × adE},rd ts n k s = some x → rd ts (n + 1) k s = some x
 | 0,_,_,_,e=>by cases e
 | n + 1,k,s,_,e=>xl (fun k s _ e=>t6 n k s e) k s e
theorem yo {ts : List Ty} {n m : Nat} (h : n ≤ m) {k s : adE} {x : V × adE} (e : rd ts n k s = some x) : rd ts m k s = some x:=by
  induction m with
  | zero => have : n = 0 := oM
            subst this;exact e
  | succ m ih =>
    by_cases hn : n = m + 1
    · subst hn;exact e
    · exact t6 m k s (ih oM)
theorem V.deep_mem : ∀ {ks : List V} {v : V},v ∈ ks → V.deep v ≤ V.deeps ks
 | [],_,h=>by cases h
 | u :: ks,v,h=>by
  rw [V.deeps]
  rcases List.mem_cons.1 h with rfl | h
  ·exact Nat.le_max_left _ _
  ·exact Nat.le_trans (V.deep_mem h) (Nat.le_max_right _ _)
theorem V.deeps_le : ∀ {ks : List V} {n : Nat},(∀ v ∈ ks,V.deep v ≤ n) → V.deeps ks ≤ n
 | [],_,_=>by rw [V.deeps];exact Nat.zero_le _
 | u :: ks,n,h=>by
  rw [V.deeps]
  exact Nat.max_le.2 ⟨h u (.head _),V.deeps_le fun v hv=>h v (.tail _ hv)⟩
theorem cy {w : Nat} {x : adE} {t : Int} {ks : List V} (h : ¬ w = 61) : V.deep (.nd w x t ks) = V.deeps ks + 1:=by rw [V.deep,if_neg h]
theorem l6 {t : Int} {v : V} : V.deep (.nd 61 [] t [v]) = V.deep v:=by rw [V.deep,if_pos rfl,V.deeps,V.deeps,Nat.max_zero]
theorem iO {f : adE → Option (V × adE)} {p : V → Prop} (h : ∀ s x,f s = some x → p x.1) : ∀ (m : Nat) (s : adE) (acc : List V) {x : List V × adE},bj f m s acc = some x → (∀ v ∈ acc,p v) → ∀ v ∈ x.1,p v
 | 0,_,_,_,e,_=>by cases e
 | m + 1,s,acc,x,e,ha=>by
  unfold bj at e
  cases hf : f s with
  | none=>rw [hf] at e;cases e
  | some y =>
   rw [hf] at e
   have hy:=h s y hf
   obtain ⟨v,r⟩:=y
   have ha' : ∀ u ∈ acc ++ [v],p u:=fun u hu=>by
    rcases List.mem_append.1 hu with hu | hu
    ·exact ha u hu
    ·simp only [List.mem_singleton] at hu;subst hu;exact hy
   cases r with
   | nil=>cases e
   | cons c r =>
    dsimp only at e
    split at e
    ·exact iO h m r _ e ha'
    ·split at e
     ·simp only [Option.some.injEq] at e;subst e;exact ha'
     ·cases e
theorem nZ {f g : adE → Option (V × adE)} : ∀ (m : Nat) (s : adE) (acc : List V) {x : List V × adE},bj f m s acc = some x → (∀ s y,f s = some y → y.1 ∈ x.1 → g s = some y) → bj g m s acc = some x ∧ ∀ v ∈ acc,v ∈ x.1
 | 0,_,_,_,e,_=>by cases e
 | m + 1,s,acc,x,e,h=>by
  unfold bj at e ⊢
  cases hf : f s with
  | none=>rw [hf] at e;cases e
  | some y =>
   rw [hf] at e
   have hy:=h s y hf
   obtain ⟨v,r⟩:=y
   cases r with
   | nil=>cases e
   | cons c r =>
    dsimp only at e hy
    split at e
    ·rename_i hc
     obtain ⟨h1,h2⟩:=nZ m r _ e h
     rw [hy (h2 v (by simp))]
     dsimp only
     rw [if_pos hc]
     exact ⟨h1,fun u hu=>h2 u (List.mem_append_left _ hu)⟩
    ·rename_i hc
     split at e
     ·rename_i hc2
      simp only [Option.some.injEq] at e;subst e
      rw [hy (by simp)]
      dsimp only
      rw [if_neg hc,if_pos hc2]
      exact ⟨F,fun u hu=>List.mem_append_left _ hu⟩
     ·cases e
theorem fM {f : adE → adE → Option (V × adE)} {t : Ty} {s : adE} {x : (Fld × V) × adE} (e : aW f t s = some x) : x.1.1 ∈ t.fields ∧ ∃ s',f x.1.1.kind s' = some (x.1.2,x.2):=by
 unfold aW at e
 cases hn : cq 200 s with
 | none=>rw [hn] at e;cases e
 | some y =>
  rw [hn] at e
  obtain ⟨n,r⟩:=y
  dsimp only at e
  cases hd : bB t.fields n with
  | none=>rw [hd] at e;cases e
  | some d =>
   rw [hd] at e
   cases r with
   | nil=>cases e
   | cons c r' =>
    dsimp only at e
    by_cases hc : c.toNat = 61
    ·rw [if_pos hc] at e
     cases hf : f d.kind r' with
     | none=>rw [hf] at e;cases e
     | some y =>
      rw [hf] at e
      simp only [Option.map_some,Option.some.injEq] at e
      subst e
      exact ⟨List.mem_of_find?_eq_some hd,r',hf⟩
    ·rw [if_neg hc] at e;cases e
theorem kX {f g : adE → adE → Option (V × adE)} {t : Ty} {s : adE} {x : (Fld × V) × adE} (e : aW f t s = some x) (h : ∀ k s y,f k s = some y → y.1 = x.1.2 → g k s = some y) : aW g t s = some x:=by
 unfold aW at e ⊢
 cases hn : cq 200 s with
 | none=>rw [hn] at e;cases e
 | some y =>
  rw [hn] at e
  obtain ⟨n,r⟩:=y
  dsimp only at e ⊢
  cases hd : bB t.fields n with
  | none=>rw [hd] at e;cases e
  | some d =>
   rw [hd] at e
   cases r with
   | nil=>cases e
   | cons c r' =>
    dsimp only at e ⊢
    by_cases hc : c.toNat = 61
    ·rw [if_pos hc] at e ⊢
     cases hf : f d.kind r' with
     | none=>rw [hf] at e;cases e
     | some y =>
      rw [hf] at e
      simp only [Option.map_some,Option.some.injEq] at e
      subst e
      rw [h _ _ _ hf rfl];rfl
    ·rw [if_neg hc] at e;cases e
theorem pt {ts : List Ty} {f : adE → adE → Option (V × adE)} {t : Ty} {p : V → Prop} (h : ∀ k s x,f k s = some x → ∀ n,p (.nd 61 [] n [x.1])) : ∀ (m : Nat) (last : Int) (s : adE) (acc : List V) {x : List V × adE},bP ts f t m last s acc = some x → (∀ v ∈ acc,p v) → ∀ v ∈ x.1,p v
 | 0,_,_,_,_,e,_=>by cases e
 | m + 1,last,s,acc,x,e,ha=>by
  unfold bP at e
  cases hf : aW f t s with
  | none=>rw [hf] at e;cases e
  | some y =>
   rw [hf] at e
   obtain ⟨_,s',hs'⟩:=fM hf
   have hy:=h _ s' _ hs'
   obtain ⟨⟨d,v⟩,r⟩:=y
   dsimp only at e hy
   have ha' : ∀ u ∈ acc ++ [V.nd 61 [] d.tag [v]],p u:=fun u hu=>by
    rcases List.mem_append.1 hu with hu | hu
    ·exact ha u hu
    ·simp only [List.mem_singleton] at hu;subst hu;exact hy d.tag
   split at e
   ·cases e
   ·cases r with
    | nil=>cases e
    | cons c r =>
     dsimp only at e
     split at e
     ·exact pt h m _ r _ e ha'
     ·split at e
      ·simp only [Option.some.injEq] at e;subst e;exact ha'
      ·cases e
theorem pr {ts : List Ty} {f g : adE → adE → Option (V × adE)} {t : Ty} : ∀ (m : Nat) (last : Int) (s : adE) (acc : List V) {x : List V × adE},bP ts f t m last s acc = some x → (∀ k s y,f k s = some y → (∃ n,V.nd 61 [] n [y.1] ∈ x.1) → g k s = some y) → bP ts g t m last s acc = some x ∧ ∀ v ∈ acc,v ∈ x.1
 | 0,_,_,_,_,e,_=>by cases e
 | m + 1,last,s,acc,x,e,h=>by
  unfold bP at e ⊢
  cases hf : aW f t s with
  | none=>rw [hf] at e;cases e
  | some y =>
   rw [hf] at e
   obtain ⟨⟨d,v⟩,r⟩:=y
   dsimp only at e
   split at e
   ·cases e
   ·rename_i hd
    cases r with
    | nil=>cases e
    | cons c r =>
     dsimp only at e
     split at e
     ·rename_i hc
      obtain ⟨h1,h2⟩:=pr m _ r _ e h
      have hg:=kX (g:=g) hf (fun k s y hy e2=>h k s y hy ⟨d.tag,by rw [e2];exact h2 _ (by simp)⟩)
      rw [hg]
      dsimp only
      rw [if_neg hd,if_pos hc]
      exact ⟨h1,fun u hu=>h2 u (List.mem_append_left _ hu)⟩
     ·rename_i hc
      split at e
      ·rename_i hc2
       simp only [Option.some.injEq] at e;subst e
       have hg:=kX (g:=g) hf (fun k s y hy e2=>h k s y hy ⟨d.tag,by rw [e2];simp⟩)
       rw [hg]
       dsimp only
       rw [if_neg hd,if_neg hc,if_pos hc2]
       exact ⟨F,fun u hu=>List.mem_append_left _ hu⟩
      ·cases e
theorem t7 {ts : List Ty} {f g : adE → adE → Option (V × adE)} : ∀ (k s : adE) {x : V × adE},fe ts f k s = some x → ∃ w tx tg ks,x.1 = .nd w tx tg ks ∧ ¬ w = 61 ∧ ((∀ k s y,f k s = some y → V.deep y.1 ≤ V.deeps ks → g k s = some y) → fe ts g k s = some x) ∧ ∀ n,(∀ k s y,f k s = some y → V.deep y.1 ≤ n) → V.deeps ks ≤ n
 | [],_,_,e=>by cases e
 | c :: k,s,x,e=>by
  unfold fe at e ⊢
  dsimp only at e ⊢
  have leaf : ∀ {w : Nat} {tx : adE} {tg : Int} {q : Prop},x.1 = .nd w tx tg [] → ¬ w = 61 → q → ∃ w tx tg ks,x.1 = .nd w tx tg ks ∧ ¬ w = 61 ∧ ((∀ k s y,f k s = some y → V.deep y.1 ≤ V.deeps ks → g k s = some y) → q) ∧ ∀ n,(∀ k s y,f k s = some y → V.deep y.1 ≤ n) → V.deeps ks ≤ n :=
   fun h1 h2 h3=>⟨_,_,_,[],h1,h2,fun _=>h3,fun n _=>by rw [V.deeps];exact Nat.zero_le n⟩
  by_cases h91 : c.toNat = 91
  ·simp only [if_pos h91] at e ⊢
   cases s with
   | nil=>cases e
   | cons d s' =>
    dsimp only at e ⊢
    by_cases hd : d.toNat = 91
    ·simp only [if_pos hd] at e ⊢
     cases s' with
     | nil=>cases e
     | cons e' r =>
      dsimp only at e ⊢
      by_cases he : e'.toNat = 93
      ·simp only [if_pos he] at e ⊢
       have e2:=e
       simp only [Option.some.injEq] at e2;subst e2
       exact leaf F dC F
      ·simp only [if_neg he] at e ⊢
       cases hf : bj (f k) 20 (e' :: r) [] with
       | none=>rw [hf] at e;cases e
       | some y =>
        rw [hf] at e
        simp only [Option.map_some,Option.some.injEq] at e;subst e
        refine ⟨91,[],0,y.1,F,by decide,fun h=>?_,fun n h=>?_⟩
        ·rw [(nZ (g:=g k) _ _ _ hf fun s u hu hm=>h k s u hu (V.deep_mem hm)).1];rfl
        ·exact V.deeps_le fun v hv=>iO (p:=fun v=>V.deep v ≤ n) (fun s u hu=>h k s u hu) _ _ _ hf (by simp) v hv
    ·simp only [if_neg hd] at e;cases e
  ·simp only [if_neg h91] at e ⊢
   by_cases h63 : c.toNat = 63
   ·simp only [if_pos h63] at e ⊢
    cases s with
    | nil=>cases e
    | cons d s' =>
     dsimp only at e ⊢
     by_cases hd : d.toNat = 45
     ·simp only [if_pos hd] at e ⊢
      have e2:=e
      simp only [Option.some.injEq] at e2;subst e2
      exact leaf F dC F
     ·simp only [if_neg hd] at e ⊢
      by_cases hd2 : d.toNat = 43
      ·simp only [if_pos hd2] at e ⊢
       cases hf : f k s' with
       | none=>rw [hf] at e;cases e
       | some y =>
        rw [hf] at e
        simp only [Option.map_some,Option.some.injEq] at e;subst e
        refine ⟨63,[],0,[y.1],F,by decide,fun h=>?_,fun n h=>?_⟩
        ·rw [h k s' y hf (V.deep_mem (by simp))];rfl
        ·exact V.deeps_le fun v hv=>by simp only [List.mem_singleton] at hv;subst hv;exact h k s' y hf
      ·simp only [if_neg hd2] at e;cases e
   ·simp only [if_neg h63] at e ⊢
    cases hr : aX ts (c :: k) with
    | none =>
     rw [hr] at e
     dsimp only at e ⊢
     by_cases h1 : c.toNat = 110
     ·simp only [if_pos h1] at e ⊢
      cases hn : cq 999999 s with
      | none=>rw [hn] at e;cases e
      | some y =>
       rw [hn] at e
       have e2:=e
       simp only [Option.map_some,Option.some.injEq] at e2;subst e2
       exact leaf F dC F
     ·simp only [if_neg h1] at e ⊢
      by_cases h2 : c.toNat = 116
      ·simp only [if_pos h2] at e ⊢
       refine leaf (w:=116) (tx:=x.1.text) (tg:=0) ?_ dC e
       unfold dw at e
       split at e
       ·cases e
       ·split at e
        ·split at e
         ·split at e
          ·simp only [Option.some.injEq] at e;subst e;rfl
          ·cases e
         ·cases e
        ·cases e
      ·simp only [if_neg h2] at e ⊢
       by_cases h3 : c.toNat = 102
       ·simp only [if_pos h3] at e ⊢
        refine leaf (w:=102) (tx:=x.1.text) (tg:=0) ?_ dC e
        unfold er at e
        split at e
        ·simp only [Option.some.injEq] at e;subst e;rfl
        ·split at e
         ·simp only [Option.some.injEq] at e;subst e;rfl
         ·cases e
       ·simp only [if_neg h3] at e;cases e
    | some t =>
     rw [hr] at e
     dsimp only at e ⊢
     unfold be at e ⊢
     cases s with
     | nil=>cases e
     | cons d s =>
      dsimp only at e ⊢
      by_cases h82 : t.sort = 82
      ·simp only [if_pos h82] at e ⊢
       by_cases hd : d.toNat = 123
       ·simp only [if_pos hd] at e ⊢
        cases s with
        | nil=>cases e
        | cons d' r =>
         dsimp only at e ⊢
         by_cases hd' : d'.toNat = 125
         ·simp only [if_pos hd'] at e ⊢
          have e2:=e
          simp only [Option.some.injEq] at e2;subst e2
          exact leaf F dC F
         ·simp only [if_neg hd'] at e ⊢
          cases hf : bP ts f t ((d' :: r).length + 1) 0 (d' :: r) [] with
          | none=>rw [hf] at e;cases e
          | some y =>
           rw [hf] at e
           simp only [Option.map_some,Option.some.injEq] at e;subst e
           refine ⟨82,[],0,y.1,F,by decide,fun h=>?_,fun n h=>?_⟩
           ·rw [(pr (g:=g) _ _ _ _ hf fun k s u hu hm=>h k s u hu (by obtain ⟨n,hm⟩:=hm;have:=V.deep_mem hm;rwa [l6] at this)).1];rfl
           ·exact V.deeps_le fun v hv=>pt (p:=fun v=>V.deep v ≤ n) (fun k s u hu m=>by rw [l6];exact h k s u hu) _ _ _ _ hf (by simp) v hv
       ·simp only [if_neg hd] at e;cases e
      ·simp only [if_neg h82] at e ⊢
       by_cases h69 : t.sort = 69
       ·simp only [if_pos h69] at e ⊢
        refine leaf (w:=69) (tx:=[]) (tg:=x.1.tag) ?_ dC e
        split at e
        ·split at e
         ·cases e
         ·split at e
          ·simp only [Option.some.injEq] at e;subst e;rfl
          ·cases e
        ·cases e
       ·simp only [if_neg h69] at e ⊢
        by_cases hd : d.toNat = 60
        ·simp only [if_pos hd] at e ⊢
         cases hf : aW f t s with
         | none=>rw [hf] at e;cases e
         | some y =>
          rw [hf] at e
          obtain ⟨⟨fd,v⟩,r⟩:=y
          cases r with
          | nil=>cases e
          | cons c' r =>
           dsimp only at e
           by_cases hc' : c'.toNat = 62
           ·simp only [if_pos hc',Option.some.injEq] at e;subst e
            refine ⟨85,[],fd.tag,[v],F,by decide,fun h=>?_,fun n h=>?_⟩
            ·rw [kX (g:=g) hf fun k s u hu e2=>h k s u hu (by rw [e2];exact V.deep_mem (by simp))]
             dsimp only
             rw [if_pos hc']
            ·obtain ⟨_,s',hs'⟩:=fM hf
             exact V.deeps_le fun u hu=>by simp only [List.mem_singleton] at hu;subst hu;exact h _ _ _ hs'
           ·simp only [if_neg hc'] at e;cases e
        ·simp only [if_neg hd] at e;cases e
theorem jk {ts : List Ty} : ∀ (n : Nat) (k s : adE) (x : V × adE),rd ts n k s = some x → V.deep x.1 ≤ n
 | 0,_,_,_,e=>by cases e
 | n + 1,k,s,x,e=>by
  obtain ⟨w,tx,tg,ks,h1,h2,_,h4⟩:=t7 (g:=rd ts n) k s e
  rw [h1,cy h2]
  have:=h4 n fun k s y hy=>jk n k s y hy
  omega
theorem yp {ts : List Ty} : ∀ (n m : Nat) (k s : adE) (x : V × adE),rd ts n k s = some x → V.deep x.1 ≤ m → rd ts m k s = some x
 | 0,_,_,_,_,e,_=>by cases e
 | n + 1,m,k,s,x,e,hm=>by
  obtain ⟨w,tx,tg,ks,h1,h2,h3,_⟩:=t7 (g:=rd ts (m - 1)) k s e
  rw [h1,cy h2] at hm
  obtain ⟨m,rfl⟩ : ∃ j,m = j + 1:=⟨m - 1,oM⟩
  exact h3 fun k s y hy hd=>yp n m k s y hy oM
theorem bn {c : UInt8} {n : Nat} (h : c.toNat = n) (hn : n < 256) : c = UInt8.ofNat n:=by
 apply UInt8.toNat_inj.1;rw [h,UInt8.toNat_ofNat'];omega
theorem ky {top : Int} {s r : adE} {n : Int} (h : cq top s = some (n,r)) : s = a8 n ++ r:=by
 unfold cq at h
 cases hn : aM (s.takeWhile bc) top with
 | none=>rw [hn] at h;cases h
 | some q =>
  rw [hn] at h
  simp only [Option.map_some,Option.some.injEq,Prod.mk.injEq] at h
  obtain ⟨rfl,rfl⟩:=h
  rw [← (dE hn).2.1,List.takeWhile_append_dropWhile]
theorem nY {f : adE → Option (V × adE)} (h : ∀ s y,f s = some y → s = y.1.out ++ y.2) : ∀ (m : Nat) (s : adE) (acc : List V) {x : List V × adE},bj f m s acc = some x → ∃ vs,vs ≠ [] ∧ x.1 = acc ++ vs ∧ s = aO 44 (vs.map V.out) ++ 93 :: x.2
 | 0,_,_,_,e=>by cases e
 | m + 1,s,acc,x,e=>by
  unfold bj at e
  cases hf : f s with
  | none=>rw [hf] at e;cases e
  | some y =>
   rw [hf] at e
   have hy:=h s y hf
   obtain ⟨v,r⟩:=y
   cases r with
   | nil=>cases e
   | cons c r =>
    dsimp only at e hy
    split at e
    ·rename_i hc
     obtain ⟨vs,h1,h2,h3⟩:=nY h m r _ e
     have hc2:=bn hc dC
     refine ⟨v :: vs,by simp,by rw [h2];simp,?_⟩
     rw [hy,h3,List.map_cons,lW _ _ (by simpa using h1),hc2]
     simp
    ·split at e
     ·rename_i hc2
      have hc3:=bn hc2 dC
      simp only [Option.some.injEq] at e;subst e
      exact ⟨[v],by simp,F,by rw [hy,hc3];rfl⟩
     ·cases e
theorem fN {t : Int} {v : V} : V.out (.nd 61 [] t [v]) = a8 t ++ 61 :: v.out:=by
 rw [V.out,V.outs,V.outs];simp [cO,aO]
theorem n5 {f : adE → adE → Option (V × adE)} (h : ∀ k s y,f k s = some y → s = y.1.out ++ y.2) {t : Ty} {s : adE} {x : (Fld × V) × adE} (e : aW f t s = some x) : s = a8 x.1.1.tag ++ 61 :: (x.1.2.out ++ x.2):=by
 unfold aW at e
 cases hn : cq 200 s with
 | none=>rw [hn] at e;cases e
 | some y =>
  rw [hn] at e
  obtain ⟨n,r⟩:=y
  have h1:=ky hn
  dsimp only at e
  cases hd : bB t.fields n with
  | none=>rw [hd] at e;cases e
  | some d =>
   rw [hd] at e
   have h2 : d.tag = n:=by have:=List.find?_some hd;simpa using this
   cases r with
   | nil=>cases e
   | cons c r' =>
    dsimp only at e
    by_cases hc : c.toNat = 61
    ·rw [if_pos hc] at e
     cases hf : f d.kind r' with
     | none=>rw [hf] at e;cases e
     | some y =>
      rw [hf] at e
      simp only [Option.map_some,Option.some.injEq] at e
      subst e
      have h3:=h _ _ _ hf
      dsimp only
      rw [h1,h2,h3,bn hc dC];rfl
    ·rw [if_neg hc] at e;cases e
theorem pq {ts : List Ty} {f : adE → adE → Option (V × adE)} (h : ∀ k s y,f k s = some y → s = y.1.out ++ y.2) {t : Ty} : ∀ (m : Nat) (last : Int) (s : adE) (acc : List V) {x : List V × adE},bP ts f t m last s acc = some x → ∃ vs,vs ≠ [] ∧ x.1 = acc ++ vs ∧ s = aO 44 (vs.map V.out) ++ 125 :: x.2
 | 0,_,_,_,_,e=>by cases e
 | m + 1,last,s,acc,x,e=>by
  unfold bP at e
  cases hf : aW f t s with
  | none=>rw [hf] at e;cases e
  | some y =>
   rw [hf] at e
   have hy:=n5 h hf
   obtain ⟨⟨d,v⟩,r⟩:=y
   dsimp only at e hy
   split at e
   ·cases e
   ·cases r with
    | nil=>cases e
    | cons c r =>
     dsimp only at e
     split at e
     ·rename_i hc
      obtain ⟨vs,h1,h2,h3⟩:=pq h m _ r _ e
      have hc2:=bn hc dC
      refine ⟨V.nd 61 [] d.tag [v] :: vs,by simp,by rw [h2];simp,?_⟩
      rw [hy,h3,List.map_cons,lW _ _ (by simpa using h1),hc2,fN]
      simp
     ·split at e
      ·rename_i hc2
       have hc3:=bn hc2 dC
       simp only [Option.some.injEq] at e;subst e
       exact ⟨[V.nd 61 [] d.tag [v]],by simp,F,by rw [hy,hc3];simp [aO,fN]⟩
      ·cases e
theorem rA {k : Nat} {c : UInt8} (hc : c.toNat = k) : ∀ {s x r : adE},aJ k s = (x,r,true) → s = x ++ c :: r
 | [],_,_,h=>by cases h
 | d :: s,x,r,h=>by
  unfold aJ at h
  split at h
  ·rename_i hd
   simp only [Prod.mk.injEq,and_true] at h
   obtain ⟨rfl,rfl⟩:=h
   have : d = c:=UInt8.toNat_inj.1 (by rw [hd,hc])
   rw [this];rfl
  ·simp only [Prod.mk.injEq] at h
   obtain ⟨h1,h2,h3⟩:=h
   have ih:=rA hc (s:=s) (x:=(aJ k s).1) (r:=(aJ k s).2.1) (by rw [← h3])
   rw [← h1,← h2,List.cons_append,← ih]
theorem qo {p s : adE} (h : p.isPrefixOf s = true) : s = p ++ s.drop p.length:=by
 rw [List.isPrefixOf_iff_prefix] at h
 obtain ⟨t,rfl⟩:=h
 simp
theorem nW {s : adE} {x : V × adE} (e : dw s = some x) : s = x.1.out ++ x.2:=by
 unfold dw at e
 cases s with
 | nil=>cases e
 | cons c s =>
  dsimp only at e
  by_cases hc : c.toNat = 39
  ·rw [if_pos hc] at e
   rcases hq : aJ 39 s with ⟨y,r,b⟩
   rw [hq] at e
   cases b with
   | false=>cases e
   | true =>
    dsimp only at e
    split at e
    ·simp only [Option.some.injEq] at e;subst e
     have h1:=rA (c:=39) rfl hq
     rw [h1,bn hc dC]
     simp [V.out,cO]
    ·cases e
  ·rw [if_neg hc] at e;cases e
theorem pu {s : adE} {x : V × adE} (e : er s = some x) : s = x.1.out ++ x.2:=by
 unfold er at e
 split at e
 ·rename_i h
  simp only [Option.some.injEq] at e;subst e
  have:=qo h
  simpa [V.out,cO] using this
 ·split at e
  ·rename_i h
   simp only [Option.some.injEq] at e;subst e
   have:=qo h
   simpa [V.out,cO] using this
  ·cases e
theorem oL {ks : List V} {r : adE} : V.out (.nd 91 [] 0 ks) ++ r = 91 :: (aO 44 (ks.map V.out) ++ 93 :: r):=by
 rw [V.out,V.outs_map];simp [cO]
theorem qr {ks : List V} {r : adE} : V.out (.nd 82 [] 0 ks) ++ r = 123 :: (aO 44 (ks.map V.out) ++ 125 :: r):=by
 rw [V.out,V.outs_map];simp [cO]
theorem ud {v : V} {r : adE} : V.out (.nd 63 [] 0 [v]) ++ r = 43 :: (v.out ++ r):=by
 rw [V.out,V.outs_map];simp [cO,aO]
theorem qp {v : V} {n : Int} {r : adE} : V.out (.nd 85 [] n [v]) ++ r = 60 :: (a8 n ++ 61 :: (v.out ++ 62 :: r)):=by
 rw [V.out,V.outs_map];simp [cO,aO]
theorem yT {ts : List Ty} {f : adE → adE → Option (V × adE)} (h : ∀ k s y,f k s = some y → s = y.1.out ++ y.2) : ∀ (k s : adE) {x : V × adE},fe ts f k s = some x → s = x.1.out ++ x.2
 | [],_,_,e=>by cases e
 | c :: k,s,x,e=>by
  unfold fe at e
  dsimp only at e
  by_cases h91 : c.toNat = 91
  ·simp only [if_pos h91] at e
   cases s with
   | nil=>cases e
   | cons d s' =>
    dsimp only at e
    by_cases hd : d.toNat = 91
    ·simp only [if_pos hd] at e
     cases s' with
     | nil=>cases e
     | cons e' r =>
      dsimp only at e
      by_cases he : e'.toNat = 93
      ·simp only [if_pos he,Option.some.injEq] at e;subst e
       rw [oL,bn hd dC,bn he dC];rfl
      ·simp only [if_neg he] at e
       cases hf : bj (f k) 20 (e' :: r) [] with
       | none=>rw [hf] at e;cases e
       | some y =>
        rw [hf] at e
        simp only [Option.map_some,Option.some.injEq] at e;subst e
        obtain ⟨vs,_,h2,h3⟩:=nY (h k) _ _ _ hf
        rw [oL,h2,h3,bn hd dC];rfl
    ·simp only [if_neg hd] at e;cases e
  ·simp only [if_neg h91] at e
   by_cases h63 : c.toNat = 63
   ·simp only [if_pos h63] at e
    cases s with
    | nil=>cases e
    | cons d s' =>
     dsimp only at e
     by_cases hd : d.toNat = 45
     ·simp only [if_pos hd,Option.some.injEq] at e;subst e
      rw [bn hd dC];simp [V.out,cO]
     ·simp only [if_neg hd] at e
      by_cases hd2 : d.toNat = 43
      ·simp only [if_pos hd2] at e
       cases hf : f k s' with
       | none=>rw [hf] at e;cases e
       | some y =>
        rw [hf] at e
        simp only [Option.map_some,Option.some.injEq] at e;subst e
        rw [ud,← h k s' y hf,bn hd2 dC];rfl
      ·simp only [if_neg hd2] at e;cases e
   ·simp only [if_neg h63] at e
    cases hr : aX ts (c :: k) with
    | none =>
     rw [hr] at e
     dsimp only at e
     by_cases h1 : c.toNat = 110
     ·simp only [if_pos h1] at e
      cases hn : cq 999999 s with
      | none=>rw [hn] at e;cases e
      | some y =>
       rw [hn] at e
       simp only [Option.map_some,Option.some.injEq] at e;subst e
       rw [ky hn];simp [V.out,cO]
     ·simp only [if_neg h1] at e
      by_cases h2 : c.toNat = 116
      ·simp only [if_pos h2] at e;exact nW e
      ·simp only [if_neg h2] at e
       by_cases h3 : c.toNat = 102
       ·simp only [if_pos h3] at e;exact pu e
       ·simp only [if_neg h3] at e;cases e
    | some t =>
     rw [hr] at e
     dsimp only at e
     unfold be at e
     cases s with
     | nil=>cases e
     | cons d s =>
      dsimp only at e
      by_cases h82 : t.sort = 82
      ·simp only [if_pos h82] at e
       by_cases hd : d.toNat = 123
       ·simp only [if_pos hd] at e
        cases s with
        | nil=>cases e
        | cons d' r =>
         dsimp only at e
         by_cases hd' : d'.toNat = 125
         ·simp only [if_pos hd',Option.some.injEq] at e;subst e
          rw [qr,bn hd dC,bn hd' dC];rfl
         ·simp only [if_neg hd'] at e
          cases hf : bP ts f t ((d' :: r).length + 1) 0 (d' :: r) [] with
          | none=>rw [hf] at e;cases e
          | some y =>
           rw [hf] at e
           simp only [Option.map_some,Option.some.injEq] at e;subst e
           obtain ⟨vs,_,h2,h3⟩:=pq h _ _ _ _ hf
           rw [qr,h2,h3,bn hd dC];rfl
       ·simp only [if_neg hd] at e;cases e
      ·simp only [if_neg h82] at e
       by_cases h69 : t.sort = 69
       ·simp only [if_pos h69] at e
        by_cases hd : d.toNat = 35
        ·simp only [if_pos hd] at e
         cases hn : cq 200 s with
         | none=>rw [hn] at e;cases e
         | some y =>
          rw [hn] at e
          obtain ⟨n,r⟩:=y
          dsimp only at e
          split at e
          ·simp only [Option.some.injEq] at e;subst e
           rw [ky hn,bn hd dC];simp [V.out,cO]
          ·cases e
        ·simp only [if_neg hd] at e;cases e
       ·simp only [if_neg h69] at e
        by_cases hd : d.toNat = 60
        ·simp only [if_pos hd] at e
         cases hf : aW f t s with
         | none=>rw [hf] at e;cases e
         | some y =>
          rw [hf] at e
          have h3:=n5 h hf
          obtain ⟨⟨fd,v⟩,r⟩:=y
          cases r with
          | nil=>cases e
          | cons c' r =>
           dsimp only at e h3
           by_cases hc' : c'.toNat = 62
           ·simp only [if_pos hc',Option.some.injEq] at e;subst e
            rw [qp,h3,bn hd dC,bn hc' dC];rfl
           ·simp only [if_neg hc'] at e;cases e
        ·simp only [if_neg hd] at e;cases e
theorem vX {ts : List Ty} : ∀ (n : Nat) (k s : adE) (x : V × adE),rd ts n k s = some x → s = x.1.out ++ x.2
 | 0,_,_,_,e=>by cases e
 | n + 1,k,s,x,e=>yT (fun k s y hy=>vX n k s y hy) k s e
theorem mE {ts : List Ty} {k s : adE} {v : V} (h : bV ts k s = some v) : v.out = s ∧ s.length ≤ 400 ∧ V.deep v ≤ 12:=by
 unfold bV at h
 split at h
 ·rename_i hl
  split at h
  ·rename_i w hw
   simp only [Option.some.injEq] at h;subst h
   have h1:=vX _ _ _ _ hw
   have h2:=jk _ _ _ _ hw
   simp only [List.append_nil] at h1
   exact ⟨h1.symm,hl,h2⟩
  ·cases h
 ·cases h
end Go.E
