/- Contracts and plain laws that the statement rests on, part 2. Conditions: as each says. -/
import Derived.Test.YtglhncibfmhblabGreatDoorU1
set_option linter.unusedVariables false
set_option linter.unusedSimpArgs false
namespace Go.E
section
variable {P : Program} {n : Nat} {D : List Deferred} {E : bw} {M : World → Prop} {d : Option Nat} {ty : TypeId} {pos : String} {aft : Array Edge} {gd : Option (Nat × Bool)}
theorem xX {x : Operand} {T el : TypeId} {size bytes : Nat} {zero : Value} {p : Option Addr} {len cap : Nat} [TI P T (.slice el) size bytes zero] (hx : ev E x = some (.slice p len cap)) : Gives P n D E M ⟨d,.call ⟨.builtin .cap,[x].toArray,[T].toArray⟩,ty,pos,aft,gd⟩ (I cap):=Gives.mk fun a w hs _=>by
 simp [execOp,resolve,hs.ev hx,invoke,builtin,Builtin.cap_,b7 (T:=T) (desc:=.slice el) (size:=size) (bytes:=bytes) (zero:=zero),goInt]
theorem abK {T el : TypeId} {x lo : Operand} {desc' : TypeDesc} {size bytes size' bytes' : Nat} {zero zero' : Value} {k : IntKind} {m : Int} {b o len cap : Nat} [TI P T (.slice el) size bytes zero] [TI P el desc' size' bytes' zero']
  (hx : ev E x = some (.slice (some ⟨b,o,none⟩) len cap)) (hl : ev E lo = some (.int k m)) (h0 : 0 ≤ m ∧ m ≤ len ∧ m < cap) :
  Gives P n D E M ⟨d,.slice T x (some lo) none none,ty,pos,aft,gd⟩ (.slice (some ⟨b,o + m.toNat * size',none⟩) (len - m.toNat) (cap - m.toNat)):=by
 obtain ⟨o',h1,h2⟩:=w4 (P:=P) (n:=n) (D:=D) (M:=M) (d:=d) (ty:=ty) (pos:=pos) (aft:=aft) (gd:=gd) (T:=T) (el:=el) (desc':=desc') (size':=size') (bytes':=bytes') (zero':=zero') (size:=size) (bytes:=bytes) (zero:=zero) hx hl ⟨h0.1,h0.2.1⟩
 rw [← h1 h0.2.2];exact h2
theorem qy {S : World → Prop} {G0 : Gh} {L0 : List Own} [k : Kn S G0 L0] {b : Nat} {cs : List Value} {T0 : TypeId} {fr : Nat × Nat} (hm : Own.blk b (.cells cs.toArray T0 fr) ∈ L0) {w : World} (hw : S w) : w.shape? b = some (T0,cs.length):=by
 obtain ⟨B,G,L,_,hL,hst⟩:=k.kn w hw
 have h : w.heap[b]? = some (.cells cs.toArray T0 fr):=hst.own _ (hL _ hm)
 simp [World.shape?,h]
theorem abI {T T' t T0 : TypeId} {x : Operand} {b s1 b1 js jb : Nat} {z1 jz : Value} {jd : TypeDesc} {G0 : Gh} {L0 : List Own} {cs : List Value} {fr : Nat × Nat} [t1 : TI P T (.pointer t) s1 b1 z1] [t2 : TI P t jd js jb jz] [Kn M G0 L0] [h : BlkI L0 b cs T0 fr]
  (hd : P.underlying T' = some .unsafePointer) (hx : ev E x = some (Pt b 0)) (hj : Nat.beq js 0 = false) (hc : cs.isEmpty = false) : Gives P n D E M ⟨d,.convert T T' x,ty,pos,aft,gd⟩ (Pt b 0):=Gives.mk fun a w hs hw=>by
 obtain ⟨j,hj1,hj2,_,_⟩:=t2.inf
 have hl : 0 < cs.length:=by cases cs with | nil=>cases hc | cons=>simp
 have:=Lib.run_to_unsafe (P:=P) w (src:=T) (dst:=T') (t:=t) (j:=j) ⟨b,0,none⟩ t1.und hd hj1 (by rw [hj2];intro e;subst e;simp at hj) (qy (S:=M) h.mem hw) hl
 simp only [execOp,hs.ev hx,Sem.run_bind,this,Result.andThen_ok,Sem.run_pure]
theorem yC {T T' t T0 : TypeId} {x : Operand} {b s1 b1 js jb : Nat} {z1 jz : Value} {jd : TypeDesc} {G0 : Gh} {L0 : List Own} {cs : List Value} {fr : Nat × Nat} [t1 : TI P T' (.pointer t) s1 b1 z1] [t2 : TI P t jd js jb jz] [Kn M G0 L0] [h : BlkI L0 b cs T0 fr]
  (hd : P.underlying T = some .unsafePointer) (hx : ev E x = some (Pt b 0)) (hl : liesAt P P.depth T0 (cs.length / P.cellsOf T0) 0 t 1 = true) : Gives P n D E M ⟨d,.convert T T' x,ty,pos,aft,gd⟩ (Pt b 0):=Gives.mk fun a w hs hw=>by
 obtain ⟨j,hj1,_,_,_⟩:=t2.inf
 have:=Lib.run_from_unsafe (P:=P) w (src:=T) (dst:=T') (u:=t) (j:=j) ⟨b,0,none⟩ hd t1.und hj1 (qy (S:=M) h.mem hw) hl
 simp only [execOp,hs.ev hx,Sem.run_bind,this,Result.andThen_ok,Sem.run_pure]
theorem aaq {T T' el : TypeId} {x y : Operand} {size bytes js jb : Nat} {zero jz : Value} {jd : TypeDesc} {p : Addr} [t1 : TI P T (.pointer el) size bytes zero] [t2 : TI P el jd js jb jz] (hx : ev E x = some (.pointer (some p))) (hy : ev E y = some (.pointer (some p))) : Gives P n D E M ⟨d,.binOp .neq T x y T',ty,pos,aft,gd⟩ (Bo false):=dt hx hy rfl fun w=>by
 obtain ⟨j,hj1,_,_,_⟩:=t2.inf
 exact Lib.run_neq_ptr_same w p t1.und hj1
theorem yF {T T' el : TypeId} {x y : Operand} {s1 b1 js jb : Nat} {z1 jz : Value} {jd : TypeDesc} {b o m c : Nat} [t1 : TI P T (.slice el) s1 b1 z1] [t2 : TI P el jd js jb jz] (hx : ev E x = some (.slice (some ⟨b,o,none⟩) m c)) (hy : ev E y = some aJ) :
  Gives P n D E M ⟨d,.call ⟨.builtin .copy,[x,y].toArray,[T,T'].toArray⟩,ty,pos,aft,gd⟩ (I (0 : Nat)):=Gives.mk fun a w hs _=>by
 obtain ⟨j,hj1,_,_,_⟩:=t2.inf
 have h1:=run_copy_nil (P:=P) w T T' ty el ⟨b,o,none⟩ m c t1.und (by rw [hj1];rfl)
 have e1 : ([x,y].toArray.map a.eval) = #[.slice (some ⟨b,o,none⟩) m c,aJ]:=by simp [hs.ev hx,hs.ev hy]
 simp only [execOp,resolve,e1,Sem.run_bind,Sem.run_pure,Result.andThen_ok,invoke,builtin,h1]
 rfl
theorem aao {T : TypeId} {x : Operand} {b o m c : Nat} (hx : ev E x = some (.slice (some ⟨b,o,none⟩) m c)) (hc : Nat.beq c 0 = false) : Gives P n D E M ⟨d,.call ⟨.builtin .unsafeSliceData,[x].toArray,[T].toArray⟩,ty,pos,aft,gd⟩ (Pt b o):=Gives.mk fun a w hs _=>by
 have h1:=Lib.run_unsafeSliceData_row (P:=P) w #[T] ty ⟨b,o,none⟩ m c (by rintro rfl;simp at hc)
 have e1 : ([x].toArray.map a.eval) = #[.slice (some ⟨b,o,none⟩) m c]:=by simp [hs.ev hx]
 simp only [execOp,resolve,e1,Sem.run_bind,Sem.run_pure,Result.andThen_ok,invoke,builtin,h1]
theorem yB {T : TypeId} {x : Operand} (hx : ev E x = some aJ) : Gives P n D E M ⟨d,.call ⟨.builtin .unsafeSliceData,[x].toArray,[T].toArray⟩,ty,pos,aft,gd⟩ (.pointer none):=Gives.mk fun a w hs _=>by
 have h1:=Lib.run_unsafeSliceData_nil (P:=P) w #[T] ty 0 0
 have e1 : ([x].toArray.map a.eval) = #[aJ]:=by simp [hs.ev hx]
 simp only [execOp,resolve,e1,Sem.run_bind,Sem.run_pure,Result.andThen_ok,invoke,builtin,h1]
theorem yx {T T' : TypeId} {x y : Operand} {p : Option Addr} (hx : ev E x = some (.pointer p)) (hy : ev E y = some (I (0 : Nat))) : Gives P n D E M ⟨d,.call ⟨.builtin .unsafeString,[x,y].toArray,[T,T'].toArray⟩,ty,pos,aft,gd⟩ (S []):=Gives.mk fun a w hs _=>by
 have h1:=Lib.run_unsafeString_none (P:=P) w T T' ty p
 have e1 : ([x,y].toArray.map a.eval) = #[.pointer p,.int .i64 0]:=by simp [hs.ev hx,hs.ev hy]
 simp only [execOp,resolve,e1,Sem.run_bind,Sem.run_pure,Result.andThen_ok,invoke,builtin,h1]
 rfl
end
section
variable {P : Program} {n : Nat} {D : List Deferred} {E : bw} {B : Base} {G : Gh} {L : List Own} {K : Act → World → Prop} {Q : Exit → Act → World → Prop} {ty : TypeId} {pos : String} {aft : Array Edge} {gd : Option (Nat × Bool)} {d : Nat}
theorem St.freeze {w : World} {b m cap : Nat} {T : TypeId} {xs : List Value} (h : St B G (.acc (.slice (some ⟨b,0,none⟩) m cap) T 1 m xs :: L) w) (k : Nat) : St B G L (w.freeze ⟨b,0,none⟩ k):=by
 obtain ⟨h1,⟨h2,_⟩ | ⟨b',cap',rest,e,hc,hl,hb⟩⟩ : gf w _ T 1 m xs:=h.own _ List.mem_cons_self
 ·cases h2
 simp only [Value.slice.injEq,Option.some.injEq,Addr.mk.injEq,and_true,true_and] at e
 obtain ⟨rfl,rfl⟩:=e
 unfold World.freeze
 by_cases hk : k = 0
 ·rw [if_pos hk];exact h.weaken (List.sublist_cons_self _ _)
 ·rw [if_neg hk]
  have h2:=h.upd (y:=.blk b (.cells (xs ++ rest).toArray T (0,k))) (w':={ w with heap:=w.heap.modify b fun | .cells c elem (lo,hi)=>.cells c elem (if lo == hi then (0,0 + k) else (min lo 0,max hi (0 + k))) | o=>o }) (b:=b) rfl rfl (by
   show (w.heap.modify b _)[b]? = _
   rw [Array.getElem?_modify,if_pos rfl,hb]
   simp) (fun c hc=>by
    show (w.heap.modify b _)[c]? = _
    rw [Array.getElem?_modify,if_neg (fun e=>hc e.symm)]) rfl rfl rfl (by simp)
  exact h2.weaken (List.sublist_cons_self _ _)
class AccD (L : List Own) (b : Nat) (m cap : outParam Nat) (T : outParam TypeId) (sz : outParam Nat) (xs : outParam (List Value)) (L' : outParam (List Own)) : Prop where
 del : Del (.acc (.slice (some ⟨b,0,none⟩) m cap) T sz m xs) L L'
instance {b m cap : Nat} {T : TypeId} {sz : Nat} {xs : List Value} {r : List Own} : AccD (.acc (.slice (some ⟨b,0,none⟩) m cap) T sz m xs :: r) b m cap T sz xs r:=⟨.here⟩
instance {b m cap : Nat} {T : TypeId} {sz : Nat} {xs : List Value} {z : Own} {r r' : List Own} [h : AccD r b m cap T sz xs r'] : AccD (z :: r) b m cap T sz xs (z :: r'):=⟨.there h.del⟩
theorem aaT {T T' el : TypeId} {x y : Operand} {b m cap s1 b1 s2 b2 : Nat} {z1 z2 : Value} {l : ac1} {L' : List Own} [t1 : TI P T (.pointer el) s1 b1 z1] [t2 : TI P el (.int .u8) s2 b2 z2] [ha : AccD L b m cap el 1 (cz l) L']
  (hc1 : P.cellsOf el = 1) (hx : ev E x = some (Pt b 0)) (hy : ev E y = some (I (m : Nat))) (hlt : Nat.blt d n = true) (hm : m ≤ 9223372036854775807)
  (k : Nx n D ((d,S l) :: E) B G L' K) : Nx n D E B G L (ow P ⟨some d,.call ⟨.builtin .unsafeString,[x,y].toArray,[T,T'].toArray⟩,ty,pos,aft,gd⟩ Q K):=Nx.mk fun a w hs hw=>by
 have hw1:=hw.perm ha.del.perm
 have hat : gf w (.slice (some ⟨b,0,none⟩) m cap) el 1 m (cz l):=hw1.own _ List.mem_cons_self
 obtain ⟨h1,⟨h2,_⟩ | ⟨b',cap',rest,e,hc,hl,hb⟩⟩:=hat
 ·cases h2
 simp only [Value.slice.injEq,Option.some.injEq,Addr.mk.injEq,and_true,true_and] at e
 obtain ⟨rfl,rfl⟩:=e
 have hlm : l.length = m:=by simpa [cz] using h1
 have e1 : ([x,y].toArray.map a.eval) = #[.pointer (some ⟨b,0,none⟩),.int .i64 (m : Nat)]:=by simp [hs.ev hx,hs.ev hy]
 unfold ow Oper.wp
 by_cases h0 : l = []
 ·subst h0
  have hm0 : m = 0:=by simpa using hlm.symm
  subst hm0
  have hr:=Lib.run_unsafeString_none (P:=P) w T T' ty (some ⟨b,0,none⟩)
  have : (execOp a.eval ⟨some d,.call ⟨.builtin .unsafeString,[x,y].toArray,[T,T'].toArray⟩,ty,pos,aft,gd⟩).run P w = .ok (.value (S [])) w:=by
   simp only [execOp,resolve,e1,Sem.run_bind,Sem.run_pure,Result.andThen_ok,invoke,builtin]
   have hr' : (Builtin.unsafeString_ [T,T'].toArray ty #[.pointer (some ⟨b,0,none⟩),.int .i64 ((0 : Nat) : Int)]).run P w = .ok (.string .empty) w:=hr
   rw [hr'];rfl
  rw [this,Oper.upon_value]
  exact k.go _ w (hs.put (by simpa using hlt)) (hw1.weaken (List.sublist_cons_self _ _))
 ·have hcell : ∀ j x,l[j]? = some x → w.cell? ((⟨b,0,none⟩ : Addr).add j) = some (.int .u8 x.toNat):=fun j x hj=>by
   have hv : (cz l)[j]? = some (.int .u8 x.toNat):=by simp [cz,hj]
   rw [l0]
   exact ((eY (S:=St B G (.acc (.slice (some ⟨b,0,none⟩) m cap) el 1 m (cz l) :: L')) (m:=m) (cap:=cap) (T:=el) (sz:=1) (xs:=cz l) List.mem_cons_self).go j _ hv).go w hw1
  have hsh : w.shape? b = some (el,(cz l ++ rest).length):=by simp [World.shape?,hb]
  have hr:=Lib.run_unsafeString_row (P:=P) w T T' ty el t1.und hc1 b _ hsh l h0 (by simp [cz]) oM hcell
  have : (execOp a.eval ⟨some d,.call ⟨.builtin .unsafeString,[x,y].toArray,[T,T'].toArray⟩,ty,pos,aft,gd⟩).run P w = .ok (.value (S l)) (w.freeze ⟨b,0,none⟩ l.length):=by
   simp only [execOp,resolve,e1,Sem.run_bind,Sem.run_pure,Result.andThen_ok,invoke,builtin]
   have hr' : (Builtin.unsafeString_ [T,T'].toArray ty #[.pointer (some ⟨b,0,none⟩),.int .i64 (m : Nat)]).run P w = .ok (S l) (w.freeze ⟨b,0,none⟩ l.length):=by rw [← hlm];exact hr
   rw [hr'];rfl
  rw [this,Oper.upon_value]
  exact k.go _ _ (hs.put (by simpa using hlt)) (hw1.freeze _)
theorem me (l : ac1) : Lib.strCells ⟨l.toArray⟩ = cz l:=by simp [Lib.strCells,cz]
theorem tr {v : Value} {m : Nat} {T T2 el : TypeId} {s1 b1 s2 b2 : Nat} {z1 z2 : Value} {xs : List Value} {l : ac1} {w : World} {R : List Own} [h1' : TI P T (.slice el) s1 b1 z1] [h2' : TI P T2 .string s2 b2 z2] [he : TI P el (.int .u8) 1 1 (.int .u8 0)]
  (hb : m + l.length ≤ 1000000000) (hw : St B G (.acc v el 1 m xs :: R) w) :
  ∃ v' w',(Builtin.append_ #[T,T2] ty #[v,S l]).run P w = .ok v' w' ∧ St B G (.acc v' el 1 (m + l.length) (xs ++ cz l) :: R) w' ∧ (v = aJ → l = [] → v' = aJ) ∧ ((v ≠ aJ ∨ l ≠ []) → ∃ b cap,v' = .slice (some ⟨b,0,none⟩) (m + l.length) cap ∧ ((∀ p q,v ≠ .slice p q 0) ∨ l ≠ [] → 0 < cap)):=by
 obtain ⟨hxl,hacc⟩ : gf w v el 1 m xs:=hw.own _ List.mem_cons_self
 obtain ⟨ie,hi,hsz,hby,hze⟩:=he.inf
 have ht:=h1'.und
 have hu:=h2'.und
 have hss : (⟨l.toArray⟩ : ByteArray).size = l.length:=nO l
 have hul : (cz l).length = l.length:=by simp [cz]
 have mk : ∀ nc,m + l.length ≤ nc →
   St B G (.acc (.slice (some ⟨w.heap.size,0,none⟩) (m + l.length) nc) el 1 (m + l.length) (xs ++ cz l) :: R) (w.drew.alloc (.cells (xs ++ cz l ++ bN [.int .u8 0] (nc - (m + l.length))).toArray el)):=by
  intro nc hnc
  have h2:=hw.drew.alloc (.cells (xs ++ cz l ++ bN [.int .u8 0] (nc - (m + l.length))).toArray el)
  have h3 : St B G (.blk w.drew.heap.size (.cells (xs ++ cz l ++ bN [.int .u8 0] (nc - (m + l.length))).toArray el) :: R) _:=h2.weaken (.cons_cons _ (List.sublist_cons_self _ _))
  refine h3.conv F ⟨by simp [hxl,hul],.inr ⟨_,nc,bN [.int .u8 0] (nc - (m + l.length)),F,hnc,?_,h3.own _ List.mem_cons_self⟩⟩
  simp only [List.length_append,hxl,hul,gl,List.length_cons,List.length_nil]
  omega
 have ez : (Builtin.zeroCells (Value.int .u8 0).cells) = fun k=>(bN [.int .u8 0] k).toArray:=by
  funext k;rw [← jj];rfl
 rcases hacc with ⟨rfl,rfl⟩ | ⟨b,cap,rest,rfl,hmc,hrl,hblk⟩
 ·have hx0 : xs = []:=by simpa using hxl
  subst hx0
  by_cases hk : l = []
  ·subst hk
   refine ⟨aJ,w,?_,by simpa [cz] using hw,fun _ _=>rfl,fun h=>by rcases h with h | h <;> exact absurd F h⟩
   have hf : (Builtin.firstCells 1 0 (S [])).run P w = .ok #[] w:=by
    have:=Lib.run_firstCells_string (P:=P) w 1 ⟨([] : ac1).toArray⟩
    rw [nO] at this;simpa [Lib.strCells] using this
   simp [Builtin.append_,run_underlying ht,run_underlying hu,sizeOf,typeInfo,hi,hsz,Builtin.lenOf,nO,hf]
  ·have hpos : 0 < l.length:=List.length_pos_iff.2 hk
   have hr:=run_append_nil_string (P:=P) w T T2 ty el ie (.int .u8 0) ht hu hi hze ⟨l.toArray⟩ (by rw [hss];exact hpos) (by rw [hss];omega) (by rw [hss,hby];omega)
   rw [hss] at hr
   have hg:=grownCap_ge w l.length 0 el
   have:=mk (grownCap w l.length 0 el) (by simpa using hg)
   have e1 : (⟨l.toArray⟩ : ByteArray).data.map (fun b=>Value.int .u8 b.toNat) ++ Builtin.zeroCells (Value.int .u8 0).cells (grownCap w l.length 0 el - l.length) = (cz l ++ bN [.int .u8 0] (grownCap w l.length 0 el - l.length)).toArray:=by
    rw [ez];simp [cz]
   rw [e1] at hr
   simp only [Nat.zero_add,List.nil_append] at this ⊢
   exact ⟨_,_,hr,this,fun _ h=>absurd h hk,fun _=>⟨_,_,F,fun _=>by omega⟩⟩
 ·by_cases hfit : m + l.length ≤ cap
  ·have hr:=Lib.run_append_room_string (P:=P) w T T2 ty el ie ht hu hi hsz b m cap (xs ++ rest).toArray hblk ⟨l.toArray⟩ (by rw [hss];exact hfit) (by rw [hss];simp only [List.size_toArray];omega)
   have hcells : (List.take m (xs ++ rest) ++ cz l ++ List.drop (m + l.length) (xs ++ rest)) = xs ++ cz l ++ rest.drop l.length:=by
    have : m = xs.length:=oM
    rw [this];simp [List.drop_append]
   rw [hss,me] at hr
   simp only [hcells] at hr
   refine ⟨_,_,hr,hw.upd (b:=b) F F ⟨by simp [hxl,hul],.inr ⟨b,cap,rest.drop l.length,F,hfit,?_,setRow_heap w b _ _ el _ hblk⟩⟩ (fun c hc=>setRow_other w b c _ hc) F F F (by simp),fun h=>(by cases h),fun _=>⟨b,cap,F,fun h=>?_⟩⟩
   ·simp only [List.length_append,List.length_drop] at *;omega
   ·rcases h with h | h
    ·rcases Nat.eq_zero_or_pos cap with h0 | h0
     ·subst h0;exact absurd F (h _ _)
     ·exact h0
    ·have:=List.length_pos_iff.2 h;omega
  ·have hnsc:=ka (m + l.length) cap oM
   have hold : ∀ j u,xs[j]? = some u → w.cell? ((⟨b,0,none⟩ : Addr).add j) = some u:=fun j u hj=>by
    rw [l0]
    exact ((eY (S:=St B G (.acc (.slice (some ⟨b,0,none⟩) m cap) el 1 m xs :: R)) (m:=m) (cap:=cap) (T:=el) (sz:=1) (xs:=xs) List.mem_cons_self).go j u hj).go w hw
   have hr:=Lib.run_append_grow_string (P:=P) w T T2 ty el ie (.int .u8 0) ht hu hi hze ⟨b,0,none⟩ m cap xs (by rw [hsz];simpa using hxl) hold ⟨l.toArray⟩ (by rw [hss];omega) (by rw [hss];omega) (by rw [hss,hby];omega)
   rw [hss,me,ez] at hr
   have hg:=grownCap_ge w (m + l.length) cap el
   have:=mk (grownCap w (m + l.length) cap el) hg
   simp only [List.append_toArray] at hr this ⊢
   exact ⟨_,_,hr,this,fun h=>(by cases h),fun _=>⟨_,_,F,fun _=>by omega⟩⟩
theorem acm {m b cap : Nat} {s x : Operand} {T T2 el : TypeId} {s1 b1 s2 b2 : Nat} {z1 z2 : Value} {xs : List Value} {l : ac1} {L' : List Own} [TI P T (.slice el) s1 b1 z1] [TI P T2 .string s2 b2 z2] [TI P el (.int .u8) 1 1 (.int .u8 0)] [ha : AccI L (.slice (some ⟨b,0,none⟩) m (cap + 1)) el 1 m xs L']
  (hs : ev E s = some (.slice (some ⟨b,0,none⟩) m (cap + 1))) (hx : ev E x = some (S l)) (hlt : Nat.blt d n = true) (hb : m + l.length ≤ 1000000000)
  (kk : ∀ b' cap',Nx n D ((d,.slice (some ⟨b',0,none⟩) (m + l.length) (cap' + 1)) :: E) B G (.acc (.slice (some ⟨b',0,none⟩) (m + l.length) (cap' + 1)) el 1 (m + l.length) (xs ++ cz l) :: L') K) :
  Nx n D E B G L (ow P ⟨some d,.call ⟨.builtin .append,[s,x].toArray,[T,T2].toArray⟩,ty,pos,aft,gd⟩ Q K):=Nx.mk fun a w hsat hw=>by
 obtain ⟨v',w',hr,hst,_,h2⟩:=tr (P:=P) (ty:=ty) (T:=T) (T2:=T2) (el:=el) (s1:=s1) (b1:=b1) (z1:=z1) (s2:=s2) (b2:=b2) (z2:=z2) hb (hw.perm ha.del.perm)
 obtain ⟨b',cap',rfl,h3⟩:=h2 (.inl (by simp))
 obtain ⟨c,rfl⟩ : ∃ c,cap' = c + 1:=⟨cap' - 1,by have:=h3 (.inl (by simp));omega⟩
 have hrun : (execOp a.eval ⟨some d,.call ⟨.builtin .append,[s,x].toArray,[T,T2].toArray⟩,ty,pos,aft,gd⟩).run P w = .ok (.value (.slice (some ⟨b',0,none⟩) (m + l.length) (c + 1))) w':=by
  have e1 : ([s,x].toArray.map a.eval) = #[.slice (some ⟨b,0,none⟩) m (cap + 1),S l]:=by simp [hsat.ev hs,hsat.ev hx]
  simp only [execOp,resolve,e1,Sem.run_bind,Sem.run_pure,Result.andThen_ok,invoke,builtin,hr]
 unfold ow Oper.wp
 rw [hrun,Oper.upon_value]
 exact (kk b' c).go _ w' (hsat.put (by simpa using hlt)) hst
theorem abf {s x : Operand} {T T2 el : TypeId} {s1 b1 s2 b2 : Nat} {z1 z2 : Value} {l : ac1} [TI P T (.slice el) s1 b1 z1] [TI P T2 .string s2 b2 z2] [TI P el (.int .u8) 1 1 (.int .u8 0)]
  (hs : ev E s = some aJ) (hx : ev E x = some (S l)) (hlt : Nat.blt d n = true) (hb : 0 < l.length ∧ l.length ≤ 1000000000)
  (kk : ∀ b' cap',Nx n D ((d,.slice (some ⟨b',0,none⟩) l.length (cap' + 1)) :: E) B G (.acc (.slice (some ⟨b',0,none⟩) l.length (cap' + 1)) el 1 l.length (cz l) :: L) K) :
  Nx n D E B G L (ow P ⟨some d,.call ⟨.builtin .append,[s,x].toArray,[T,T2].toArray⟩,ty,pos,aft,gd⟩ Q K):=Nx.mk fun a w hsat hw=>by
 obtain ⟨v',w',hr,hst,_,h2⟩:=tr (P:=P) (ty:=ty) (T:=T) (T2:=T2) (el:=el) (s1:=s1) (b1:=b1) (z1:=z1) (s2:=s2) (b2:=b2) (z2:=z2) (l:=l) oM (hw.addNil el 1)
 have hne : l ≠ []:=List.length_pos_iff.1 hb.1
 obtain ⟨b',cap',rfl,h3⟩:=h2 (.inr hne)
 obtain ⟨c,rfl⟩ : ∃ c,cap' = c + 1:=⟨cap' - 1,by have:=h3 (.inr hne);omega⟩
 simp only [Nat.zero_add,List.nil_append] at hr hst
 have hrun : (execOp a.eval ⟨some d,.call ⟨.builtin .append,[s,x].toArray,[T,T2].toArray⟩,ty,pos,aft,gd⟩).run P w = .ok (.value (.slice (some ⟨b',0,none⟩) l.length (c + 1))) w':=by
  have e1 : ([s,x].toArray.map a.eval) = #[aJ,S l]:=by simp [hsat.ev hs,hsat.ev hx]
  simp only [execOp,resolve,e1,Sem.run_bind,Sem.run_pure,Result.andThen_ok,invoke,builtin,hr]
 unfold ow Oper.wp
 rw [hrun,Oper.upon_value]
 exact (kk b' c).go _ w' (hsat.put (by simpa using hlt)) hst
theorem ace {fo x : Operand} {af : Array TypeId} {f : FuncId} {fn : Func} {t el : TypeId} {m : Nat} {ps : Array TypeId}
  (hf : ev E fo = some (.func (.func f) #[] #[])) (hx : ev E x = some (I (m : Nat))) (hlt : Nat.blt d n = true) (hfn : P.funcs[f]? = some fn) (hname : (fn.name == "runtime.NumGoroutine") = false) (hbd : fn.body.isNone = true) (hnx : Extern.findNext fn = none) (he : Extern.find fn = some (Extern.BytealgMakeNoZero.makeNoZero ps #[t])) (ht : P.underlying t = some (.slice el)) (hm : 0 < m ∧ m ≤ 1000000000)
  (k : ∀ b cap,m ≤ cap + 1 → Nx n D ((d,.slice (some ⟨b,0,none⟩) m (cap + 1)) :: E) B G (.acc (.slice (some ⟨b,0,none⟩) 0 (cap + 1)) el 1 0 [] :: L) K) : Nx n D E B G L (ow P ⟨some d,.call ⟨.value fo,[x].toArray,af⟩,ty,pos,aft,gd⟩ Q K):=Nx.mk fun a w hs hw=>by
 obtain ⟨cs,hr,hcs,_⟩:=Lib.run_makeNoZero (P:=P) w ps t el ht m oM
 have e1 : ([x].toArray.map a.eval) = #[.int .i64 (m : Nat)]:=by simp [hs.ev hx]
 have hrun : (execOp a.eval ⟨some d,.call ⟨.value fo,[x].toArray,af⟩,ty,pos,aft,gd⟩).run P w = .ok (.value (.slice (some ⟨w.heap.size,0,none⟩) m cs.size)) (w.drew.drew.alloc (.cells cs el)):=by
  simp only [execOp,resolve,hs.ev hf,e1,Deferred.ofValue,Sem.run_bind,Sem.run_pure,Result.andThen_ok,invoke]
  rw [show (#[] ++ #[Value.int .i64 (m : Nat)] ++ #[] : Array Value) = #[Value.int .i64 (m : Nat)] from rfl,run_callFunc_extern hfn hname hbd hnx he,hr]
  rfl
 unfold ow Oper.wp
 rw [hrun,Oper.upon_value]
 have h1:=hw.drew.drew.alloc (.cells cs el)
 obtain ⟨c,hc⟩ : ∃ c,cs.size = c + 1:=⟨cs.size - 1,oM⟩
 have h2 : St B G (.acc (.slice (some ⟨w.heap.size,0,none⟩) 0 (c + 1)) el 1 0 [] :: L) (w.drew.drew.alloc (.cells cs el)):=h1.conv rfl ⟨rfl,.inr ⟨w.heap.size,c + 1,cs.toList,rfl,Nat.zero_le _,by simp [hc],h1.own _ List.mem_cons_self⟩⟩
 rw [hc]
 exact (k w.heap.size c oM).go _ _ (hs.put (by simpa using hlt)) h2
end
def dw (P : Program) (f : FuncId) (args : List Value) (G : Gh) (L : List Own) (R : Value → Gh → List Own → Prop) : Prop:=Fn P f args G L (fun v G' L'=>Gh.le G G' ∧ R v G' L')
section
variable {P : Program} {n : Nat} {D : List Deferred} {E : bw} {B : Base} {G : Gh} {L : List Own} {K : Act → World → Prop} {Q : Exit → Act → World → Prop}
theorem dZ {fo : Operand} {l : List Operand} {af : Array TypeId} {d : Nat} {ty : TypeId} {pos : String} {aft : Array Edge} {g : Option (Nat × Bool)} {f : FuncId} {fi ca az vs : List Value} {b : Nat} {cs : List Value} {T : TypeId} {R : List Own} {Post : Value → Gh → List Own → Prop}
  [hd : DelB L b cs T R] (hf : ev E fo = some (.func (.func f) fi.toArray ca.toArray)) (ha : evs E l = some az) (hv : fi ++ az ++ ca = vs) (hc : dw P f vs G [.blk b (.cells cs.toArray T (0,0))] Post) (hlt : Nat.blt d n = true)
  (k : ∀ v G' L',Gh.le G G' → Post v G' L' → Nx n D ((d,v) :: E) B G' (L' ++ R) K) : Nx n D E B G L (ow P ⟨some d,.call ⟨.value fo,l.toArray,af⟩,ty,pos,aft,g⟩ Q K) :=
 aa2 hf ha hv hc hlt fun v G' L' h=>k v G' L' h.1 h.2
theorem cG {f : FuncId} {fn : Func} {c : Code} {args : List Value} {R : Value → Gh → List Own → Prop} (E0 : bw) (hf : P.funcs[f]? = some fn) (hok : dW P f = true) (hn : fn.ntmps = n) (hb : fn.body = some c)
  (hlen : Nat.ble args.length n = true) (hE : gS E0 (params 0 args))
  (h : ∀ B,B.G = G → B.W = cd L → Nx n [] E0 B G L (cu P (.code c) [] (bp P fn (dE B (fun v G' L'=>Gh.le G G' ∧ R v G' L'))))) : dw P f args G L R:=t5 E0 hf hok hn hb hlen hE h
end
theorem PutsR.len {cs vs cs' : List Value} {o : Nat} (h : PutsR cs o vs cs') : cs'.length = cs.length:=by
 induction h with
 | nil=>rfl
 | here _ ih=>simp [ih]
 | there _ ih=>simp [ih]
class UpdA (b : Nat) (xs' : List Value) (L : List Own) (m cap : outParam Nat) (T0 : outParam TypeId) (sz : outParam Nat) (xs : outParam (List Value)) (L' : outParam (List Own)) : Prop where
 upd : UpdO (.acc (.slice (some ⟨b,0,none⟩) m cap) T0 sz m xs) (.acc (.slice (some ⟨b,0,none⟩) m cap) T0 sz m xs') L L'
instance {b m cap : Nat} {T0 : TypeId} {sz : Nat} {xs xs' : List Value} {r : List Own} : UpdA b xs' (.acc (.slice (some ⟨b,0,none⟩) m cap) T0 sz m xs :: r) m cap T0 sz xs (.acc (.slice (some ⟨b,0,none⟩) m cap) T0 sz m xs' :: r):=⟨.here⟩
instance {b m cap : Nat} {T0 : TypeId} {sz : Nat} {xs xs' : List Value} {z : Own} {r r' : List Own} [h : UpdA b xs' r m cap T0 sz xs r'] : UpdA b xs' (z :: r) m cap T0 sz xs (z :: r'):=⟨.there h.upd⟩
section
variable {P : Program} {n : Nat} {D : List Deferred} {E : bw} {B : Base} {G : Gh} {L : List Own} {K : Act → World → Prop} {Q : Exit → Act → World → Prop} {ty : TypeId} {pos : String} {aft : Array Edge} {gd : Option (Nat × Bool)} {dd : Nat}
end
section
variable {P : Program} {n : Nat} {D : List Deferred} {E : bw} {B : Base} {G : Gh} {L : List Own} {K : Act → World → Prop} {Q : Exit → Act → World → Prop} {ty : TypeId} {pos : String} {aft : Array Edge} {gd : Option (Nat × Bool)} {dd : Nat}
end
def wt (P : Program) (fn : Func) (R : Ending → World → Prop) : Exit → Act → World → Prop
 | .normal,a,w | .ret,a,w=>Leaves P fn a.tmps R a.defers .returning w
 | .outgrown,_,w=>R .outgrown w
 | _,_,_=>False
instance {P : Program} {fn : Func} {R : Ending → World → Prop} : PQ (wt P fn R):=⟨fun _ _ _ _ _ h=>h⟩
structure FnD (P : Program) (f : FuncId) (args : List Value) (G : Gh) (L : List Own) (Post : Value → Gh → List Own → Prop) : Prop where
 ok : dW P f = true
 go : ∀ w,St ⟨w,G,cd L⟩ G L w → CallsD P f args.toArray .returning w fun e u w'=>u = .returning ∧ dE ⟨w,G,cd L⟩ Post e w'
section
variable {P : Program} {n : Nat} {D : List Deferred} {E : bw} {B : Base} {G : Gh} {L : List Own} {K : Act → World → Prop} {Q : Exit → Act → World → Prop}
theorem cr {f : FuncId} {fn : Func} {c : Code} {args : List Value} {Post : Value → Gh → List Own → Prop} (E0 : bw) (hf : P.funcs[f]? = some fn) (hok : dW P f = true) (hn : fn.ntmps = n) (hb : fn.body = some c)
  (hlen : Nat.ble args.length n = true) (hE : gS E0 (params 0 args))
  (h : ∀ B,BOk B → B.G = G → B.W = cd L → Nx n [] E0 B G L (cu P (.code c) [] (wt P fn (dE B Post)))) : Fn P f args G L Post:=by
 refine ⟨hok,fun w hw=>calls_of_wp_defers hf hb ?_⟩
 rw [hn]
 have:=(h ⟨w,G,cd L⟩ ⟨hw.ok,fun b hb=>(hw.fresh b hb).1⟩ rfl rfl).go _ w ((iU args (by simpa using hlen)).sub hE) hw
 unfold cu at this
 dsimp only at this
 unfold kk cw at this
 refine wp_mono this fun e a' w' q=>?_
 cases e <;> first | exact q | exact q.elim
theorem yV {f : FuncId} {fn : Func} {c : Code} {args : List Value} {Post : Value → Gh → List Own → Prop} (E0 : bw) (hf : P.funcs[f]? = some fn) (hok : dW P f = true) (hn : fn.ntmps = n) (hb : fn.body = some c)
  (hlen : Nat.ble args.length n = true) (hE : gS E0 (params 0 args))
  (h : ∀ B,BOk B → B.G = G → B.W = cd L → Nx n [] E0 B G L (cu P (.code c) [] (bp P fn (dE B Post)))) : FnD P f args G L Post:=by
 refine ⟨hok,fun w hw=>callsD_of_wp hf hb ?_⟩
 rw [hn]
 have:=(h ⟨w,G,cd L⟩ ⟨hw.ok,fun b hb=>(hw.fresh b hb).1⟩ rfl rfl).go _ w ((iU args (by simpa using hlen)).sub hE) hw
 unfold cu at this
 dsimp only at this
 unfold kk cw bp at this
 exact this
def sh (f : FuncId) (fi ca az : List Value) : Deferred:=⟨.fn (.func f) ca.toArray,(fi ++ az).toArray⟩
theorem ct {fo : Operand} {l : List Operand} {af : Array TypeId} {ty : TypeId} {pos : String} {aft : Array Edge} {g : Option (Nat × Bool)} {f : FuncId} {fi ca az : List Value}
  (hf : ev E fo = some (.func (.func f) fi.toArray ca.toArray)) (ha : evs E l = some az)
  (k : Nx n (sh f fi ca az :: D) E B G L K) : Nx n D E B G L (ow P ⟨none,.defer ⟨.value fo,l.toArray,af⟩,ty,pos,aft,g⟩ Q K):=Nx.mk fun a w hs hw=>by
 unfold ow Oper.wp
 have h1 : l.toArray.map a.eval = az.toArray:=by rw [List.map_toArray,hs.evs ha]
 have : (execOp a.eval ⟨none,.defer ⟨.value fo,l.toArray,af⟩,ty,pos,aft,g⟩).run P w = .ok (.defer (sh f fi ca az)) w:=by
  simp only [execOp,resolve,hs.ev hf,h1,Deferred.ofValue,Sem.run_bind,Sem.run_pure,Result.andThen_ok,sh]
  simp
 rw [this,Oper.upon_defer]
 exact k.go _ w ⟨hs.size,by rw [show ({ a with defers:=sh f fi ca az :: a.defers } : Act).put none undef = { a with defers:=sh f fi ca az :: a.defers } from F];simp [hs.defers],hs.at'⟩ hw
theorem abF {e : Exit} {f : FuncId} {fi ca az xs : List Value} {Lp R : List Own} {PostD : Value → Gh → List Own → Prop} {fn : Func} {rs : List ResultVar} {Post : Value → Gh → List Own → Prop} (he : e = .ret ∨ e = .normal) (hv : fi ++ az ++ ca = xs) (hc : FnD P f xs G Lp PostD) (hL : L.Perm (Lp ++ R))
  (hr : fn.results = rs.toArray) (k : ∀ v G' L',PostD v G' L' → ∃ vs L'',iM P (St B G' (L' ++ R)) E rs vs ∧ L''.Sublist (L' ++ R) ∧ Post (eN vs) G' L'') :
  Nx n [sh f fi ca az] E B G L (cu P (.exit e) [] (wt P fn (dE B Post))):=Nx.mk fun a w hs hw=>by
 have hw':=hw.perm hL
 have main : Leaves P fn a.tmps (dE B Post) a.defers .returning w:=by
  rw [hs.defers]
  refine ⟨(fun h=>by cases h),Fn.func f,ca.toArray,f,xs.toArray,F,?_,?_⟩
  ·subst hv
   show (invoke (.fn (.func f) ca.toArray) (fi ++ az).toArray).run P w = _
   simp only [invoke]
   rw [mn hc.ok]
   simp
  ·intro c cs hu
   obtain ⟨e',u',w',fr,⟨h1,v,G',L',h2,h3,h4⟩,h5,h6,h7⟩:=hc.go w hw'.enter c cs hu
   subst h1 h2
   refine ⟨_,_,w',fr,?_,h5,h6,h7⟩
   obtain ⟨vs,L'',g1,g2,g3⟩:=k v G' L' h4
   have h8:=hw'.back h3
   exact ⟨eN vs,kD hs h8 hr g1,_,_,_,F,h8.weaken g2,g3⟩
 rcases he with rfl | rfl
 ·unfold cu;dsimp only;unfold kk;exact main
 ·unfold cu;dsimp only;unfold kk;exact main
end
attribute [irreducible] wt
section
variable {P : Program} {n : Nat} {D : List Deferred} {E : bw} {B : Base} {G : Gh} {L : List Own} {K : Act → World → Prop} {Q : Exit → Act → World → Prop} {ty : TypeId} {pos : String} {aft : Array Edge} {gd : Option (Nat × Bool)}
end
open Go.Proofs
abbrev bF : Value:=.bool false
abbrev u0 : Value:=.int .u8 0
noncomputable abbrev ac0 : Program:=Tryz.prog
instance ti2 : TI ac0 2 (.int .i64) 1 8 (.int .i64 0):=TI.mk' kR kR kR
instance ti3 : TI ac0 3 (.int .i64) 1 8 (.int .i64 0):=TI.mk' kR kR kR
instance ti4 : TI ac0 4 .bool 1 1 (.bool false):=TI.mk' kR kR kR
instance ti5 : TI ac0 5 (.int .u8) 1 1 (.int .u8 0):=TI.mk' kR kR kR
instance ti6 : TI ac0 6 (.int .u8) 1 1 (.int .u8 0):=TI.mk' kR kR kR
instance ti7 : TI ac0 7 (.struct (bO ac0 7)) 4 24 (Ag [(.int .i64 0),(.int .i64 0),(.bool false),(.int .u8 0)]):=TI.mk' kR kR kR
instance ti8 : TI ac0 8 (.struct (bO ac0 8)) 4 24 (Ag [(.int .i64 0),(.int .i64 0),(.bool false),(.int .u8 0)]):=TI.mk' kR kR kR
instance ti9 : TI ac0 9 .string 1 16 (S []):=TI.mk' kR kR kR
instance ti12 : TI ac0 12 (.int .u64) 1 8 (.int .u64 0):=TI.mk' kR kR kR
instance ti13 : TI ac0 13 (.struct (bO ac0 13)) 2 24 (Ag [(S []),(.int .u64 0)]):=TI.mk' kR kR kR
instance ti14 : TI ac0 14 (.struct (bO ac0 14)) 2 24 (Ag [(S []),(.int .u64 0)]):=TI.mk' kR kR kR
instance ti17 : TI ac0 17 (.pointer 242) 1 8 (.pointer none):=TI.mk' kR kR kR
instance ti18 : TI ac0 18 (.struct (bO ac0 18)) 1 8 (Ag [(.pointer none)]):=TI.mk' kR kR kR
instance ti19 : TI ac0 19 (.struct (bO ac0 19)) 1 8 (Ag [(.pointer none)]):=TI.mk' kR kR kR
instance ti25 : TI ac0 25 (.slice 116) 1 24 aJ:=TI.mk' kR kR kR
instance ti26 : TI ac0 26 (.struct (bO ac0 26)) 2 40 (Ag [(S []),aJ]):=TI.mk' kR kR kR
instance ti27 : TI ac0 27 (.struct (bO ac0 27)) 2 40 (Ag [(S []),aJ]):=TI.mk' kR kR kR
instance ti31 : TI ac0 31 (.slice 67) 1 24 aJ:=TI.mk' kR kR kR
instance ti32 : TI ac0 32 (.struct (bO ac0 32)) 2 40 (Ag [(S []),aJ]):=TI.mk' kR kR kR
instance ti33 : TI ac0 33 (.struct (bO ac0 33)) 2 40 (Ag [(S []),aJ]):=TI.mk' kR kR kR
instance ti41 : TI ac0 41 (.slice 122) 1 24 aJ:=TI.mk' kR kR kR
instance ti42 : TI ac0 42 (.pointer 94) 1 8 (.pointer none):=TI.mk' kR kR kR
instance ti45 : TI ac0 45 (.slice 3) 1 24 aJ:=TI.mk' kR kR kR
instance ti55 : TI ac0 55 (.slice 9) 1 24 aJ:=TI.mk' kR kR kR
instance ti66 : TI ac0 66 (.struct (bO ac0 66)) 3 48 (Ag [(S []),(S []),(S [])]):=TI.mk' kR kR kR
instance ti67 : TI ac0 67 (.struct (bO ac0 67)) 3 48 (Ag [(S []),(S []),(S [])]):=TI.mk' kR kR kR
instance ti73 : TI ac0 73 (.pointer 76) 1 8 (.pointer none):=TI.mk' kR kR kR
instance ti74 : TI ac0 74 (.pointer 155) 1 8 (.pointer none):=TI.mk' kR kR kR
instance ti75 : TI ac0 75 (.struct (bO ac0 75)) 5 64 (Ag [(.pointer none),(S []),(.bool false),aJ,(.int .i64 0)]):=TI.mk' kR kR kR
instance ti76 : TI ac0 76 (.struct (bO ac0 76)) 5 64 (Ag [(.pointer none),(S []),(.bool false),aJ,(.int .i64 0)]):=TI.mk' kR kR kR
instance ti85 : TI ac0 85 (.struct (bO ac0 85)) 1 24 (Ag [aJ]):=TI.mk' kR kR kR
instance ti86 : TI ac0 86 (.struct (bO ac0 86)) 1 24 (Ag [aJ]):=TI.mk' kR kR kR
instance ti92 : TI ac0 92 (.slice 42) 1 24 aJ:=TI.mk' kR kR kR
instance ti93 : TI ac0 93 (.struct (bO ac0 93)) 4 80 (Ag [(S []),(S []),aJ,aJ]):=TI.mk' kR kR kR
instance ti94 : TI ac0 94 (.struct (bO ac0 94)) 4 80 (Ag [(S []),(S []),aJ,aJ]):=TI.mk' kR kR kR
instance ti96 : TI ac0 96 (.slice 5) 1 24 aJ:=TI.mk' kR kR kR
instance ti98 : TI ac0 98 (.struct (bO ac0 98)) 3 48 (Ag [(S []),(S []),(S [])]):=TI.mk' kR kR kR
instance ti99 : TI ac0 99 (.struct (bO ac0 99)) 3 48 (Ag [(S []),(S []),(S [])]):=TI.mk' kR kR kR
instance ti102 : TI ac0 102 (.slice 104) 1 24 aJ:=TI.mk' kR kR kR
instance ti103 : TI ac0 103 (.struct (bO ac0 103)) 4 56 (Ag [(.int .u8 0),(S []),(.int .i64 0),aJ]):=TI.mk' kR kR kR
instance ti104 : TI ac0 104 (.struct (bO ac0 104)) 4 56 (Ag [(.int .u8 0),(S []),(.int .i64 0),aJ]):=TI.mk' kR kR kR
instance ti116 : TI ac0 116 (.struct (bO ac0 116)) 3 48 (Ag [(S []),(S []),(S [])]):=TI.mk' kR kR kR
instance ti120 : TI ac0 120 (.slice 128) 1 24 aJ:=TI.mk' kR kR kR
instance ti121 : TI ac0 121 (.struct (bO ac0 121)) 3 48 (Ag [(.int .u8 0),(S []),aJ]):=TI.mk' kR kR kR
instance ti122 : TI ac0 122 (.struct (bO ac0 122)) 3 48 (Ag [(.int .u8 0),(S []),aJ]):=TI.mk' kR kR kR
instance ti127 : TI ac0 127 (.struct (bO ac0 127)) 4 56 (Ag [(.int .i64 0),(S []),(S []),(S [])]):=TI.mk' kR kR kR
instance ti128 : TI ac0 128 (.struct (bO ac0 128)) 4 56 (Ag [(.int .i64 0),(S []),(S []),(S [])]):=TI.mk' kR kR kR
instance ti152 : TI ac0 152 (.map 9 157) 1 8 (.map none):=TI.mk' kR kR kR
instance ti153 : TI ac0 153 (.slice 157) 1 24 aJ:=TI.mk' kR kR kR
instance ti154 : TI ac0 154 (.struct (bO ac0 154)) 2 32 (Ag [aJ,(.map none)]):=TI.mk' kR kR kR
instance ti155 : TI ac0 155 (.struct (bO ac0 155)) 2 32 (Ag [aJ,(.map none)]):=TI.mk' kR kR kR
instance ti157 : TI ac0 157 (.pointer 162) 1 8 (.pointer none):=TI.mk' kR kR kR
instance ti160 : TI ac0 160 (.slice 164) 1 24 aJ:=TI.mk' kR kR kR
instance ti161 : TI ac0 161 (.struct (bO ac0 161)) 4 64 (Ag [(.int .u8 0),(S []),aJ,(S [])]):=TI.mk' kR kR kR
instance ti162 : TI ac0 162 (.struct (bO ac0 162)) 4 64 (Ag [(.int .u8 0),(S []),aJ,(S [])]):=TI.mk' kR kR kR
instance ti163 : TI ac0 163 (.struct (bO ac0 163)) 6 88 (Ag [(.int .i64 0),(S []),(S []),(S []),(S []),(S [])]):=TI.mk' kR kR kR
instance ti164 : TI ac0 164 (.struct (bO ac0 164)) 6 88 (Ag [(.int .i64 0),(S []),(S []),(S []),(S []),(S [])]):=TI.mk' kR kR kR
instance ti169 : TI ac0 169 (.pointer 164) 1 8 (.pointer none):=TI.mk' kR kR kR
instance ti173 : TI ac0 173 (.pointer 175) 1 8 (.pointer none):=TI.mk' kR kR kR
instance ti174 : TI ac0 174 (.struct (bO ac0 174)) 2 32 (Ag [(.pointer none),aJ]):=TI.mk' kR kR kR
instance ti175 : TI ac0 175 (.struct (bO ac0 175)) 2 32 (Ag [(.pointer none),aJ]):=TI.mk' kR kR kR
instance ti181 : TI ac0 181 (.pointer 183) 1 8 (.pointer none):=TI.mk' kR kR kR
instance ti182 : TI ac0 182 (.struct (bO ac0 182)) 3 32 (Ag [(.pointer none),(S []),(.bool false)]):=TI.mk' kR kR kR
instance ti183 : TI ac0 183 (.struct (bO ac0 183)) 3 32 (Ag [(.pointer none),(S []),(.bool false)]):=TI.mk' kR kR kR
instance ti189 : TI ac0 189 (.array 256 4) 256 256 (Ag [bF,bF,bF,bF,bF,bF,bF,bF,bF,bF,bF,bF,bF,bF,bF,bF,bF,bF,bF,bF,bF,bF,bF,bF,bF,bF,bF,bF,bF,bF,bF,bF,bF,bF,bF,bF,bF,bF,bF,bF,bF,bF,bF,bF,bF,bF,bF,bF,bF,bF,bF,bF,bF,bF,bF,bF,bF,bF,bF,bF,bF,bF,bF,bF,bF,bF,bF,bF,bF,bF,bF,bF,bF,bF,bF,bF,bF,bF,bF,bF,bF,bF,bF,bF,bF,bF,bF,bF,bF,bF,bF,bF,bF,bF,bF,bF,bF,bF,bF,bF,bF,bF,bF,bF,bF,bF,bF,bF,bF,bF,bF,bF,bF,bF,bF,bF,bF,bF,bF,bF,bF,bF,bF,bF,bF,bF,bF,bF,bF,bF,bF,bF,bF,bF,bF,bF,bF,bF,bF,bF,bF,bF,bF,bF,bF,bF,bF,bF,bF,bF,bF,bF,bF,bF,bF,bF,bF,bF,bF,bF,bF,bF,bF,bF,bF,bF,bF,bF,bF,bF,bF,bF,bF,bF,bF,bF,bF,bF,bF,bF,bF,bF,bF,bF,bF,bF,bF,bF,bF,bF,bF,bF,bF,bF,bF,bF,bF,bF,bF,bF,bF,bF,bF,bF,bF,bF,bF,bF,bF,bF,bF,bF,bF,bF,bF,bF,bF,bF,bF,bF,bF,bF,bF,bF,bF,bF,bF,bF,bF,bF,bF,bF,bF,bF,bF,bF,bF,bF,bF,bF,bF,bF,bF,bF,bF,bF,bF,bF,bF,bF,bF,bF,bF,bF,bF,(.bool false)]):=TI.mk' kR kR kR
instance ti193 : TI ac0 193 (.pointer 189) 1 8 (.pointer none):=TI.mk' kR kR kR
instance ti202 : TI ac0 202 (.pointer 5) 1 8 (.pointer none):=TI.mk' kR kR kR
instance ti224 : TI ac0 224 (.struct (bO ac0 224)) 2 2 (Ag [(.int .u8 0),(.int .u8 0)]):=TI.mk' kR kR kR
instance ti225 : TI ac0 225 (.struct (bO ac0 225)) 2 2 (Ag [(.int .u8 0),(.int .u8 0)]):=TI.mk' kR kR kR
instance ti231 : TI ac0 231 (.struct (bO ac0 231)) 4 40 (Ag [(.pointer none),(.pointer none),(.pointer none),(S [])]):=TI.mk' kR kR kR
instance ti232 : TI ac0 232 (.struct (bO ac0 232)) 4 40 (Ag [(.pointer none),(.pointer none),(.pointer none),(S [])]):=TI.mk' kR kR kR
instance fa7_0 : FA ac0 7 0 0:=FA.mk' kR ti2 rfl
instance fv7_0 : FV ac0 7 0 false 0 1:=FV.mk' kR ti2 rfl
instance fa7_1 : FA ac0 7 1 1:=FA.mk' kR ti3 rfl
instance fv7_1 : FV ac0 7 1 false 1 1:=FV.mk' kR ti3 rfl
instance fa7_2 : FA ac0 7 2 2:=FA.mk' kR ti4 rfl
instance fv7_2 : FV ac0 7 2 false 2 1:=FV.mk' kR ti4 rfl
instance fa7_3 : FA ac0 7 3 3:=FA.mk' kR ti6 rfl
instance fv7_3 : FV ac0 7 3 false 3 1:=FV.mk' kR ti6 rfl
instance fa8_0 : FA ac0 8 0 0:=FA.mk' kR ti2 rfl
instance fv8_0 : FV ac0 8 0 false 0 1:=FV.mk' kR ti2 rfl
instance fa8_1 : FA ac0 8 1 1:=FA.mk' kR ti3 rfl
instance fv8_1 : FV ac0 8 1 false 1 1:=FV.mk' kR ti3 rfl
instance fa8_2 : FA ac0 8 2 2:=FA.mk' kR ti4 rfl
instance fv8_2 : FV ac0 8 2 false 2 1:=FV.mk' kR ti4 rfl
instance fa8_3 : FA ac0 8 3 3:=FA.mk' kR ti6 rfl
instance fv8_3 : FV ac0 8 3 false 3 1:=FV.mk' kR ti6 rfl
instance fa13_0 : FA ac0 13 0 0:=FA.mk' kR ti9 rfl
instance fv13_0 : FV ac0 13 0 false 0 1:=FV.mk' kR ti9 rfl
instance fa13_1 : FA ac0 13 1 1:=FA.mk' kR ti12 rfl
instance fv13_1 : FV ac0 13 1 false 1 1:=FV.mk' kR ti12 rfl
instance fa14_0 : FA ac0 14 0 0:=FA.mk' kR ti9 rfl
instance fv14_0 : FV ac0 14 0 false 0 1:=FV.mk' kR ti9 rfl
instance fa14_1 : FA ac0 14 1 1:=FA.mk' kR ti12 rfl
instance fv14_1 : FV ac0 14 1 false 1 1:=FV.mk' kR ti12 rfl
instance fa18_0 : FA ac0 18 0 0:=FA.mk' kR ti17 rfl
instance fv18_0 : FV ac0 18 0 false 0 1:=FV.mk' kR ti17 rfl
instance fa19_0 : FA ac0 19 0 0:=FA.mk' kR ti17 rfl
instance fv19_0 : FV ac0 19 0 false 0 1:=FV.mk' kR ti17 rfl
instance fa26_0 : FA ac0 26 0 0:=FA.mk' kR ti9 rfl
instance fv26_0 : FV ac0 26 0 false 0 1:=FV.mk' kR ti9 rfl
instance fa26_1 : FA ac0 26 1 1:=FA.mk' kR ti25 rfl
instance fv26_1 : FV ac0 26 1 false 1 1:=FV.mk' kR ti25 rfl
instance fa27_0 : FA ac0 27 0 0:=FA.mk' kR ti9 rfl
instance fv27_0 : FV ac0 27 0 false 0 1:=FV.mk' kR ti9 rfl
instance fa27_1 : FA ac0 27 1 1:=FA.mk' kR ti25 rfl
instance fv27_1 : FV ac0 27 1 false 1 1:=FV.mk' kR ti25 rfl
instance fa32_0 : FA ac0 32 0 0:=FA.mk' kR ti9 rfl
instance fv32_0 : FV ac0 32 0 false 0 1:=FV.mk' kR ti9 rfl
instance fa32_1 : FA ac0 32 1 1:=FA.mk' kR ti31 rfl
instance fv32_1 : FV ac0 32 1 false 1 1:=FV.mk' kR ti31 rfl
instance fa33_0 : FA ac0 33 0 0:=FA.mk' kR ti9 rfl
instance fv33_0 : FV ac0 33 0 false 0 1:=FV.mk' kR ti9 rfl
instance fa33_1 : FA ac0 33 1 1:=FA.mk' kR ti31 rfl
instance fv33_1 : FV ac0 33 1 false 1 1:=FV.mk' kR ti31 rfl
instance fa66_0 : FA ac0 66 0 0:=FA.mk' kR ti9 rfl
instance fv66_0 : FV ac0 66 0 false 0 1:=FV.mk' kR ti9 rfl
instance fa66_1 : FA ac0 66 1 1:=FA.mk' kR ti9 rfl
instance fv66_1 : FV ac0 66 1 false 1 1:=FV.mk' kR ti9 rfl
instance fa66_2 : FA ac0 66 2 2:=FA.mk' kR ti9 rfl
instance fv66_2 : FV ac0 66 2 false 2 1:=FV.mk' kR ti9 rfl
instance fa67_0 : FA ac0 67 0 0:=FA.mk' kR ti9 rfl
instance fv67_0 : FV ac0 67 0 false 0 1:=FV.mk' kR ti9 rfl
instance fa67_1 : FA ac0 67 1 1:=FA.mk' kR ti9 rfl
instance fv67_1 : FV ac0 67 1 false 1 1:=FV.mk' kR ti9 rfl
instance fa67_2 : FA ac0 67 2 2:=FA.mk' kR ti9 rfl
instance fv67_2 : FV ac0 67 2 false 2 1:=FV.mk' kR ti9 rfl
instance fa75_0 : FA ac0 75 0 0:=FA.mk' kR ti74 rfl
instance fv75_0 : FV ac0 75 0 false 0 1:=FV.mk' kR ti74 rfl
instance fa75_1 : FA ac0 75 1 1:=FA.mk' kR ti9 rfl
instance fv75_1 : FV ac0 75 1 false 1 1:=FV.mk' kR ti9 rfl
instance fa75_2 : FA ac0 75 2 2:=FA.mk' kR ti4 rfl
instance fv75_2 : FV ac0 75 2 false 2 1:=FV.mk' kR ti4 rfl
instance fa75_3 : FA ac0 75 3 3:=FA.mk' kR ti45 rfl
instance fv75_3 : FV ac0 75 3 false 3 1:=FV.mk' kR ti45 rfl
instance fa75_4 : FA ac0 75 4 4:=FA.mk' kR ti3 rfl
instance fv75_4 : FV ac0 75 4 false 4 1:=FV.mk' kR ti3 rfl
instance fa76_0 : FA ac0 76 0 0:=FA.mk' kR ti74 rfl
instance fv76_0 : FV ac0 76 0 false 0 1:=FV.mk' kR ti74 rfl
instance fa76_1 : FA ac0 76 1 1:=FA.mk' kR ti9 rfl
instance fv76_1 : FV ac0 76 1 false 1 1:=FV.mk' kR ti9 rfl
instance fa76_2 : FA ac0 76 2 2:=FA.mk' kR ti4 rfl
instance fv76_2 : FV ac0 76 2 false 2 1:=FV.mk' kR ti4 rfl
instance fa76_3 : FA ac0 76 3 3:=FA.mk' kR ti45 rfl
instance fv76_3 : FV ac0 76 3 false 3 1:=FV.mk' kR ti45 rfl
instance fa76_4 : FA ac0 76 4 4:=FA.mk' kR ti3 rfl
instance fv76_4 : FV ac0 76 4 false 4 1:=FV.mk' kR ti3 rfl
instance : BT ac0 76 [(0,1),(1,1),(2,1),(3,1),(4,1)] [(.pointer none),(S []),(.bool false),aJ,(.int .i64 0)]:=BT.mk' [(74,0,1),(9,1,1),(4,2,1),(45,3,1),(3,4,1)] rfl kR kR rfl
instance fa85_0 : FA ac0 85 0 0:=FA.mk' kR ti41 rfl
instance fv85_0 : FV ac0 85 0 false 0 1:=FV.mk' kR ti41 rfl
instance fa86_0 : FA ac0 86 0 0:=FA.mk' kR ti41 rfl
instance fv86_0 : FV ac0 86 0 false 0 1:=FV.mk' kR ti41 rfl
instance : BT ac0 86 [(0,1)] [aJ]:=BT.mk' [(41,0,1)] rfl kR kR rfl
instance fa93_0 : FA ac0 93 0 0:=FA.mk' kR ti9 rfl
instance fv93_0 : FV ac0 93 0 false 0 1:=FV.mk' kR ti9 rfl
instance fa93_1 : FA ac0 93 1 1:=FA.mk' kR ti9 rfl
instance fv93_1 : FV ac0 93 1 false 1 1:=FV.mk' kR ti9 rfl
instance fa93_2 : FA ac0 93 2 2:=FA.mk' kR ti45 rfl
instance fv93_2 : FV ac0 93 2 false 2 1:=FV.mk' kR ti45 rfl
instance fa93_3 : FA ac0 93 3 3:=FA.mk' kR ti92 rfl
instance fv93_3 : FV ac0 93 3 false 3 1:=FV.mk' kR ti92 rfl
instance fa94_0 : FA ac0 94 0 0:=FA.mk' kR ti9 rfl
instance fv94_0 : FV ac0 94 0 false 0 1:=FV.mk' kR ti9 rfl
instance fa94_1 : FA ac0 94 1 1:=FA.mk' kR ti9 rfl
instance fv94_1 : FV ac0 94 1 false 1 1:=FV.mk' kR ti9 rfl
instance fa94_2 : FA ac0 94 2 2:=FA.mk' kR ti45 rfl
instance fv94_2 : FV ac0 94 2 false 2 1:=FV.mk' kR ti45 rfl
instance fa94_3 : FA ac0 94 3 3:=FA.mk' kR ti92 rfl
instance fv94_3 : FV ac0 94 3 false 3 1:=FV.mk' kR ti92 rfl
instance : BT ac0 94 [(0,1),(1,1),(2,1),(3,1)] [(S []),(S []),aJ,aJ]:=BT.mk' [(9,0,1),(9,1,1),(45,2,1),(92,3,1)] rfl kR kR rfl
instance fa98_0 : FA ac0 98 0 0:=FA.mk' kR ti9 rfl
instance fv98_0 : FV ac0 98 0 false 0 1:=FV.mk' kR ti9 rfl
instance fa98_1 : FA ac0 98 1 1:=FA.mk' kR ti9 rfl
instance fv98_1 : FV ac0 98 1 false 1 1:=FV.mk' kR ti9 rfl
instance fa98_2 : FA ac0 98 2 2:=FA.mk' kR ti9 rfl
instance fv98_2 : FV ac0 98 2 false 2 1:=FV.mk' kR ti9 rfl
instance fa99_0 : FA ac0 99 0 0:=FA.mk' kR ti9 rfl
instance fv99_0 : FV ac0 99 0 false 0 1:=FV.mk' kR ti9 rfl
instance fa99_1 : FA ac0 99 1 1:=FA.mk' kR ti9 rfl
instance fv99_1 : FV ac0 99 1 false 1 1:=FV.mk' kR ti9 rfl
instance fa99_2 : FA ac0 99 2 2:=FA.mk' kR ti9 rfl
instance fv99_2 : FV ac0 99 2 false 2 1:=FV.mk' kR ti9 rfl
instance : BT ac0 99 [(0,1),(1,1),(2,1)] [(S []),(S []),(S [])]:=BT.mk' [(9,0,1),(9,1,1),(9,2,1)] rfl kR kR rfl
instance fa103_0 : FA ac0 103 0 0:=FA.mk' kR ti5 rfl
instance fv103_0 : FV ac0 103 0 false 0 1:=FV.mk' kR ti5 rfl
instance fa103_1 : FA ac0 103 1 1:=FA.mk' kR ti9 rfl
instance fv103_1 : FV ac0 103 1 false 1 1:=FV.mk' kR ti9 rfl
instance fa103_2 : FA ac0 103 2 2:=FA.mk' kR ti3 rfl
instance fv103_2 : FV ac0 103 2 false 2 1:=FV.mk' kR ti3 rfl
instance fa103_3 : FA ac0 103 3 3:=FA.mk' kR ti102 rfl
instance fv103_3 : FV ac0 103 3 false 3 1:=FV.mk' kR ti102 rfl
instance fa104_0 : FA ac0 104 0 0:=FA.mk' kR ti5 rfl
instance fv104_0 : FV ac0 104 0 false 0 1:=FV.mk' kR ti5 rfl
instance fa104_1 : FA ac0 104 1 1:=FA.mk' kR ti9 rfl
instance fv104_1 : FV ac0 104 1 false 1 1:=FV.mk' kR ti9 rfl
instance fa104_2 : FA ac0 104 2 2:=FA.mk' kR ti3 rfl
instance fv104_2 : FV ac0 104 2 false 2 1:=FV.mk' kR ti3 rfl
instance fa104_3 : FA ac0 104 3 3:=FA.mk' kR ti102 rfl
instance fv104_3 : FV ac0 104 3 false 3 1:=FV.mk' kR ti102 rfl
instance : BT ac0 104 [(0,1),(1,1),(2,1),(3,1)] [(.int .u8 0),(S []),(.int .i64 0),aJ]:=BT.mk' [(5,0,1),(9,1,1),(3,2,1),(102,3,1)] rfl kR kR rfl
instance fa116_0 : FA ac0 116 0 0:=FA.mk' kR ti9 rfl
instance fv116_0 : FV ac0 116 0 false 0 1:=FV.mk' kR ti9 rfl
instance fa116_1 : FA ac0 116 1 1:=FA.mk' kR ti9 rfl
instance fv116_1 : FV ac0 116 1 false 1 1:=FV.mk' kR ti9 rfl
instance fa116_2 : FA ac0 116 2 2:=FA.mk' kR ti9 rfl
instance fv116_2 : FV ac0 116 2 false 2 1:=FV.mk' kR ti9 rfl
instance fa121_0 : FA ac0 121 0 0:=FA.mk' kR ti5 rfl
instance fv121_0 : FV ac0 121 0 false 0 1:=FV.mk' kR ti5 rfl
instance fa121_1 : FA ac0 121 1 1:=FA.mk' kR ti9 rfl
instance fv121_1 : FV ac0 121 1 false 1 1:=FV.mk' kR ti9 rfl
instance fa121_2 : FA ac0 121 2 2:=FA.mk' kR ti120 rfl
instance fv121_2 : FV ac0 121 2 false 2 1:=FV.mk' kR ti120 rfl
instance fa122_0 : FA ac0 122 0 0:=FA.mk' kR ti5 rfl
instance fv122_0 : FV ac0 122 0 false 0 1:=FV.mk' kR ti5 rfl
instance fa122_1 : FA ac0 122 1 1:=FA.mk' kR ti9 rfl
instance fv122_1 : FV ac0 122 1 false 1 1:=FV.mk' kR ti9 rfl
instance fa122_2 : FA ac0 122 2 2:=FA.mk' kR ti120 rfl
instance fv122_2 : FV ac0 122 2 false 2 1:=FV.mk' kR ti120 rfl
instance : BT ac0 122 [(0,1),(1,1),(2,1)] [(.int .u8 0),(S []),aJ]:=BT.mk' [(5,0,1),(9,1,1),(120,2,1)] rfl kR kR rfl
instance fa127_0 : FA ac0 127 0 0:=FA.mk' kR ti3 rfl
instance fv127_0 : FV ac0 127 0 false 0 1:=FV.mk' kR ti3 rfl
instance fa127_1 : FA ac0 127 1 1:=FA.mk' kR ti9 rfl
instance fv127_1 : FV ac0 127 1 false 1 1:=FV.mk' kR ti9 rfl
instance fa127_2 : FA ac0 127 2 2:=FA.mk' kR ti9 rfl
instance fv127_2 : FV ac0 127 2 false 2 1:=FV.mk' kR ti9 rfl
instance fa127_3 : FA ac0 127 3 3:=FA.mk' kR ti9 rfl
instance fv127_3 : FV ac0 127 3 false 3 1:=FV.mk' kR ti9 rfl
instance fa128_0 : FA ac0 128 0 0:=FA.mk' kR ti3 rfl
instance fv128_0 : FV ac0 128 0 false 0 1:=FV.mk' kR ti3 rfl
instance fa128_1 : FA ac0 128 1 1:=FA.mk' kR ti9 rfl
instance fv128_1 : FV ac0 128 1 false 1 1:=FV.mk' kR ti9 rfl
instance fa128_2 : FA ac0 128 2 2:=FA.mk' kR ti9 rfl
instance fv128_2 : FV ac0 128 2 false 2 1:=FV.mk' kR ti9 rfl
instance fa128_3 : FA ac0 128 3 3:=FA.mk' kR ti9 rfl
instance fv128_3 : FV ac0 128 3 false 3 1:=FV.mk' kR ti9 rfl
instance : BT ac0 128 [(0,1),(1,1),(2,1),(3,1)] [(.int .i64 0),(S []),(S []),(S [])]:=BT.mk' [(3,0,1),(9,1,1),(9,2,1),(9,3,1)] rfl kR kR rfl
instance fa154_0 : FA ac0 154 0 0:=FA.mk' kR ti153 rfl
instance fv154_0 : FV ac0 154 0 false 0 1:=FV.mk' kR ti153 rfl
instance fa154_1 : FA ac0 154 1 1:=FA.mk' kR ti152 rfl
instance fv154_1 : FV ac0 154 1 false 1 1:=FV.mk' kR ti152 rfl
instance fa155_0 : FA ac0 155 0 0:=FA.mk' kR ti153 rfl
instance fv155_0 : FV ac0 155 0 false 0 1:=FV.mk' kR ti153 rfl
instance fa155_1 : FA ac0 155 1 1:=FA.mk' kR ti152 rfl
instance fv155_1 : FV ac0 155 1 false 1 1:=FV.mk' kR ti152 rfl
instance : BT ac0 155 [(0,1),(1,1)] [aJ,(.map none)]:=BT.mk' [(153,0,1),(152,1,1)] rfl kR kR rfl
instance fa161_0 : FA ac0 161 0 0:=FA.mk' kR ti5 rfl
instance fv161_0 : FV ac0 161 0 false 0 1:=FV.mk' kR ti5 rfl
instance fa161_1 : FA ac0 161 1 1:=FA.mk' kR ti9 rfl
instance fv161_1 : FV ac0 161 1 false 1 1:=FV.mk' kR ti9 rfl
instance fa161_2 : FA ac0 161 2 2:=FA.mk' kR ti160 rfl
instance fv161_2 : FV ac0 161 2 false 2 1:=FV.mk' kR ti160 rfl
instance fa161_3 : FA ac0 161 3 3:=FA.mk' kR ti9 rfl
instance fv161_3 : FV ac0 161 3 false 3 1:=FV.mk' kR ti9 rfl
instance fa162_0 : FA ac0 162 0 0:=FA.mk' kR ti5 rfl
instance fv162_0 : FV ac0 162 0 false 0 1:=FV.mk' kR ti5 rfl
instance fa162_1 : FA ac0 162 1 1:=FA.mk' kR ti9 rfl
instance fv162_1 : FV ac0 162 1 false 1 1:=FV.mk' kR ti9 rfl
instance fa162_2 : FA ac0 162 2 2:=FA.mk' kR ti160 rfl
instance fv162_2 : FV ac0 162 2 false 2 1:=FV.mk' kR ti160 rfl
instance fa162_3 : FA ac0 162 3 3:=FA.mk' kR ti9 rfl
instance fv162_3 : FV ac0 162 3 false 3 1:=FV.mk' kR ti9 rfl
instance : BT ac0 162 [(0,1),(1,1),(2,1),(3,1)] [(.int .u8 0),(S []),aJ,(S [])]:=BT.mk' [(5,0,1),(9,1,1),(160,2,1),(9,3,1)] rfl kR kR rfl
instance fa163_0 : FA ac0 163 0 0:=FA.mk' kR ti3 rfl
instance fv163_0 : FV ac0 163 0 false 0 1:=FV.mk' kR ti3 rfl
instance fa163_1 : FA ac0 163 1 1:=FA.mk' kR ti9 rfl
instance fv163_1 : FV ac0 163 1 false 1 1:=FV.mk' kR ti9 rfl
instance fa163_2 : FA ac0 163 2 2:=FA.mk' kR ti99 rfl
instance fv163_2 : FV ac0 163 2 true 2 3:=FV.mk' kR ti99 rfl
instance fa163_3 : FA ac0 163 3 5:=FA.mk' kR ti9 rfl
instance fv163_3 : FV ac0 163 3 false 5 1:=FV.mk' kR ti9 rfl
instance fa164_0 : FA ac0 164 0 0:=FA.mk' kR ti3 rfl
instance fv164_0 : FV ac0 164 0 false 0 1:=FV.mk' kR ti3 rfl
instance fa164_1 : FA ac0 164 1 1:=FA.mk' kR ti9 rfl
instance fv164_1 : FV ac0 164 1 false 1 1:=FV.mk' kR ti9 rfl
instance fa164_2 : FA ac0 164 2 2:=FA.mk' kR ti99 rfl
instance fv164_2 : FV ac0 164 2 true 2 3:=FV.mk' kR ti99 rfl
instance fa164_3 : FA ac0 164 3 5:=FA.mk' kR ti9 rfl
instance fv164_3 : FV ac0 164 3 false 5 1:=FV.mk' kR ti9 rfl
instance : BT ac0 164 [(0,1),(1,1),(2,3),(5,1)] [(.int .i64 0),(S []),(S []),(S []),(S []),(S [])]:=BT.mk' [(3,0,1),(9,1,1),(99,2,3),(9,5,1)] rfl kR kR rfl
instance fa174_0 : FA ac0 174 0 0:=FA.mk' kR ti173 rfl
instance fv174_0 : FV ac0 174 0 false 0 1:=FV.mk' kR ti173 rfl
instance fa174_1 : FA ac0 174 1 1:=FA.mk' kR ti96 rfl
instance fv174_1 : FV ac0 174 1 false 1 1:=FV.mk' kR ti96 rfl
instance fa175_0 : FA ac0 175 0 0:=FA.mk' kR ti173 rfl
instance fv175_0 : FV ac0 175 0 false 0 1:=FV.mk' kR ti173 rfl
instance fa175_1 : FA ac0 175 1 1:=FA.mk' kR ti96 rfl
instance fv175_1 : FV ac0 175 1 false 1 1:=FV.mk' kR ti96 rfl
instance : BT ac0 175 [(0,1),(1,1)] [(.pointer none),aJ]:=BT.mk' [(173,0,1),(96,1,1)] rfl kR kR rfl
instance fa182_0 : FA ac0 182 0 0:=FA.mk' kR ti74 rfl
instance fv182_0 : FV ac0 182 0 false 0 1:=FV.mk' kR ti74 rfl
instance fa182_1 : FA ac0 182 1 1:=FA.mk' kR ti9 rfl
instance fv182_1 : FV ac0 182 1 false 1 1:=FV.mk' kR ti9 rfl
instance fa182_2 : FA ac0 182 2 2:=FA.mk' kR ti4 rfl
instance fv182_2 : FV ac0 182 2 false 2 1:=FV.mk' kR ti4 rfl
instance fa183_0 : FA ac0 183 0 0:=FA.mk' kR ti74 rfl
instance fv183_0 : FV ac0 183 0 false 0 1:=FV.mk' kR ti74 rfl
instance fa183_1 : FA ac0 183 1 1:=FA.mk' kR ti9 rfl
instance fv183_1 : FV ac0 183 1 false 1 1:=FV.mk' kR ti9 rfl
instance fa183_2 : FA ac0 183 2 2:=FA.mk' kR ti4 rfl
instance fv183_2 : FV ac0 183 2 false 2 1:=FV.mk' kR ti4 rfl
instance : BT ac0 183 [(0,1),(1,1),(2,1)] [(.pointer none),(S []),(.bool false)]:=BT.mk' [(74,0,1),(9,1,1),(4,2,1)] rfl kR kR rfl
instance fa224_0 : FA ac0 224 0 0:=FA.mk' kR ti5 rfl
instance fv224_0 : FV ac0 224 0 false 0 1:=FV.mk' kR ti5 rfl
instance fa224_1 : FA ac0 224 1 1:=FA.mk' kR ti5 rfl
instance fv224_1 : FV ac0 224 1 false 1 1:=FV.mk' kR ti5 rfl
instance fa225_0 : FA ac0 225 0 0:=FA.mk' kR ti5 rfl
instance fv225_0 : FV ac0 225 0 false 0 1:=FV.mk' kR ti5 rfl
instance fa225_1 : FA ac0 225 1 1:=FA.mk' kR ti5 rfl
instance fv225_1 : FV ac0 225 1 false 1 1:=FV.mk' kR ti5 rfl
instance fa231_0 : FA ac0 231 0 0:=FA.mk' kR ti17 rfl
instance fv231_0 : FV ac0 231 0 false 0 1:=FV.mk' kR ti17 rfl
instance fa231_1 : FA ac0 231 1 1:=FA.mk' kR ti17 rfl
instance fv231_1 : FV ac0 231 1 false 1 1:=FV.mk' kR ti17 rfl
instance fa231_2 : FA ac0 231 2 2:=FA.mk' kR ti17 rfl
instance fv231_2 : FV ac0 231 2 false 2 1:=FV.mk' kR ti17 rfl
instance fa231_3 : FA ac0 231 3 3:=FA.mk' kR ti9 rfl
instance fv231_3 : FV ac0 231 3 false 3 1:=FV.mk' kR ti9 rfl
instance fa232_0 : FA ac0 232 0 0:=FA.mk' kR ti17 rfl
instance fv232_0 : FV ac0 232 0 false 0 1:=FV.mk' kR ti17 rfl
instance fa232_1 : FA ac0 232 1 1:=FA.mk' kR ti17 rfl
instance fv232_1 : FV ac0 232 1 false 1 1:=FV.mk' kR ti17 rfl
instance fa232_2 : FA ac0 232 2 2:=FA.mk' kR ti17 rfl
instance fv232_2 : FV ac0 232 2 false 2 1:=FV.mk' kR ti17 rfl
instance fa232_3 : FA ac0 232 3 3:=FA.mk' kR ti9 rfl
instance fv232_3 : FV ac0 232 3 false 3 1:=FV.mk' kR ti9 rfl
def tb : Tbl:=⟨12,331283824645947061796868281389297221717653230664178554647801162742366304,16,3584,6440309458218909134506082027814768288134335060862653541089280,[(7,[(false,0,1),(false,1,1),(false,2,1),(false,3,1)]),(8,[(false,0,1),(false,1,1),(false,2,1),(false,3,1)]),(13,[(false,0,1),(false,1,1)]),(14,[(false,0,1),(false,1,1)]),(18,[(false,0,1)]),(19,[(false,0,1)]),(26,[(false,0,1),(false,1,1)]),(27,[(false,0,1),(false,1,1)]),(32,[(false,0,1),(false,1,1)]),(33,[(false,0,1),(false,1,1)]),(66,[(false,0,1),(false,1,1),(false,2,1)]),(67,[(false,0,1),(false,1,1),(false,2,1)]),(75,[(false,0,1),(false,1,1),(false,2,1),(false,3,1),(false,4,1)]),(76,[(false,0,1),(false,1,1),(false,2,1),(false,3,1),(false,4,1)]),(85,[(false,0,1)]),(86,[(false,0,1)]),(93,[(false,0,1),(false,1,1),(false,2,1),(false,3,1)]),(94,[(false,0,1),(false,1,1),(false,2,1),(false,3,1)]),(98,[(false,0,1),(false,1,1),(false,2,1)]),(99,[(false,0,1),(false,1,1),(false,2,1)]),(103,[(false,0,1),(false,1,1),(false,2,1),(false,3,1)]),(104,[(false,0,1),(false,1,1),(false,2,1),(false,3,1)]),(116,[(false,0,1),(false,1,1),(false,2,1)]),(121,[(false,0,1),(false,1,1),(false,2,1)]),(122,[(false,0,1),(false,1,1),(false,2,1)]),(127,[(false,0,1),(false,1,1),(false,2,1),(false,3,1)]),(128,[(false,0,1),(false,1,1),(false,2,1),(false,3,1)]),(154,[(false,0,1),(false,1,1)]),(155,[(false,0,1),(false,1,1)]),(161,[(false,0,1),(false,1,1),(false,2,1),(false,3,1)]),(162,[(false,0,1),(false,1,1),(false,2,1),(false,3,1)]),(163,[(false,0,1),(false,1,1),(true,2,3),(false,5,1)]),(164,[(false,0,1),(false,1,1),(true,2,3),(false,5,1)]),(174,[(false,0,1),(false,1,1)]),(175,[(false,0,1),(false,1,1)]),(182,[(false,0,1),(false,1,1),(false,2,1)]),(183,[(false,0,1),(false,1,1),(false,2,1)]),(224,[(false,0,1),(false,1,1)]),(225,[(false,0,1),(false,1,1)]),(231,[(false,0,1),(false,1,1),(false,2,1),(false,3,1)]),(232,[(false,0,1),(false,1,1),(false,2,1),(false,3,1)])]⟩
theorem acH : uH ac0 tb.fl:=⟨⟨⟨fv7_0,fa7_0⟩,⟨fv7_1,fa7_1⟩,⟨fv7_2,fa7_2⟩,⟨fv7_3,fa7_3⟩,trivial⟩,⟨⟨fv8_0,fa8_0⟩,⟨fv8_1,fa8_1⟩,⟨fv8_2,fa8_2⟩,⟨fv8_3,fa8_3⟩,trivial⟩,⟨⟨fv13_0,fa13_0⟩,⟨fv13_1,fa13_1⟩,trivial⟩,⟨⟨fv14_0,fa14_0⟩,⟨fv14_1,fa14_1⟩,trivial⟩,⟨⟨fv18_0,fa18_0⟩,trivial⟩,⟨⟨fv19_0,fa19_0⟩,trivial⟩,⟨⟨fv26_0,fa26_0⟩,⟨fv26_1,fa26_1⟩,trivial⟩,⟨⟨fv27_0,fa27_0⟩,⟨fv27_1,fa27_1⟩,trivial⟩,⟨⟨fv32_0,fa32_0⟩,⟨fv32_1,fa32_1⟩,trivial⟩,⟨⟨fv33_0,fa33_0⟩,⟨fv33_1,fa33_1⟩,trivial⟩,⟨⟨fv66_0,fa66_0⟩,⟨fv66_1,fa66_1⟩,⟨fv66_2,fa66_2⟩,trivial⟩,⟨⟨fv67_0,fa67_0⟩,⟨fv67_1,fa67_1⟩,⟨fv67_2,fa67_2⟩,trivial⟩,⟨⟨fv75_0,fa75_0⟩,⟨fv75_1,fa75_1⟩,⟨fv75_2,fa75_2⟩,⟨fv75_3,fa75_3⟩,⟨fv75_4,fa75_4⟩,trivial⟩,⟨⟨fv76_0,fa76_0⟩,⟨fv76_1,fa76_1⟩,⟨fv76_2,fa76_2⟩,⟨fv76_3,fa76_3⟩,⟨fv76_4,fa76_4⟩,trivial⟩,⟨⟨fv85_0,fa85_0⟩,trivial⟩,⟨⟨fv86_0,fa86_0⟩,trivial⟩,⟨⟨fv93_0,fa93_0⟩,⟨fv93_1,fa93_1⟩,⟨fv93_2,fa93_2⟩,⟨fv93_3,fa93_3⟩,trivial⟩,⟨⟨fv94_0,fa94_0⟩,⟨fv94_1,fa94_1⟩,⟨fv94_2,fa94_2⟩,⟨fv94_3,fa94_3⟩,trivial⟩,⟨⟨fv98_0,fa98_0⟩,⟨fv98_1,fa98_1⟩,⟨fv98_2,fa98_2⟩,trivial⟩,⟨⟨fv99_0,fa99_0⟩,⟨fv99_1,fa99_1⟩,⟨fv99_2,fa99_2⟩,trivial⟩,⟨⟨fv103_0,fa103_0⟩,⟨fv103_1,fa103_1⟩,⟨fv103_2,fa103_2⟩,⟨fv103_3,fa103_3⟩,trivial⟩,⟨⟨fv104_0,fa104_0⟩,⟨fv104_1,fa104_1⟩,⟨fv104_2,fa104_2⟩,⟨fv104_3,fa104_3⟩,trivial⟩,⟨⟨fv116_0,fa116_0⟩,⟨fv116_1,fa116_1⟩,⟨fv116_2,fa116_2⟩,trivial⟩,⟨⟨fv121_0,fa121_0⟩,⟨fv121_1,fa121_1⟩,⟨fv121_2,fa121_2⟩,trivial⟩,⟨⟨fv122_0,fa122_0⟩,⟨fv122_1,fa122_1⟩,⟨fv122_2,fa122_2⟩,trivial⟩,⟨⟨fv127_0,fa127_0⟩,⟨fv127_1,fa127_1⟩,⟨fv127_2,fa127_2⟩,⟨fv127_3,fa127_3⟩,trivial⟩,⟨⟨fv128_0,fa128_0⟩,⟨fv128_1,fa128_1⟩,⟨fv128_2,fa128_2⟩,⟨fv128_3,fa128_3⟩,trivial⟩,⟨⟨fv154_0,fa154_0⟩,⟨fv154_1,fa154_1⟩,trivial⟩,⟨⟨fv155_0,fa155_0⟩,⟨fv155_1,fa155_1⟩,trivial⟩,⟨⟨fv161_0,fa161_0⟩,⟨fv161_1,fa161_1⟩,⟨fv161_2,fa161_2⟩,⟨fv161_3,fa161_3⟩,trivial⟩,⟨⟨fv162_0,fa162_0⟩,⟨fv162_1,fa162_1⟩,⟨fv162_2,fa162_2⟩,⟨fv162_3,fa162_3⟩,trivial⟩,⟨⟨fv163_0,fa163_0⟩,⟨fv163_1,fa163_1⟩,⟨fv163_2,fa163_2⟩,⟨fv163_3,fa163_3⟩,trivial⟩,⟨⟨fv164_0,fa164_0⟩,⟨fv164_1,fa164_1⟩,⟨fv164_2,fa164_2⟩,⟨fv164_3,fa164_3⟩,trivial⟩,⟨⟨fv174_0,fa174_0⟩,⟨fv174_1,fa174_1⟩,trivial⟩,⟨⟨fv175_0,fa175_0⟩,⟨fv175_1,fa175_1⟩,trivial⟩,⟨⟨fv182_0,fa182_0⟩,⟨fv182_1,fa182_1⟩,⟨fv182_2,fa182_2⟩,trivial⟩,⟨⟨fv183_0,fa183_0⟩,⟨fv183_1,fa183_1⟩,⟨fv183_2,fa183_2⟩,trivial⟩,⟨⟨fv224_0,fa224_0⟩,⟨fv224_1,fa224_1⟩,trivial⟩,⟨⟨fv225_0,fa225_0⟩,⟨fv225_1,fa225_1⟩,trivial⟩,⟨⟨fv231_0,fa231_0⟩,⟨fv231_1,fa231_1⟩,⟨fv231_2,fa231_2⟩,⟨fv231_3,fa231_3⟩,trivial⟩,⟨⟨fv232_0,fa232_0⟩,⟨fv232_1,fa232_1⟩,⟨fv232_2,fa232_2⟩,⟨fv232_3,fa232_3⟩,trivial⟩,trivial⟩
instance : Tab ac0 tb:=Tab.mk' 243 kR kR kR kR kR acH
theorem ah : ac0.follows .mixedOrders = true:=by kernel_rfl
section
variable {n : Nat} {D : List Deferred} {E : bw} {B : Base} {G : Gh} {L : List Own} {k : List Fr} {Q : Exit → Act → World → Prop} {K : Act → World → Prop}
theorem jT [PQ Q] {ops : List Oper} {G0 : Gh} {L0 : List Own} (fuel : Nat) (is : List Nat) {E' : bw} {p' : List Prop} {fuel' : Nat} {listed : Array Bool} (listed' : Array Bool) (hn : Nx n D E' B G L (xA ac0 ops.toArray Q (b5 B G0 L0) fuel listed'))
    (hf : Nat.beq (fuel + is.length) fuel' = true:=by exact F) (h : iT tb n ops is E [] = some (E',p'):=by exact F) (hsel : Region.noSelect ops.toArray = true:=by kernel_rfl) (hb : nX ops.toArray is listed listed' = true:=by kernel_rfl)
    (hG : Gh.le G0 G:=by first | exact Gh.le.refl _ | assumption) (hL : L0.Sublist L:=by repeat (first | exact List.Sublist.refl _ | exact List.nil_sublist _ | apply List.Sublist.cons_cons | apply List.Sublist.cons)) (hp : iO p':=by exact trivial) : Nx n D E B G L (xA ac0 ops.toArray Q (b5 B G0 L0) fuel' listed):=xB is listed' hsel hb hf h hG hL hp hn
theorem jN {ops : List Oper} {G0 : Gh} {L0 : List Own} {fuel : Nat} {listed : Array Bool} (listed' : Array Bool) [PQ Q] (i : Nat) {o : Oper} {d : Nat} (hi : ops.toArray[i]? = some o)
    (k : Nx n D ((d,undef) :: E) B G L (xA ac0 ops.toArray Q (b5 B G0 L0) fuel listed')) (hb : nr ops.toArray listed i listed' = true:=by kernel_rfl) (hgu : rW E ops o = some false:=by exact F) (hG : Gh.le G0 G:=by first | exact Gh.le.refl _ | assumption) (hL : L0.Sublist L:=by repeat (first | exact List.Sublist.refl _ | exact List.nil_sublist _ | apply List.Sublist.cons_cons | apply List.Sublist.cons)) (hd : o.dst = some d:=by exact F) (hlt : Nat.blt d n = true:=by exact F) :
    Nx n D E B G L (xA ac0 ops.toArray Q (b5 B G0 L0) (fuel + 1) listed):=xC listed' i hi hb hgu hG hL hd hlt k
theorem jG {ops : List Oper} {G0 : Gh} {L0 : List Own} {fuel : Nat} {listed : Array Bool} (listed' : Array Bool) [PQ Q] (i : Nat) {o : Oper} {d : Nat} {v : Value} (hi : ops.toArray[i]? = some o) (hg : Gives ac0 n D E (b5 B G0 L0) o v)
    (k : Nx n D ((d,v) :: E) B G L (xA ac0 ops.toArray Q (b5 B G0 L0) fuel listed')) (hb : nr ops.toArray listed i listed' = true:=by kernel_rfl) (hgu : rW E ops o = some true:=by exact F) (hG : Gh.le G0 G:=by first | exact Gh.le.refl _ | assumption) (hL : L0.Sublist L:=by repeat (first | exact List.Sublist.refl _ | exact List.nil_sublist _ | apply List.Sublist.cons_cons | apply List.Sublist.cons)) (hd : o.dst = some d:=by exact F) (hlt : Nat.blt d n = true:=by exact F) :
    Nx n D E B G L (xA ac0 ops.toArray Q (b5 B G0 L0) (fuel + 1) listed):=uf listed' i hi hb hgu hG hL hg hd hlt k
theorem jV {o : Oper} {d : Nat} {v : Value} (hg : Gives ac0 n D E (St B G L) o v) (k : Nx n D ((d,v) :: E) B G L K) (hd : o.dst = some d:=by exact F) (hlt : Nat.blt d n = true:=by exact F) : Nx n D E B G L (ow ac0 o Q K):=k6 hg hd hlt k
theorem jR {E' : bw} {c c' : Cu} {k k' : List Fr} {p' : List Prop} (hn : Nx n D E' B G L (cu ac0 c' k' Q)) (h : rA tb n 400 E c k = some ⟨E',c',k',p'⟩:=by exact F) (hp : iO p':=by exact trivial) : Nx n D E B G L (cu ac0 c k Q):=run 400 h hp hn
theorem jM {E' : bw} {c c' : Cu} {k k' : List Fr} {p' : List Prop} (hn : Nx n D E' B G L (cu ac0 c' k' Q)) (h : rA tb n 400 E c k = some ⟨E',c',k',p'⟩:=by exact F) (hp : iO p':=by (repeat' (first | exact trivial | apply And.intro | omega));done) : Nx n D E B G L (cu ac0 c k Q):=run 400 h hp hn
theorem jE {f : FuncId} {fn : Func} {c : Code} {args : List Value} {R : Value → Prop} (E0 : bw) (hf : ac0.funcs[f]? = some fn) (hn : fn.ntmps = n)
    (h : ∀ B,B.W = [] → Nx n [] E0 B G [] (cu ac0 (.code c) [] (bp ac0 fn (dE B (fun v G' L'=>G' = G ∧ L' = [] ∧ R v))))) (hb : fn.body = some c:=by exact F) (hok : dW ac0 f = true:=by kernel_rfl) (hlen : Nat.ble args.length n = true:=by exact F) (hE : gS E0 (params 0 args):=by repeat' constructor) : aC ac0 f args G R:=yq E0 hf hok hn hb hlen hE h
theorem jB {f : FuncId} {fn : Func} {c : Code} {args : List Value} {Post : Value → Gh → List Own → Prop} (E0 : bw) (hf : ac0.funcs[f]? = some fn) (hn : fn.ntmps = n)
    (h : ∀ B,BOk B → B.G = G → B.W = cd L → Nx n [] E0 B G L (cu ac0 (.code c) [] (bp ac0 fn (dE B Post)))) (hb : fn.body = some c:=by exact F) (hok : dW ac0 f = true:=by kernel_rfl) (hlen : Nat.ble args.length n = true:=by exact F) (hE : gS E0 (params 0 args):=by repeat' constructor) : Fn ac0 f args G L Post:=zD E0 hf hok hn hb hlen hE h
theorem jH {f : FuncId} {fn : Func} {c : Code} {args : List Value} {R : Value → List Own → Prop} (E0 : bw) (hf : ac0.funcs[f]? = some fn) (hn : fn.ntmps = n)
    (h : ∀ B,B.G = G → B.W = cd L → Nx n [] E0 B G L (cu ac0 (.code c) [] (bp ac0 fn (dE B (fun v G' L'=>G' = G ∧ R v L'))))) (hb : fn.body = some c:=by exact F) (hok : dW ac0 f = true:=by kernel_rfl) (hlen : Nat.ble args.length n = true:=by exact F) (hE : gS E0 (params 0 args):=by repeat' constructor) : c8 ac0 f args G L R:=yE E0 hf hok hn hb hlen hE h
theorem jK {ops : Array Oper} {G0 : Gh} {L0 : List Own} {fuel : Nat} {listed : Array Bool} (listed' : Array Bool) (h : Nx n D E B G L (xA ac0 ops Q (b5 B G0 L0) fuel listed')) (hG : Gh.le G0 G:=by first | exact Gh.le.refl _ | assumption) (hL : L0.Sublist L:=by repeat (first | exact List.Sublist.refl _ | exact List.nil_sublist _ | apply List.Sublist.cons_cons | apply List.Sublist.cons)) (hl : (listed == listed') = true:=by kernel_rfl) : Nx n D E B G L (xK ac0 ops Q (b5 B G0 L0) fuel listed):=acG hG hL hl h
theorem jS {ops : Array Oper} {G0 : Gh} {L0 : List Own} {fuel : Nat} {listed : Array Bool} (listed' : Array Bool) (h : Nx n D E B G L (xA ac0 ops Q (b5 B G L) fuel listed')) (hG : Gh.le G0 G:=by first | exact Gh.le.refl _ | assumption) (hL : L0.Sublist L:=by repeat (first | exact List.Sublist.refl _ | exact List.nil_sublist _ | apply List.Sublist.cons_cons | apply List.Sublist.cons)) (hl : (listed == listed') = true:=by kernel_rfl) : Nx n D E B G L (xK ac0 ops Q (b5 B G0 L0) fuel listed):=acF hG hL hl h
theorem jA {ops : List Oper} {S : World → Prop} {fuel : Nat} {listed : Array Bool} (i : Nat) {o : Oper} (hi : ops.toArray[i]? = some o) (h : Nx n D E B G L (ow ac0 o Q (xK ac0 ops.toArray Q S fuel (listed.setIfInBounds i true)))) (hr : Region.ready .any ops.toArray listed = [i]:=by kernel_rfl) (hgu : rW E ops o = some true:=by exact F) : Nx n D E B G L (xA ac0 ops.toArray Q S (fuel + 1) listed) :=
  dN [i] hr (by simp) ⟨b6 hi hgu h,trivial⟩
theorem jZ {fn : Func} {rs : List ResultVar} {vs : List Value} {v : Value} {L' : List Own} {Post : Value → Gh → List Own → Prop} (hr : fn.results = rs.toArray) (h : iM ac0 (St B G L) E rs vs) (hv : eN vs = v) (hP : Post v G L')
    (hL : L'.Sublist L:=by exact List.nil_sublist _) : Nx n [] E B G L (cu ac0 (.exit .ret) [] (bp ac0 fn (dE B Post))):=bh hr h hv hL hP
theorem jX {E' : bw} {c c' : Cu} {k k' : List Fr} {p' : List Prop} (hn : Nx n D E' B G L (cu ac0 c' k' Q)) (h : rA tb n 400 E c k = some ⟨E',c',k',p'⟩:=by exact F) (hp : iO p':=by (repeat' (first | exact trivial | apply And.intro | omega | assumption | (simp only [List.length_append,List.length_cons,List.length_nil,Int.toNat_natCast];omega) | (simp only [List.length_append,List.length_cons,List.length_nil,List.length_take,List.length_drop];omega) | (with_reducible exact (rn _ _).1) | (with_reducible exact (rn _ _).2)));done) : Nx n D E B G L (cu ac0 c k Q):=run 400 h hp hn
theorem jW [PQ Q] {ops : List Oper} {G0 : Gh} {L0 : List Own} (fuel : Nat) (is : List Nat) {E' : bw} {p' : List Prop} {fuel' : Nat} {listed : Array Bool} (listed' : Array Bool) (hn : Nx n D E' B G L (xA ac0 ops.toArray Q (b5 B G0 L0) fuel listed'))
    (hf : Nat.beq (fuel + is.length) fuel' = true:=by exact F) (h : iT tb n ops is E [] = some (E',p'):=by exact F) (hsel : Region.noSelect ops.toArray = true:=by kernel_rfl) (hb : nX ops.toArray is listed listed' = true:=by kernel_rfl)
    (hG : Gh.le G0 G:=by first | exact Gh.le.refl _ | assumption) (hL : L0.Sublist L:=by repeat (first | exact List.Sublist.refl _ | exact List.nil_sublist _ | apply List.Sublist.cons_cons | apply List.Sublist.cons)) (hp : iO p':=by (repeat' (first | exact trivial | apply And.intro | omega | assumption | (simp only [List.length_append,List.length_cons,List.length_nil,Int.toNat_natCast];omega) | (simp only [List.length_append,List.length_cons,List.length_nil,List.length_take,List.length_drop];omega) | (with_reducible exact (rn _ _).1) | (with_reducible exact (rn _ _).2)));done) : Nx n D E B G L (xA ac0 ops.toArray Q (b5 B G0 L0) fuel' listed):=xB is listed' hsel hb hf h hG hL hp hn
section
variable {d : Nat} {ty : TypeId} {pos : String} {aft : Array Edge} {gd : Option (Nat × Bool)} {K2 : Act → World → Prop}
theorem ak {T T0 : TypeId} {x : Operand} {desc : TypeDesc} {size bytes : Nat} {zero : Value} {b o : Nat} {v : Value} {cs : List Value} {fr : Nat × Nat} [TI ac0 T desc size bytes zero] [BlkI L b cs T0 fr] (hx : ev E x = some (Pt b o)) (k : Nx n D ((d,v) :: E) B G L K)
    (ha : dD desc = false:=by exact F) (hc : cs[o]? = some v:=by exact F) (hlt : Nat.blt d n = true:=by exact F) : Nx n D E B G L (ow ac0 ⟨some d,.load T x,ty,pos,aft,gd⟩ Q K):=k6 (aD hx ha hc) F hlt k
theorem aN {T T0 : TypeId} {x : Operand} {desc : TypeDesc} {size bytes : Nat} {zero : Value} {b o : Nat} {vs : List Value} {cs : List Value} {fr : Nat × Nat} [TI ac0 T desc size bytes zero] [BlkI L b cs T0 fr] (hx : ev E x = some (Pt b o)) (k : Nx n D ((d,Ag vs) :: E) B G L K)
    (ha : dD desc = true:=by exact F) (hc : ld cs o size = some vs:=by exact F) (hl : Nat.beq vs.length size = true:=by exact F) (hlt : Nat.blt d n = true:=by exact F) : Nx n D E B G L (ow ac0 ⟨some d,.load T x,ty,pos,aft,gd⟩ Q K):=k6 (bo hx ha hc hl) F hlt k
theorem aH {c x y : Operand} {b : Bool} {v : Value} (hc : ev E c = some (.bool b)) (k : Nx n D ((d,v) :: E) B G L K) (hx : ev E x = some v:=by exact F) (hb : b = true:=by exact F) (hlt : Nat.blt d n = true:=by exact F) : Nx n D E B G L (ow ac0 ⟨some d,.pick c x y,ty,pos,aft,gd⟩ Q K):=k6 (bD hc hx hb) F hlt k
theorem aw {c x y : Operand} {b : Bool} {v : Value} (hc : ev E c = some (.bool b)) (k : Nx n D ((d,v) :: E) B G L K) (hy : ev E y = some v:=by exact F) (hb : b = false:=by exact F) (hlt : Nat.blt d n = true:=by exact F) : Nx n D E B G L (ow ac0 ⟨some d,.pick c x y,ty,pos,aft,gd⟩ Q K):=k6 (bc hc hy hb) F hlt k
theorem jC {T T0 : TypeId} {x y : Operand} {desc : TypeDesc} {size bytes : Nat} {zero : Value} {b o : Nat} {cs vs cs' : List Value} {fr : Nat × Nat} {L' : List Own} [TI ac0 T desc size bytes zero] [BlkI L b cs T0 fr] [hu : UpdI b cs' L cs T0 L'] (hx : ev E x = some (Pt b o)) (hy : ev E y = some (Ag vs)) (hp : gy cs o vs = some cs') (k : Nx n D E B G L' K)
    (hl : Nat.beq vs.length size = true:=by exact F) (hne : vs.isEmpty = false:=by exact F) (h1 : gG vs = true:=by exact F) : Nx n D E B G L (ow ac0 ⟨none,.store T x y,ty,pos,aft,gd⟩ Q K):=ab7 hx hy hl hne h1 hp k
theorem jD {T T0 : TypeId} {x y : Operand} {desc : TypeDesc} {bytes : Nat} {zero v : Value} {b o : Nat} {cs cs' : List Value} {fr : Nat × Nat} {L' : List Own} [TI ac0 T desc 1 bytes zero] [BlkI L b cs T0 fr] [hu : UpdI b cs' L cs T0 L'] (hx : ev E x = some (Pt b o)) (hy : ev E y = some v) (hp : gy cs o [v] = some cs') (k : Nx n D E B G L' K) (h1 : v.oneCell' = true:=by exact F) : Nx n D E B G L (ow ac0 ⟨none,.store T x y,ty,pos,aft,gd⟩ Q K):=ab8 hx hy h1 hp k
end
theorem jY {fn : Func} {rs : List ResultVar} {vs : List Value} {R : Value → Prop} (hP : R (eN vs)) (hr : fn.results = rs.toArray:=by exact F) (h : iM ac0 (St B G L) E rs vs:=by repeat' (first | exact trivial | refine ⟨F,?_⟩)) : Nx n [] E B G L (cu ac0 (.exit .ret) [] (bp ac0 fn (dE B (fun v G' L'=>G' = G ∧ L' = [] ∧ R v)))):=bh hr h F (List.nil_sublist _) ⟨F,F,hP⟩
theorem jo {a l : List Oper} {i : Nat} {pm : List Nat} {o : Oper} (h : Nx n D E B G L (ow ac0 o (kk ac0 k Q) (cu ac0 (.ops a l (i + 1) pm) k Q))) (hg : nK E a pm o = some true:=by exact F) : Nx n D E B G L (cu ac0 (.ops a (o :: l) i pm) k Q):=uB hg h
section
variable {d : Nat} {ty : TypeId} {pos : String} {aft : Array Edge} {gd : Option (Nat × Bool)}
theorem jF {T el : TypeId} {len : Nat} {ps : List (Nat × Operand)} {qs : List (Nat × List Value)} {desc : TypeDesc} {size bytes size' bytes' : Nat} {zero zero' : Value} {zs cs : List Value} [TI ac0 T (.slice el) size' bytes' zero'] [TI ac0 el desc size bytes zero] (k : ∀ b,Nx n D ((d,.slice (some ⟨b,0,none⟩) len len) :: E) B G (.blk b (.cells cs.toArray el (0,0)) :: L) K) (hz : eT zero = some zs:=by exact F)
    (hsz : Nat.beq zs.length size = true:=by exact F) (he : qX E ps = some qs:=by exact F) (hf : pB (iW (pK size) (bN zs len) qs) = some cs:=by exact F) (hsm : Nat.ble (len * size) 16777216 = true:=by exact F) (hlt : Nat.blt d n = true:=by exact F) : Nx n D E B G L (ow ac0 ⟨some d,.buildSlice T len ps.toArray,ty,pos,aft,gd⟩ Q K):=aci hz hsz hsm hlt he hf k
theorem jL {T : TypeId} {desc : TypeDesc} {size bytes : Nat} {zero : Value} {cs : List Value} [TI ac0 T desc size bytes zero] (k : ∀ b,Nx n D ((d,Pt b 0) :: E) B G (.blk b (.cells cs.toArray T (0,0)) :: L) K) (hz : eT zero = some cs:=by exact F) (hlt : Nat.blt d n = true:=by exact F) : Nx n D E B G L (ow ac0 ⟨some d,.alloc T,ty,pos,aft,gd⟩ Q K):=acR hz hlt k
theorem jO {T : TypeId} {x : Operand} {v : Value} {cs : List Value} (k : ∀ b,Nx n D ((d,Pt b 0) :: E) B G (.blk b (.cells cs.toArray T (0,0)) :: L) K) (hx : ev E x = some v:=by exact F) (hz : eT v = some cs:=by exact F) (hlt : Nat.blt d n = true:=by exact F) : Nx n D E B G L (ow ac0 ⟨some d,.box T x,ty,pos,aft,gd⟩ Q K):=acQ hx hz hlt k
end
theorem jQ {ops : Array Oper} {S : World → Prop} {fuel : Nat} {listed : Array Bool} (h : Nx n D E B G L (cu ac0 (.exit .normal) k Q)) (hr : Region.ready .any ops listed = []:=by kernel_rfl) : Nx n D E B G L (xA ac0 ops (kk ac0 k Q) S fuel listed):=zI hr (acO h)
theorem zA {α : Type _} {a : α} {l m : List α} : a :: l ++ m = a :: (l ++ m):=rfl
theorem fA {α : Type _} {l : List α} : [] ++ l = l:=rfl
end
set_option maxRecDepth 20000
set_option maxHeartbeats 2000000
theorem wB (l : ac1) (c : UInt8) : cz (l ++ [c]) = cz l ++ [U8 c.toNat]:=by simp [cz]
def num (n : Nat) : ac1:=if h : n < 128 then [u8 n] else u8 (128 + n % 128 : Nat) :: num (n / 128)
termination_by n
decreasing_by omega
theorem rN {n : Nat} (h : n < 128) : num n = [u8 n]:=by rw [num];simp [h]
theorem vu {n : Nat} (h : ¬ n < 128) : num n = u8 (128 + n % 128 : Nat) :: num (n / 128):=by rw [num];simp [h]
def a7 (n : Int) : ac1:=num n.toNat
theorem fy {n : Int} (h : n < 128) (h0 : 0 ≤ n) : a7 n = [u8 n]:=by
 unfold a7;rw [rN oM,Int.toNat_of_nonneg h0]
theorem ig {n : Int} (h : ¬ n < 128) : a7 n = u8 (128 + n % 128) :: a7 (n / 128):=by
 unfold a7;rw [vu oM]
 congr 2
 ·omega
 ·omega
theorem nb (n : Nat) : ∀ k,n < 128 ^ (k + 1) → (num n).length ≤ k + 1:=by
 intro k
 induction k generalizing n with
 | zero=>intro h;rw [rN (by simpa using h)];simp
 | succ k ih =>
  intro h
  by_cases h1 : n < 128
  ·rw [rN h1];simp
  ·rw [vu h1]
   have:=ih (n / 128) (Nat.div_lt_of_lt_mul (by rw [Nat.pow_succ] at h;omega))
   simp;omega
theorem wS (n : Nat) (h : n ≤ 9223372036854775807) : (num n).length ≤ 9:=nb n 8 oM
theorem wT (n : Int) (h : n ≤ 9223372036854775807) : (a7 n).length ≤ 9:=wS _ oM
def pQ (n : Int) : ac1 → Int
 | []=>n
 | c :: l=>pQ ((n * 31 + (c.toNat : Int)) % 9973) l
def dy (l : ac1) : Int:=pQ 1 l
theorem uk (l : ac1) : ∀ n : Int,0 ≤ n → n < 9973 → 0 ≤ pQ n l ∧ pQ n l < 9973:=by
 induction l with
 | nil=>intro n h1 h2;exact ⟨h1,h2⟩
 | cons c l ih=>intro n h1 h2;exact ih _ (Int.emod_nonneg _ dC) (Int.emod_lt_of_pos _ dC)
theorem e9 (l : ac1) : 0 ≤ dy l ∧ dy l < 9973:=uk l 1 dC dC
theorem f7 {l : ac1} {i : Nat} (h : i < l.length) : ∃ c : UInt8,l.drop i = c :: l.drop (i + 1) ∧ bt l i = c.toNat:=by
 refine ⟨l[i],(List.getElem_cons_drop (h:=h)).symm,?_⟩
 simp [bt,List.getD,List.getElem?_eq_getElem h]
def frame (s : ac1) : ac1:=[u8 126] ++ a7 s.length ++ s ++ a7 (dy s)
theorem cb {n : Int} (h : n ≤ 999999) : (a7 n).length ≤ 3:=nb _ 2 oM
theorem nY (l : ac1) : (a7 (dy l)).length ≤ 3:=cb (by have:=e9 l;omega)
theorem ki (s : ac1) (h : s.length ≤ 999999) : (frame s).length ≤ s.length + 7:=by
 have h1:=cb (n:=s.length) oM
 have h2:=nY s
 simp [frame];omega
def kV (s : ac1) : ac1:=if s.length ≤ 100 then frame s else []
def vN (s : ac1) : Bool:=decide (s.length ≤ 100)
theorem abV {s : ac1} (h : ¬ s.length ≤ 100) : Tu [S [],Bo false] = Tu [S (kV s),Bo (vN s)]:=by simp [kV,vN,h]
theorem aaB {s : ac1} (h : s.length ≤ 100) : Tu [S (frame s),Bo true] = Tu [S (kV s),Bo (vN s)]:=by simp [kV,vN,h]
variable {G : Gh}
theorem sw {n lo hi : Int} : aC ac0 68 [I n,I lo,I hi] G (· = Bo (decide (lo ≤ n) && decide (n ≤ hi))):=by
 refine jE [(0,_),(1,_),(2,_)] Tryz.func68 Tryz.ntmps68 fun B hB=>?_
 repeat' (first | refine jR ?_ | (refine jo ?_;first | refine aH F ?_ | refine aw F ?_) | refine eD F F (fun _=>?_) (fun _=>?_))
 all_goals refine jY (vs:=[_]) ?_
 all_goals (rw [aB];simp [*])
theorem xk : ∀ (k : Nat) {n : Int},n.toNat ≤ k → 0 ≤ n ∧ n ≤ 9223372036854775807 → aC ac0 28 [I n] G (· = S (a7 n)):=by
 intro k
 induction k with
 | zero =>
  intro n hk hn
  have h1 : n < 128:=oM
  refine jE [(0,_)] Tryz.func28 Tryz.ntmps28 fun B hB=>?_
  repeat' (first | refine jR ?_ | (refine jo ?_;first | refine jF fun _=>?_ | refine jV (eO F F (by (repeat (first | exact BL.nil | apply BL.cons));done)) ?_) | refine ac F (ar ‹_›) ?_)
  refine jY (vs:=[_]) ?_
  rw [aB,fy h1 hn.1]
 | succ k ih =>
  intro n hk hn
  have hl:=wT (n / 128) oM
  refine jE [(0,_)] Tryz.func28 Tryz.ntmps28 fun B hB=>?_
  repeat' (first | refine jR ?_ | (refine jo ?_;first | refine jF fun _=>?_ | refine jV (eO F F (by (repeat (first | exact BL.nil | apply BL.cons));done)) ?_) | refine er F (fun _=>?_) (fun _=>?_) | (refine ai (am (id:=3) _ (fun _ h=>h) ah ?_);refine jW 5 [0,1,2,3,6,7] (aa 11 207) ?_;refine dN [4,8] kR dC ⟨?_,?_,trivial⟩;(focus (refine b6 F F ?_;(refine jF fun _=>?_);refine jS (aa 11 223) ?_;((refine jG (aa 11 255) 5 F (eO F F (by (repeat (first | exact BL.nil | apply BL.cons));done)) ?_));refine jA 8 F ?_;((refine ab F F F (ih ?_ ?_) F ?_;(focus omega);focus omega));refine jS (aa 11 511) ?_;refine jW 0 [9,10] (aa 11 2047) ?_;refine jQ ?_));rotate_left 1;(focus (refine b6 F F ?_;((refine ab F F F (ih ?_ ?_) F ?_;(focus omega);focus omega));refine jS (aa 11 463) ?_;refine jA 4 F ?_;(refine jF fun _=>?_);refine jS (aa 11 479) ?_;((refine jG (aa 11 511) 5 F (eO F F (by (repeat (first | exact BL.nil | apply BL.cons));done)) ?_));refine jW 0 [9,10] (aa 11 2047) ?_;refine jQ ?_));rotate_left 1))
  ·refine jY (vs:=[_]) ?_
   rw [aB,fy aS hn.1]
  all_goals refine jY (vs:=[_]) ?_
  all_goals (rw [aB,ig (n:=n) aS];rfl)
theorem eU {n : Int} (hn : 0 ≤ n ∧ n ≤ 9223372036854775807) : aC ac0 28 [I n] G (· = S (a7 n)):=xk n.toNat (Nat.le_refl _) hn
def iK (xs : List ac1) : List Value:=xs.map fun x=>S x
theorem j5 (xs : List ac1) (x : ac1) : iK (xs ++ [x]) = iK xs ++ [S x]:=by simp [iK]
abbrev kB : TypeId:=9
theorem bB {α : Type} [Inhabited α] {a : List α} {i : Nat} (h : i < a.length) : ae a i ∈ a:=by rw [aP h];exact List.getElem_mem h
theorem ni {α : Type} [Inhabited α] {a : List α} {x : α} (h : x ∈ a) : ∃ i,i < a.length ∧ ae a i = x:=by
 obtain ⟨i,hi,e⟩:=List.mem_iff_getElem.1 h
 exact ⟨i,hi,by rw [aP hi,e]⟩
theorem po (p s : ac1) : p.isPrefixOf s = decide (p.length ≤ s.length ∧ s.take p.length = p):=by
 by_cases h : p <+: s
 ·have h1:=List.isPrefixOf_iff_prefix.2 h
  rw [h1];obtain ⟨r,rfl⟩:=h;simp
 ·have h1 : p.isPrefixOf s = false:=by
   cases hb : p.isPrefixOf s with
   | false=>rfl
   | true=>exact absurd (List.isPrefixOf_iff_prefix.1 hb) h
  rw [h1];symm;refine decide_eq_false fun ⟨_,h3⟩=>h ?_
  rw [← h3];exact List.take_prefix _ _
theorem hO {s p : ac1} : aC ac0 157 [S s,S p] G (· = Bo (p.isPrefixOf s)):=by
 rw [po]
 refine jE [(0,_),(1,_)] Tryz.func157 Tryz.ntmps157 fun B hB=>?_
 repeat' (first | refine jM ?_ | (refine jo ?_;first | refine aH F ?_ | refine aw F ?_) | refine eD F F (fun _=>?_) (fun _=>?_))
 all_goals refine jY (vs:=[_]) ?_
 all_goals (rw [aB];simp;omega)
theorem gk {s p : ac1} : aC ac0 120 [S s,S p] G (· = Bo (p.isPrefixOf s)):=by
 refine jE [(0,_),(1,_)] Tryz.func120 Tryz.ntmps120 fun B hB=>?_
 repeat' (first | refine jR ?_ | (refine jo ?_;refine ab F F F hO F ?_))
 all_goals refine jY (vs:=[_]) ?_
 all_goals rfl
def kg (c : UInt8) : Bool:=decide (97 ≤ c.toNat ∧ c.toNat ≤ 122)
def cn (s : ac1) : Bool:=s.all kg && decide (1 ≤ s.length ∧ s.length ≤ 3)
def ep : ac1 → Bool
 | []=>false
 | c :: r=>if c.toNat = 91 ∨ c.toNat = 63 then ep r
  else if c.toNat = 64 then decide (((bt (c :: r) r.length : Nat) : Int) = 59) && cn (r.take (r.length - 1))
  else decide (r = []) && (decide (c.toNat = 110) || decide (c.toNat = 116) || decide (c.toNat = 102))
def bA (s : ac1) : Bool:=decide (s.length ≤ 12) && ep s
def bj : ac1 → ac1
 | []=>[]
 | c :: r=>if c.toNat = 91 ∨ c.toNat = 63 then bj r else c :: r
theorem tF {s : ac1} {i : Nat} (h : i < s.length) (h2 : ¬ (97 ≤ bt s i ∧ bt s i ≤ 122)) : cn s = false:=by
 have e : bt s i = (s[i]).toNat:=by simp [bt,List.getD,List.getElem?_eq_getElem h]
 have : s.all kg = false:=by
  rw [List.all_eq_false]
  exact ⟨s[i],List.getElem_mem h,by rw [e] at h2;simpa [kg] using h2⟩
 rw [cn,this,Bool.false_and]
theorem wW {s : ac1} (h : ∀ i,i < s.length → 97 ≤ bt s i ∧ bt s i ≤ 122) : cn s = decide (1 ≤ s.length ∧ s.length ≤ 3):=by
 have : s.all kg = true:=by
  rw [List.all_eq_true]
  intro c hc
  obtain ⟨i,hi,rfl⟩:=List.mem_iff_getElem.1 hc
  have e : bt s i = (s[i]).toNat:=by simp [bt,List.getD,List.getElem?_eq_getElem hi]
  have:=h i hi
  rw [e] at this
  simpa [kg] using this
 rw [cn,this,Bool.true_and]
def q7 (n : Nat) : ac1:=if h : n < 10 then [u8 (48 + n : Nat)] else q7 (n / 10) ++ [u8 (48 + n % 10 : Nat)]
termination_by n
decreasing_by omega
def a8 (n : Int) : ac1:=q7 n.toNat
theorem dF {n : Int} (h : n < 10) (h0 : 0 ≤ n) : a8 n = [u8 (48 + n)]:=by
 unfold a8;rw [q7,dif_pos oM];congr 1;congr 1;omega
theorem gN {n : Int} (h : ¬ n < 10) : a8 n = a8 (n / 10) ++ [u8 (48 + n % 10)]:=by
 unfold a8;rw [q7,dif_neg oM]
 have e1 : n.toNat / 10 = (n / 10).toNat:=oM
 have e2 : ((48 + n.toNat % 10 : Nat) : Int) = 48 + n % 10:=oM
 rw [e1,e2]
theorem tN (n : Nat) : ∀ k,n < 10 ^ (k + 1) → (q7 n).length ≤ k + 1:=by
 intro k
 induction k generalizing n with
 | zero=>intro h;rw [q7,dif_pos (by simpa using h)];simp
 | succ k ih =>
  intro h
  by_cases h1 : n < 10
  ·rw [q7,dif_pos h1];simp
  ·rw [q7,dif_neg h1]
   have:=ih (n / 10) (Nat.div_lt_of_lt_mul (by rw [Nat.pow_succ] at h;omega))
   simp;omega
theorem jv {n : Int} (h : n ≤ 9223372036854775807) : (a8 n).length ≤ 19:=tN _ 18 oM
theorem fS {s : ac1} (h : s.length ≤ 9000000000000000000) : aC ac0 73 [S s] G (· = Bo (cn s)):=by
 refine jE [(0,_)] Tryz.func73 Tryz.ntmps73 fun B hB=>?_
 repeat' (refine jR ?_)
 refine aR (ι:=Nat) (fun i=>i ≤ s.length ∧ ∀ k,k < i → 97 ≤ bt s k ∧ bt s k ≤ 122) (fun i=>[(0,S s),(3,I i)]) (fun _=>G) (fun i=>[]) (fun i=>s.length - i) 0 ?_ tU F aW (fun i Hi=>?_)
 ·exact ⟨oM,fun k hk=>absurd hk oM⟩
 by_cases hi : i < s.length
 ·repeat' (first | refine jM ?_ | (refine jo ?_;first | refine aH F ?_ | refine aw F ?_) | refine eD F F (fun _=>?_) (fun _=>?_) | (refine ac F (by first | rfl | (refine decide_eq_true ?_;(omega))) ?_) | refine er F (fun _=>?_) (fun _=>?_))
  ·rename_i hc
   refine jY (vs:=[_]) ?_
   have hc : ((bt s i : Nat) : Int) < 97:=hc
   rw [aB,tF hi oM]
  ·rename_i _ hc
   refine jY (vs:=[_]) ?_
   have hc : (122 : Int) < ((bt s i : Nat) : Int):=hc
   rw [aB,tF hi oM]
  ·rename_i h1 h2
   have h1 : ¬ ((bt s i : Nat) : Int) < 97:=h1
   have h2 : ¬ (122 : Int) < ((bt s i : Nat) : Int):=h2
   refine aX (i + 1) ⟨oM,fun k hk=>?_⟩ oM tU F aW
   rcases Nat.lt_or_ge k i with h3 | h3
   ·exact Hi.2 k h3
   ·have : k = i:=oM
    subst this;omega
 ·repeat' (first | refine jR ?_ | (refine jo ?_;refine ab F F F sw F ?_) | refine ad F (aA oM) ?_)
  refine jY (vs:=[_]) ?_
  rw [aB,wW fun k hk=>Hi.2 k oM]
  refine congrArg Bo ?_
  rw [Bool.decide_and]
  exact congr (congrArg and (decide_eq_decide.2 oM)) (decide_eq_decide.2 oM)
theorem lZ (c : UInt8) (r : ac1) : bt (c :: r) 0 = c.toNat:=by simp [bt,List.getD]
theorem zu {c : UInt8} {r : ac1} (h : r ≠ []) (hl : r.length ≤ 1000000) : aC ac0 80 [S (c :: r)] G (· = Tu [S (if c.toNat = 64 then r.take (r.length - 1) else []),Bo (decide (c.toNat = 64))]):=by
 have hp:=List.length_pos_iff.2 h
 have e0:=lZ c r
 refine jE [(0,_)] Tryz.func80 Tryz.ntmps80 fun B hB=>?_
 repeat' (first | refine jX ?_ | refine er F (fun _=>?_) (fun _=>?_))
 ·rename_i hc
  refine jY (vs:=[_,_]) ?_
  have hc : ((bt (c :: r) 0 : Nat) : Int) ≠ 64:=hc
  have hc : ¬ c.toNat = 64:=oM
  rw [dS,if_neg hc,decide_eq_false hc]
 ·rename_i hc
  refine jY (vs:=[_,_]) ?_
  have hc : ¬ ((bt (c :: r) 0 : Nat) : Int) ≠ 64:=hc
  have hc : c.toNat = 64:=oM
  have e : ((((c :: r).length : Nat) : Int) - 1).toNat = (r.length - 1) + 1:=by simp only [List.length_cons];omega
  rw [dS,if_pos hc,decide_eq_true hc,e,List.take_succ_cons];rfl
theorem mY {s : ac1} : aC ac0 79 [S s] G (· = Bo (bA s)):=by
 induction s with
 | nil =>
  refine jE [(0,_)] Tryz.func79 Tryz.ntmps79 fun B hB=>?_
  repeat' (first | refine jR ?_ | (refine jo ?_;refine aw F ?_) | refine aj F F F ?_ | refine ac F F ?_)
  all_goals refine jY (vs:=[_]) ?_
  all_goals rfl
 | cons c r ih =>
  have e0 : bt (c :: r) (Int.toNat 0) = c.toNat:=lZ c r
  by_cases hl : (c :: r).length ≤ 12
  ·have hl2 : r.length ≤ 12:=by simp at hl;omega
   rw [bA,decide_eq_true hl,Bool.true_and,ep]
   rw [bA,decide_eq_true hl2,Bool.true_and] at ih
   have hcons : (c :: r).length = r.length + 1:=rfl
   by_cases h1 : c.toNat = 91
   ·rw [if_pos (.inl h1)]
    refine jE [(0,_)] Tryz.func79 Tryz.ntmps79 fun B hB=>?_
    repeat' (first | refine jM ?_ | (refine jo ?_;first | refine aw F ?_ | refine ab F F F ih F ?_) | refine aj F F (aA oM) ?_ | refine ac F (ar oM) ?_ | refine ad F F ?_)
    refine jY (vs:=[_]) ?_
    rfl
   by_cases h2 : c.toNat = 63
   ·rw [if_pos (.inr h2)]
    refine jE [(0,_)] Tryz.func79 Tryz.ntmps79 fun B hB=>?_
    repeat' (first | refine jM ?_ | (refine jo ?_;first | refine aw F ?_ | refine ab F F F ih F ?_) | refine aj F F (aA oM) ?_ | refine ac F (ar oM) ?_ | (refine ad F (by first | rfl | (refine decide_eq_false ?_;(omega))) ?_))
    refine jY (vs:=[_]) ?_
    rfl
   rw [if_neg oM]
   by_cases h3 : c.toNat = 64
   ·rw [if_pos h3]
    have h5 : ((((c :: r).length : Nat) : Int) - 1).toNat = r.length:=oM
    by_cases h4 : ((bt (c :: r) r.length : Nat) : Int) = 59
    ·have h6 : ((bt (c :: r) ((((c :: r).length : Nat) : Int) - 1).toNat : Nat) : Int) = 59:=by rw [h5];exact h4
     have hp : 0 < r.length:=by
      rcases Nat.eq_zero_or_pos r.length with h0 | h0
      ·have : r = []:=List.length_eq_zero_iff.1 h0
       subst this
       have : ((bt [c] (Int.toNat 0) : Nat) : Int) = 59:=h4
       omega
      ·exact h0
     have e1 : ((((c :: r).length : Nat) : Int) - 1).toNat = (r.length - 1) + 1:=oM
     refine jE [(0,_)] Tryz.func79 Tryz.ntmps79 fun B hB=>?_
     repeat' (first | refine jM ?_ | (refine jo ?_;first | refine aH F ?_ | refine aw F ?_ | (refine ab F F F (fS ?_) F ?_;(focus ((simp;omega);done)))) | refine ax F F (ar ‹_›) ?_ | refine aj F F (aA oM) ?_ | refine ac F (ar oM) ?_ | (refine ad F (by first | rfl | (refine decide_eq_false ?_;(omega))) ?_))
     refine jY (vs:=[_]) ?_
     rw [aB,decide_eq_true h4,Bool.true_and,e1,List.take_succ_cons];rfl
    ·have h6 : ¬ ((bt (c :: r) ((((c :: r).length : Nat) : Int) - 1).toNat : Nat) : Int) = 59:=by rw [h5];exact h4
     refine jE [(0,_)] Tryz.func79 Tryz.ntmps79 fun B hB=>?_
     repeat' (first | refine jM ?_ | (refine jo ?_;refine aw F ?_) | (refine aj F F (by refine decide_eq_false ?_;first | assumption | omega) ?_) | refine ac F (ar oM) ?_ | (refine ad F (by first | rfl | (refine decide_eq_false ?_;(omega))) ?_))
     refine jY (vs:=[_]) ?_
     rw [aB,decide_eq_false h4,Bool.false_and]
   ·rw [if_neg h3]
    have n1 : ∀ x : UInt8,(c :: r = [x]) = (c.toNat = x.toNat ∧ r = []):=fun x=>by
     rw [List.cons.injEq];exact propext ⟨fun h=>⟨by rw [h.1],h.2⟩,fun h=>⟨UInt8.toNat_inj.1 h.1,h.2⟩⟩
    refine jE [(0,_)] Tryz.func79 Tryz.ntmps79 fun B hB=>?_
    repeat' (first | refine jM ?_ | (refine jo ?_;first | refine aH F ?_ | refine aw F ?_) | refine ax F F F ?_ | refine aj F F (aA oM) ?_ | refine eD F F (fun _=>?_) (fun _=>?_) | (refine ad F (by first | rfl | (refine decide_eq_false ?_;(omega))) ?_))
    all_goals refine jY (vs:=[_]) ?_
    all_goals rw [aB]
    ·rename_i h;rw [n1] at h;rw [decide_eq_true h.2,decide_eq_true (p:=c.toNat = 110) h.1];rfl
    ·rename_i h;rw [n1] at h;rw [decide_eq_true h.2,decide_eq_true (p:=c.toNat = 116) h.1];simp
    ·rename_i ha hb
     refine congrArg Bo ?_
     rw [n1] at ha hb
     simp only [n1]
     by_cases hr : r = []
     ·have hx : ¬ c.toNat = 110:=fun h=>ha ⟨h,hr⟩
      have hy : ¬ c.toNat = 116:=fun h=>hb ⟨h,hr⟩
      simp [hr,hx,hy]
     ·simp [hr]
  ·rw [bA,decide_eq_false hl,Bool.false_and]
   refine jE [(0,_)] Tryz.func79 Tryz.ntmps79 fun B hB=>?_
   repeat' (first | refine jR ?_ | (refine jo ?_;refine aH F ?_) | refine ax F F (ar oM) ?_ | refine ac F F ?_)
   all_goals refine jY (vs:=[_]) ?_
   all_goals rfl
theorem sC {s : ac1} (h : ep s = true) : aC ac0 81 [S s] G (· = S (bj s)):=by
 refine jE [(0,_)] Tryz.func81 Tryz.ntmps81 fun B hB=>?_
 repeat' (refine jR ?_)
 refine aR (ι:=ac1) (fun t=>ep t = true ∧ bj t = bj s) (fun t=>[(0,S t)]) (fun _=>G) (fun t=>[]) (fun t=>t.length) s ?_ tU F aW (fun t Ht=>?_)
 ·exact ⟨h,F⟩
 match t,Ht with
 | c :: r,Ht =>
  have e0 : bt (c :: r) (Int.toNat 0) = c.toNat:=lZ c r
  have hcons : (c :: r).length = r.length + 1:=rfl
  by_cases h1 : c.toNat = 91 ∨ c.toNat = 63
  ·have hk : ep r = true:=by have:=Ht.1;rw [ep,if_pos h1] at this;exact this
   have hc : bj r = bj s:=by rw [← Ht.2,bj,if_pos h1]
   rcases h1 with h1 | h1
   all_goals repeat' (first | refine jM ?_ | (refine jo ?_;first | refine aH F ?_ | refine aw F ?_) | refine ax F F (ar oM) ?_ | refine aj F F (aA oM) ?_ | (refine ac F (by first | rfl | (refine decide_eq_true ?_;(omega))) ?_))
   all_goals exact aX r ⟨hk,hc⟩ oM tU F aW
  ·repeat' (first | refine jM ?_ | (refine jo ?_;refine aw F ?_) | refine aj F F (aA oM) ?_ | refine ad F (aA oM) ?_)
   refine jY (vs:=[_]) ?_
   rw [aB,← Ht.2,bj,if_neg h1]
theorem xj : ∀ (k : Nat) {n : Int},n.toNat ≤ k → 0 ≤ n ∧ n ≤ 9223372036854775807 → aC ac0 86 [I n] G (· = S (a8 n)):=by
 intro k
 induction k with
 | zero =>
  intro n hk hn
  have h1 : n < 10:=oM
  refine jE [(0,_)] Tryz.func86 Tryz.ntmps86 fun B hB=>?_
  repeat' (first | refine jM ?_ | (refine jo ?_;first | refine jF fun _=>?_ | refine jV (eO F F (by (repeat (first | exact BL.nil | apply BL.cons));done)) ?_) | refine ac F (ar ‹_›) ?_ | refine ad F (aA oM) ?_)
  refine jY (vs:=[_]) ?_
  rw [aB,dF h1 hn.1]
 | succ k ih =>
  intro n hk hn
  have hl:=jv (n:=n / 10) oM
  by_cases h1 : n < 10
  ·refine jE [(0,_)] Tryz.func86 Tryz.ntmps86 fun B hB=>?_
   repeat' (first | refine jM ?_ | (refine jo ?_;first | refine jF fun _=>?_ | refine jV (eO F F (by (repeat (first | exact BL.nil | apply BL.cons));done)) ?_) | refine ac F (ar ‹_›) ?_ | refine ad F (aA oM) ?_)
   refine jY (vs:=[_]) ?_
   rw [aB,dF h1 hn.1]
  ·refine jE [(0,_)] Tryz.func86 Tryz.ntmps86 fun B hB=>?_
   repeat' (first | refine jR ?_ | (refine ad F (by refine decide_eq_false ?_;first | assumption | omega) ?_) | (refine ai (am (id:=7) _ (fun _ h=>h) ah ?_);refine jW 5 [0,1,3,4,5,6] (aa 11 123) ?_;refine dN [2,7] kR dC ⟨?_,?_,trivial⟩;(focus (refine b6 F F ?_;((refine ab F F F (ih ?_ ?_) F ?_;(focus omega);focus omega));refine jS (aa 11 127) ?_;refine jA 7 F ?_;(refine jF fun _=>?_);refine jS (aa 11 255) ?_;((refine jG (aa 11 511) 8 F (eO F F (by (repeat (first | exact BL.nil | apply BL.cons));done)) ?_));refine jW 0 [9,10] (aa 11 2047) ?_;refine jQ ?_));rotate_left 1;(focus (refine b6 F F ?_;(refine jF fun _=>?_);refine jS (aa 11 251) ?_;((refine jG (aa 11 507) 8 F (eO F F (by (repeat (first | exact BL.nil | apply BL.cons));done)) ?_));refine jA 2 F ?_;((refine ab F F F (ih ?_ ?_) F ?_;(focus omega);focus omega));refine jS (aa 11 511) ?_;refine jW 0 [9,10] (aa 11 2047) ?_;refine jQ ?_));rotate_left 1))
   all_goals refine jY (vs:=[_]) ?_
   all_goals rw [aB,gN (n:=n) h1]
theorem ga {n : Int} (hn : 0 ≤ n ∧ n ≤ 9223372036854775807) : aC ac0 86 [I n] G (· = S (a8 n)):=xj n.toNat (Nat.le_refl _) hn
def fV (s : ac1) : ac1:=if s = [110] then [48] else if s = [116] then [39,39] else if s = [102] then [110,111] else []
theorem rf {s : ac1} : aC ac0 153 [S s] G (· = S (fV s)):=by
 refine jE [(0,_)] Tryz.func153 Tryz.ntmps153 fun B hB=>?_
 repeat' (first | refine jR ?_ | refine er F (fun _=>?_) (fun _=>?_))
 all_goals refine jY (vs:=[_]) ?_
 all_goals (rw [aB,fV];simp [*])
def iP (x : Nat) : Prop:=x = 32 ∨ (48 ≤ x ∧ x ≤ 57) ∨ (97 ≤ x ∧ x ≤ 122)
instance (x : Nat) : Decidable (iP x):=inferInstanceAs (Decidable (_ ∨ _))
def ya (s : ac1) : Prop:=(2 ≤ s.length ∧ s.length ≤ 14) ∧ bt s 0 = 39 ∧ bt s (s.length - 1) = 39 ∧ ∀ i,i < s.length - 1 → i = 0 ∨ iP (bt s i)
instance (s : ac1) : Decidable (ya s):=inferInstanceAs (Decidable (_ ∧ _ ∧ _ ∧ _))
def cX (s : ac1) : Bool:=decide (ya s)
theorem fj {s : ac1} (h : s.length ≤ 100000000) : aC ac0 107 [S s] G (· = Bo (cX s)):=by
 by_cases h1 : 2 ≤ s.length ∧ s.length ≤ 14
 case neg =>
  have e : cX s = false:=decide_eq_false fun x=>h1 x.1
  rw [e]
  refine jE [(0,_)] Tryz.func107 Tryz.ntmps107 fun B hB=>?_
  repeat' (first | refine jR ?_ | (refine jo ?_;first | refine aH F ?_ | refine aw F ?_) | (refine ax F F (by first | rfl | (refine decide_eq_true ?_;(omega))) ?_) | refine eD F F (fun _=>?_) (fun _=>?_) | refine ac F F ?_)
  all_goals refine jY (vs:=[_]) ?_
  all_goals rfl
 by_cases h2 : bt s 0 = 39
 case neg =>
  have e : cX s = false:=decide_eq_false fun x=>h2 x.2.1
  have h3 : ¬ bt s (Int.toNat 0) = 39:=h2
  rw [e]
  refine jE [(0,_)] Tryz.func107 Tryz.ntmps107 fun B hB=>?_
  repeat' (first | refine jM ?_ | (refine jo ?_;first | refine aH F ?_ | refine aw F ?_) | refine ax F F (ar oM) ?_ | refine aj F F (aA oM) ?_ | refine ac F F ?_)
  all_goals refine jY (vs:=[_]) ?_
  all_goals rfl
 have h3 : bt s (Int.toNat 0) = 39:=h2
 have h4 : (((s.length : Nat) : Int) - 1).toNat = s.length - 1:=oM
 by_cases h5 : bt s (s.length - 1) = 39
 case neg =>
  have e : cX s = false:=decide_eq_false fun x=>h5 x.2.2.1
  have h6 : ¬ bt s (((s.length : Nat) : Int) - 1).toNat = 39:=by rw [h4];exact h5
  rw [e]
  refine jE [(0,_)] Tryz.func107 Tryz.ntmps107 fun B hB=>?_
  repeat' (first | refine jM ?_ | (refine jo ?_;refine aw F ?_) | refine aj F F (aA oM) ?_ | refine ac F (ar oM) ?_)
  all_goals refine jY (vs:=[_]) ?_
  all_goals rfl
 have h6 : bt s (((s.length : Nat) : Int) - 1).toNat = 39:=by rw [h4];exact h5
 refine jE [(0,_)] Tryz.func107 Tryz.ntmps107 fun B hB=>?_
 repeat' (first | refine jM ?_ | (refine jo ?_;refine aw F ?_) | refine aj F F (aA oM) ?_ | refine ad F (aA oM) ?_)
 refine aR (ι:=Nat) (fun i=>(1 ≤ i ∧ i ≤ s.length - 1) ∧ ∀ k,k < i → k = 0 ∨ iP (bt s k)) (fun i=>[(0,S s),(3,I i)]) (fun _=>G) (fun i=>[]) (fun i=>s.length - i) 1 ?_ tU F aW (fun i Hi=>?_)
 ·exact ⟨⟨Nat.le_refl _,oM⟩,fun k hk=>.inl oM⟩
 by_cases hi : i < s.length - 1
 ·by_cases ht : iP (bt s i)
  ·have ht2 : iP (bt s ((i : Int).toNat)):=ht
   unfold iP at ht2
   repeat' (first | refine jM ?_ | (refine jo ?_;first | refine aH F ?_ | refine aw F ?_) | (refine aj F F (by first | rfl | (refine decide_eq_false ?_;(omega))) ?_) | refine eD F F (fun _=>?_) (fun _=>?_) | refine ac F (ar oM) ?_ | (refine ad F (by first | rfl | (refine decide_eq_false ?_;(omega))) ?_))
   all_goals refine aX (i + 1) ⟨⟨oM,oM⟩,fun k hk=>?_⟩ oM tU F aW
   all_goals (rcases Nat.lt_or_ge k i with h7 | h7;· exact Hi.2 k h7)
   all_goals (have : k = i:=by omega)
   all_goals (subst this;exact .inr ht)
  ·have ht2 : ¬ iP (bt s ((i : Int).toNat)):=ht
   unfold iP at ht2
   have e : cX s = false:=decide_eq_false fun x=>(x.2.2.2 i hi).elim (fun h8=>by omega) ht
   rw [e]
   repeat' (first | refine jM ?_ | (refine jo ?_;first | refine aH F ?_ | refine aw F ?_) | (refine ax F F (by first | rfl | (refine decide_eq_true ?_;(omega))) ?_) | refine eD F F (fun _=>?_) (fun _=>?_) | (refine ac F (by first | rfl | (refine decide_eq_true ?_;(omega))) ?_))
   all_goals refine jY (vs:=[_]) ?_
   all_goals rfl
 ·have e : cX s = true:=decide_eq_true ⟨h1,h2,h5,fun k hk=>Hi.2 k oM⟩
  rw [e]
  repeat' (first | refine jM ?_ | refine ad F (aA oM) ?_)
  refine jY (vs:=[_]) ?_
  rfl
def dM (k : Nat) (acc : ac1) : ac1 → List ac1
 | []=>[acc]
 | c :: r=>if c.toNat = k then acc :: dM k [] r else dM k (acc ++ [c]) r
def aV (k : Nat) (s : ac1) : List ac1:=dM k [] s
theorem t3 {s : ac1} {k : Nat} (h : s.length ≤ 100000000) : c8 ac0 55 [S s,U8 k] G [] (fun v L'=>L' = [.acc v kB 1 (aV k s).length (iK (aV k s))] ∧ rh v (aV k s).length):=by
 refine jH [(0,_),(1,_)] Tryz.func55 Tryz.ntmps55 fun B hB hW=>?_
 repeat' (first | refine jR ?_ | (refine jo ?_;refine jF fun _=>?_))
 rename_i x
 refine Nx.blkAcc (m:=0) (sz:=1) .here F ?_
 refine aR (ι:=Value × List ac1 × Nat × Nat) (fun i=>(i.2.2.1 ≤ i.2.2.2 ∧ i.2.2.2 ≤ s.length ∧ i.2.1.length ≤ i.2.2.2) ∧ i.2.1 ++ dM k ((s.take i.2.2.2).drop i.2.2.1) (s.drop i.2.2.2) = aV k s) (fun i=>[(0,S s),(1,U8 k),(5,i.1),(6,I i.2.2.1),(7,I i.2.2.2)]) (fun _=>G) (fun i=>[.acc i.1 kB 1 i.2.1.length (iK i.2.1)]) (fun i=>s.length - i.2.2.2) (.slice (some ⟨x,0,none⟩) 0 0,[],0,0) ?_ tU F aW (fun i Hi=>?_)
 ·exact ⟨⟨Nat.le_refl _,Nat.zero_le _,Nat.zero_le _⟩,F⟩
 obtain ⟨u,xs,fr,i⟩:=i
 dsimp only at Hi ⊢
 by_cases hi : i < s.length
 ·obtain ⟨c,hc1,hc2⟩:=f7 hi
  have hn : s.drop i ≠ []:=by rw [hc1];simp
  have ht : (s.take (i + 1)).drop fr = (s.take i).drop fr ++ [c]:=by
   have e : s[i] = c:=by have:=List.getElem_cons_drop (h:=hi);rw [hc1] at this;exact (List.cons.inj this).1
   rw [List.take_succ_eq_append_getElem hi,e,List.drop_append_of_le_length (by simp;omega)]
  have hcut:=Hi.2
  rw [hc1,dM] at hcut
  by_cases hk : c.toNat = k
  ·have hk2 : bt s i = k:=oM
   rw [if_pos hk] at hcut
   repeat' (first | refine jM ?_ | (refine jo ?_;first | refine jF fun _=>?_ | refine nn F F F F F F F F oM fun _=>?_) | (refine ac F ?_ ?_;(focus ((first | (refine decide_eq_true ?_;(omega)) | (simp [*];done));done))))
   refine aX (_,xs ++ [(s.take i).drop fr],i + 1,i + 1) ⟨⟨by dsimp only;omega,by dsimp only;omega,by simp;omega⟩,?_⟩ (by dsimp only;omega) tU rfl (by dsimp only;simp only [j5,List.length_append,List.length_cons,List.length_nil,Nat.zero_add];repeat (first | exact List.nil_sublist _ | apply List.Sublist.cons_cons))
   have e0 : (s.take (i + 1)).drop (i + 1) = []:=by simp
   dsimp only;rw [e0,← hcut];simp
  ·have hk2 : ¬ bt s i = k:=oM
   rw [if_neg hk] at hcut
   repeat' (first | refine jM ?_ | refine ac F (ar oM) ?_ | (refine ad F ?_ ?_;(focus ((simp;omega);done))))
   refine aX (u,xs,fr,i + 1) ⟨⟨by dsimp only;omega,by dsimp only;omega,by dsimp only;omega⟩,?_⟩ (by dsimp only;omega) tU rfl aW
   dsimp only;rw [ht];exact hcut
 ·have e : aV k s = xs ++ [s.drop fr]:=by
   have ei : i = s.length:=oM
   rw [← Hi.2,ei,List.take_length,List.drop_length];rfl
  repeat' (first | refine jM ?_ | (refine jo ?_;first | refine jF fun _=>?_ | refine nn F F F F F F F F oM fun _=>?_) | refine ad F (aA oM) ?_)
  refine Nx.shp (.head _) fun hsh=>bh (vs:=[_]) F ⟨F,trivial⟩ F (List.Sublist.cons_cons _ (List.nil_sublist _)) ⟨F,?_,?_⟩
  ·rw [e,j5,List.length_append];rfl
  ·rw [e,List.length_append];exact hsh
def cY (n : Int) : ac1 → Option Int
 | []=>some n
 | c :: r=>if 48 ≤ c.toNat ∧ c.toNat ≤ 57 then cY (10 * n + ((c.toNat : Int) - 48)) r else none
def aL (s : ac1) (top : Int) : Option Int :=
 if s.length ≤ 6 then
  match cY 0 s with
  | some n=>if s = a8 n ∧ n ≤ top then some n else none
  | none=>none
 else none
theorem wN (i : Nat) (hi : i ≤ 5) : (10 : Int) ^ (i + 1) = 10 * 10 ^ i ∧ (10 : Int) ^ i ≤ 100000 ∧ (0 : Int) < 10 ^ i:=by
 refine ⟨by rw [Int.pow_succ,Int.mul_comm],?_⟩
 rcases (show i = 0 ∨ i = 1 ∨ i = 2 ∨ i = 3 ∨ i = 4 ∨ i = 5 by omega) with rfl | rfl | rfl | rfl | rfl | rfl <;> decide
theorem gc {s : ac1} {top : Int} (h : s.length ≤ 100000000) : aC ac0 56 [S s,I top] G (fun v=>∃ n,v = Tu [I n,Bo (aL s top).isSome] ∧ (∀ m,aL s top = some m → n = m)):=by
 refine jE [(0,_),(1,_)] Tryz.func56 Tryz.ntmps56 fun B hB=>?_
 repeat' (refine jR ?_)
 refine aR (ι:=Nat × Int) (fun i=>(i.1 ≤ s.length ∧ i.1 ≤ 6) ∧ (0 ≤ i.2 ∧ i.2 + 1 ≤ 10 ^ i.1) ∧ cY i.2 (s.drop i.1) = cY 0 s) (fun i=>[(0,S s),(1,I top),(6,I i.2),(7,I i.1)]) (fun _=>G) (fun i=>[]) (fun i=>s.length - i.1) (0,0) ?_ tU F aW (fun i Hi=>?_)
 ·exact ⟨⟨by dsimp only;omega,by dsimp only;omega⟩,⟨by dsimp only;omega,by dsimp only;decide⟩,rfl⟩
 obtain ⟨i,n⟩:=i
 dsimp only at Hi ⊢
 by_cases hi : i < s.length
 ·obtain ⟨c,hc1,hc2⟩:=f7 hi
  have hc3 : bt s ((i : Int).toNat) = c.toNat:=hc2
  have hd:=Hi.2.2
  rw [hc1,cY] at hd
  by_cases h5 : i ≤ 5
  ·have hp:=wN i h5
   by_cases hdig : 48 ≤ c.toNat ∧ c.toNat ≤ 57
   ·rw [if_pos hdig] at hd
    repeat' (first | refine jM ?_ | (refine jo ?_;refine aw F ?_) | refine aj F F (aA oM) ?_ | refine ac F (ar oM) ?_ | refine ad F (aA oM) ?_)
    refine aX (i + 1,10 * n + ((c.toNat : Int) - 48)) ⟨⟨by dsimp only;omega,by dsimp only;omega⟩,⟨by dsimp only;omega,by dsimp only;rw [hp.1];omega⟩,hd⟩ (by dsimp only;omega) ?_ rfl aW
    rw [← hc2];repeat (first | exact trivial | refine ⟨F,?_⟩)
   ·rw [if_neg hdig] at hd
    have hno : aL s top = none:=by unfold aL;rw [← hd];split <;> rfl
    repeat' (first | refine jM ?_ | (refine jo ?_;first | refine aH F ?_ | refine aw F ?_) | (refine ax F F (by first | rfl | (refine decide_eq_true ?_;(omega))) ?_) | refine eD F F (fun _=>?_) (fun _=>?_) | (refine ac F (by first | rfl | (refine decide_eq_true ?_;(omega))) ?_))
    all_goals refine jY (vs:=[_,_]) ?_
    all_goals exact ⟨_,by rw [hno];rfl,fun m hm=>by rw [hno] at hm;cases hm⟩
  ·have hno : aL s top = none:=by unfold aL;rw [if_neg oM]
   have e6 : i = 6:=oM
   subst e6
   repeat' (first | refine jM ?_ | (refine jo ?_;first | refine aH F ?_ | refine aw F ?_) | refine ax F F F ?_ | refine eD F F (fun _=>?_) (fun _=>?_) | (refine ac F (by first | rfl | (refine decide_eq_true ?_;(omega))) ?_))
   all_goals refine jY (vs:=[_,_]) ?_
   all_goals exact ⟨_,by rw [hno];rfl,fun m hm=>by rw [hno] at hm;cases hm⟩
 ·have ei : i = s.length:=oM
  have hd:=Hi.2.2
  rw [ei,List.drop_length,cY] at hd
  have hp : n ≤ 9223372036854775807:=by
   rcases Nat.lt_or_ge i 6 with h1 | h1
   ·have:=wN i oM;omega
   ·have e6 : i = 6:=oM
    subst e6
    have:=Hi.2.1.2
    have e : (10 : Int) ^ 6 = 1000000:=by decide
    omega
  have hno : aL s top = if s = a8 n ∧ n ≤ top then some n else none:=by unfold aL;rw [if_pos oM,← hd]
  repeat' (first | refine jR ?_ | (refine jo ?_;first | refine aH F ?_ | refine aw F ?_ | refine ab F F F (ga oM) F ?_) | refine eD F F (fun _=>?_) (fun _=>?_) | refine ad F (aA oM) ?_)
  ·rename_i hs
   refine jY (vs:=[_,_]) ?_
   refine ⟨n,?_,fun m hm=>?_⟩
   ·rw [hno,dS]
    by_cases ht : n ≤ top
    ·rw [if_pos ⟨hs,ht⟩,decide_eq_true ht];rfl
    ·rw [if_neg (fun h=>ht h.2),decide_eq_false ht];rfl
   ·rw [hno] at hm
    split at hm
    ·exact Option.some.inj hm
    ·cases hm
  ·rename_i hs
   refine jY (vs:=[_,_]) ?_
   refine ⟨n,by rw [hno,if_neg (fun h=>hs h.1)];rfl,fun m hm=>?_⟩
   rw [hno,if_neg (fun h=>hs h.1)] at hm;cases hm
def bE (k s : ac1) : Bool :=
 if k = [110] then (aL s 999999).isSome && decide (s ≠ [48])
 else if k = [116] then cX s && decide (s ≠ [39,39])
 else if k = [102] then decide (s = [121,101,115])
 else false
theorem v8 {k s : ac1} (h : s.length ≤ 100000000) : aC ac0 178 [S k,S s] G (· = Bo (bE k s)):=by
 by_cases h1 : k = [110]
 ·have e : bE k s = ((aL s 999999).isSome && decide (s ≠ [48])):=by rw [bE,if_pos h1]
  rw [e]
  refine jE [(0,_),(1,_)] Tryz.func178 Tryz.ntmps178 fun B hB=>?_
  repeat' (first | refine jR ?_ | (refine jo ?_;first | refine aH F ?_ | refine aw F ?_ | (refine cZ F F F (gc oM) F ?_;rintro _ ⟨n,rfl,hnum⟩)) | refine mG F F (fun _=>?_) (fun _=>?_) | refine ac F (ar ‹_›) ?_)
  all_goals refine jY (vs:=[_]) ?_
  all_goals (rw [aB];simp [*])
 by_cases h2 : k = [116]
 ·have e : bE k s = (cX s && decide (s ≠ [39,39])):=by rw [bE,if_neg h1,if_pos h2]
  rw [e]
  refine jE [(0,_),(1,_)] Tryz.func178 Tryz.ntmps178 fun B hB=>?_
  repeat' (first | refine jR ?_ | (refine jo ?_;first | refine aH F ?_ | refine aw F ?_ | refine ab F F F (fj ‹_›) F ?_) | refine eD F F (fun _=>?_) (fun _=>?_) | refine ac F (ar ‹_›) ?_ | refine ad F (aA ‹_›) ?_)
  all_goals refine jY (vs:=[_]) ?_
  all_goals (rw [aB];simp [*,cX])
 by_cases h3 : k = [102]
 ·have e : bE k s = decide (s = [121,101,115]):=by rw [bE,if_neg h1,if_neg h2,if_pos h3]
  rw [e]
  refine jE [(0,_),(1,_)] Tryz.func178 Tryz.ntmps178 fun B hB=>?_
  repeat' (first | refine jR ?_ | refine ac F (ar ‹_›) ?_ | refine ad F (aA ‹_›) ?_)
  all_goals refine jY (vs:=[_]) ?_
  all_goals rfl
 ·have e : bE k s = false:=by rw [bE,if_neg h1,if_neg h2,if_neg h3]
  rw [e]
  refine jE [(0,_),(1,_)] Tryz.func178 Tryz.ntmps178 fun B hB=>?_
  repeat' (first | refine jR ?_ | refine ad F (aA ‹_›) ?_)
  all_goals refine jY (vs:=[_]) ?_
  all_goals rfl
structure Fld where
 tag : Int
 name : ac1
 kind : ac1
 stand : ac1
deriving Inhabited
def gC (f : Fld) : List Value:=[I f.tag,S f.name,S f.kind,S f.stand]
instance : RowF gC 4:=⟨fun _=>rfl⟩
def bP (s : ac1) (k : Nat) : Option Fld :=
 match aV 58 s with
 | [a,b]=>if k = 69 then
   match aL a 200 with
   | some n=>if 1 ≤ n ∧ cn b = true then some ⟨n,b,[],[]⟩ else none
   | none=>none
  else none
 | [a,b,c]=>if k = 69 then none else
   match aL a 200 with
   | some n=>if 1 ≤ n ∧ cn b = true then
     match aV 61 c with
     | [d]=>if bA d = true then some ⟨n,b,d,[]⟩ else none
     | [d,e]=>if k = 82 ∧ bE d e = true then some ⟨n,b,d,e⟩ else none
     | _=>none
    else none
   | none=>none
 | _=>none
theorem ot {k : Nat} : ∀ {s acc : ac1} {x : ac1},x ∈ dM k acc s → x.length ≤ acc.length + s.length
 | [],acc,x,h=>by simp [dM] at h;subst h;simp
 | c :: r,acc,x,h=>by
  unfold dM at h
  split at h
  ·rcases List.mem_cons.1 h with rfl | h
   ·simp
   ·have:=ot h;simp at this ⊢;omega
  ·have:=ot h;simp at this ⊢;omega
theorem c7 {k : Nat} {s x : ac1} (h : x ∈ aV k s) : x.length ≤ s.length:=by have:=ot h;simpa using this
theorem oy {k : Nat} : ∀ {s acc : ac1},0 < (dM k acc s).length
 | [],acc=>by simp [dM]
 | c :: r,acc=>by
  unfold dM
  split
  ·simp
  ·exact oy
theorem dL {k : Nat} {s : ac1} : 0 < (aV k s).length:=oy
theorem iL {k : Nat} : ∀ {s acc : ac1},(dM k acc s).length ≤ s.length + 1
 | [],acc=>by simp [dM]
 | c :: r,acc=>by
  unfold dM
  split
  ·have:=iL (k:=k) (s:=r) (acc:=[]);simp;omega
  ·have:=iL (k:=k) (s:=r) (acc:=acc ++ [c]);simp;omega
theorem gO {k : Nat} {s : ac1} : (aV k s).length ≤ s.length + 1:=iL
def aG (k : Nat) : ac1 → ac1 × ac1 × Bool
 | []=>([],[],false)
 | c :: r=>if c.toNat = k then ([],r,true) else (c :: (aG k r).1,(aG k r).2.1,(aG k r).2.2)
theorem dG (c : UInt8) (r : ac1) (i : Nat) : bt (c :: r) (i + 1) = bt r i:=by simp [bt,List.getD]
theorem a6 (c : UInt8) (r : ac1) : bt (c :: r) 0 = c.toNat:=by simp [bt,List.getD]
theorem qh {k : Nat} : ∀ {s : ac1},(∀ j,j < s.length → bt s j ≠ k) → aG k s = (s,[],false)
 | [],_=>rfl
 | c :: r,h=>by
  have h0:=h 0 (by simp)
  rw [a6] at h0
  have ih:=qh (k:=k) (s:=r) fun j hj=>by have:=h (j + 1) (by simpa using hj);rwa [dG] at this
  rw [aG,if_neg h0,ih]
theorem nk {k : Nat} : ∀ {s : ac1} {i : Nat},i < s.length → (∀ j,j < i → bt s j ≠ k) → bt s i = k → aG k s = (s.take i,s.drop (i + 1),true)
 | [],i,h,_,_=>by simp at h
 | c :: r,0,_,_,h=>by rw [a6] at h;rw [aG,if_pos h];rfl
 | c :: r,i + 1,hl,h,hi=>by
  have h0:=h 0 oM
  rw [a6] at h0
  rw [dG] at hi
  have ih:=nk (k:=k) (s:=r) (i:=i) (by simpa using hl) (fun j hj=>by have:=h (j + 1) oM;rwa [dG] at this) hi
  rw [aG,if_neg h0,ih];rfl
structure Ty where
 sort : Nat
 name : ac1
 fields : List Fld
deriving Inhabited
def fresh (f : Fld) (fs : List Fld) : Bool:=fs.all fun g=>decide (g.tag < f.tag ∧ g.name ≠ f.name)
def cU (k : Nat) : List ac1 → List Fld → Option (List Fld)
 | [],fs=>some fs
 | x :: xs,fs=>match bP x k with
  | none=>none
  | some f=>if fresh f fs = true then cU k xs (fs ++ [f]) else none
def d5 (k : Nat) : Prop:=k = 82 ∨ k = 85 ∨ k = 69
instance (k : Nat) : Decidable (d5 k):=inferInstanceAs (Decidable (_ ∨ _ ∨ _))
def c9 : ac1 → Option Ty
 | []=>none
 | c :: r=>match aG 61 r with
  | (name,rest,true)=>if cn name = true ∧ d5 c.toNat then
    if rest = [] then (if c.toNat = 82 then some ⟨82,name,[]⟩ else none)
    else match cU c.toNat (aV 44 rest) [] with
     | some fs=>if fs.length ≤ 8 then some ⟨c.toNat,name,fs⟩ else none
     | none=>none
   else none
  | _=>none
def bz : ac1 → Option ac1
 | []=>none
 | c :: r=>if c.toNat = 64 then some (r.take (r.length - 1)) else none
def gn (ts : List Ty) (name : ac1) : Option Ty:=ts.find? fun t=>decide (t.name = name)
def aT (ts : List Ty) (k : ac1) : Option Ty:=(bz k).bind (gn ts)
def fG (t : Ty) : ac1:=(t.fields.headD default).kind
def bQ (ts : List Ty) : Nat → Ty → Bool
 | 0,_=>false
 | n + 1,t=>if t.sort ≠ 85 then true else match aT ts (fG t) with
  | none=>true
  | some u=>bQ ts n u
def ew (ts : List Ty) (k : ac1) : Bool:=match bz (bj k) with
 | none=>true
 | some n=>(gn ts n).isSome
def k3 (ts : List Ty) (i : Nat) : Prop:=∀ k,k < i → (ae ts k).name ≠ (ae ts i).name
def it (ts : List Ty) (t : Ty) : Prop:=t.sort = 69 ∨ ∀ j,j < t.fields.length → ew ts (ae t.fields j).kind = true
def iH (ts : List Ty) : Prop:=(∀ i,i < ts.length → k3 ts i ∧ it ts (ae ts i)) ∧ ∀ i,i < ts.length → bQ ts (ts.length + 1) (ae ts i) = true
instance (ts : List Ty) (i : Nat) : Decidable (k3 ts i):=inferInstanceAs (Decidable (∀ k,k < i → _))
instance (ts : List Ty) (t : Ty) : Decidable (it ts t):=inferInstanceAs (Decidable (_ ∨ ∀ j,j < t.fields.length → _))
instance (ts : List Ty) : Decidable (iH ts):=inferInstanceAs (Decidable ((∀ i,i < ts.length → _) ∧ ∀ i,i < ts.length → _))
def bW : List ac1 → Option (List Ty)
 | []=>some []
 | x :: xs=>match c9 x with
  | none=>none
  | some t=>(bW xs).map (t :: ·)
def aO (s : ac1) : Option (List Ty) :=
 if s.length ≤ 400 ∧ (aV 10 s).length ≤ 9 ∧ (aV 10 s).getLastD [] = [] then
  match bW (aV 10 s).dropLast with
  | some ts=>if iH ts then some ts else none
  | none=>none
 else none
structure FldW (k : Nat) (f : Fld) : Prop where
 tag : 1 ≤ f.tag ∧ f.tag ≤ 200
 name : cn f.name = true
 kind : k ≠ 69 → bA f.kind = true
 enm : k = 69 → f.kind = [] ∧ f.stand = []
 stand : f.stand ≠ [] → k = 82 ∧ bE f.kind f.stand = true
theorem dm {s : ac1} {top n : Int} (h : aL s top = some n) : n ≤ top ∧ s = a8 n ∧ s.length ≤ 6:=by
 unfold aL at h
 split at h
 ·split at h
  ·split at h
   ·rename_i h1 _ _ _ h2;simp only [Option.some.injEq] at h;subst h;exact ⟨h2.2,h2.1,h1⟩
   ·cases h
  ·cases h
 ·cases h
theorem mg {k s : ac1} (h : bE k s = true) : bA k = true:=by
 unfold bE at h
 split at h
 ·subst_vars;decide
 ·split at h
  ·subst_vars;decide
  ·split at h
   ·subst_vars;decide
   ·cases h
theorem yS {s : ac1} {k : Nat} {f : Fld} (h : bP s k = some f) : FldW k f:=by
 unfold bP at h
 split at h
 ·split at h
  ·rename_i hk
   split at h
   ·rename_i n hn
    split at h
    ·rename_i hg
     simp only [Option.some.injEq] at h;subst h
     exact ⟨⟨hg.1,(dm hn).1⟩,hg.2,fun h=>absurd hk h,fun _=>⟨F,F⟩,fun h=>absurd F h⟩
    ·cases h
   ·cases h
  ·cases h
 ·split at h
  ·cases h
  ·rename_i hk
   split at h
   ·rename_i n hn
    split at h
    ·rename_i hg
     split at h
     ·split at h
      ·rename_i hd
       simp only [Option.some.injEq] at h;subst h
       exact ⟨⟨hg.1,(dm hn).1⟩,hg.2,fun _=>hd,fun h=>absurd h hk,fun h=>absurd F h⟩
      ·cases h
     ·split at h
      ·rename_i hd
       simp only [Option.some.injEq] at h;subst h
       exact ⟨⟨hg.1,(dm hn).1⟩,hg.2,fun _=>mg hd.2,fun h=>absurd h hk,fun _=>hd⟩
      ·cases h
     ·cases h
    ·cases h
   ·cases h
 ·cases h
structure TyW (t : Ty) : Prop where
 sort : d5 t.sort
 name : cn t.name = true
 ne : t.sort ≠ 82 → t.fields ≠ []
 len : t.fields.length ≤ 8
 fld : ∀ f ∈ t.fields,FldW t.sort f
 asc : t.fields.Pairwise fun g f=>g.tag < f.tag ∧ g.name ≠ f.name
theorem pu {k : Nat} : ∀ {xs : List ac1} {fs gs : List Fld},cU k xs fs = some gs → (∀ f ∈ fs,FldW k f) → fs.Pairwise (fun g f=>g.tag < f.tag ∧ g.name ≠ f.name) →
  (∀ f ∈ gs,FldW k f) ∧ gs.Pairwise (fun g f=>g.tag < f.tag ∧ g.name ≠ f.name) ∧ gs.length = fs.length + xs.length
 | [],fs,gs,h,h1,h2=>by
  simp only [cU,Option.some.injEq] at h;subst h;exact ⟨h1,h2,by simp⟩
 | x :: xs,fs,gs,h,h1,h2=>by
  unfold cU at h
  split at h
  ·cases h
  ·rename_i f hf
   split at h
   ·rename_i hfr
    simp only [fresh,List.all_eq_true,decide_eq_true_eq] at hfr
    have:=pu h (fun g hg=>by
     rcases List.mem_append.1 hg with hg | hg
     ·exact h1 g hg
     ·simp only [List.mem_singleton] at hg;subst hg;exact yS hf) (List.pairwise_append.2 ⟨h2,by simp,fun a ha b hb=>by
      simp only [List.mem_singleton] at hb;subst hb;exact hfr a ha⟩)
    refine ⟨this.1,this.2.1,?_⟩
    rw [this.2.2];simp;omega
   ·cases h
theorem zL {s : ac1} {t : Ty} (h : c9 s = some t) : TyW t:=by
 unfold c9 at h
 split at h
 ·cases h
 ·split at h
  ·split at h
   ·rename_i hn
    split at h
    ·split at h
     ·simp only [Option.some.injEq] at h;subst h
      exact ⟨.inl F,hn.1,fun h=>absurd F h,by simp,by simp,by simp⟩
     ·cases h
    ·split at h
     ·rename_i fs hfs
      split at h
      ·rename_i hl
       simp only [Option.some.injEq] at h;subst h
       have hw:=pu hfs (by simp) (by simp)
       refine ⟨hn.2,hn.1,fun _ h0=>?_,hl,hw.1,hw.2.1⟩
       have:=hw.2.2
       dsimp only at h0
       rw [h0] at this
       have:=dL (k:=44) (s:=‹ac1›)
       simp at *;omega
      ·cases h
     ·cases h
   ·cases h
  ·cases h
theorem iy : ∀ {xs : List ac1} {ts : List Ty},bW xs = some ts → (∀ t ∈ ts,TyW t) ∧ ts.length = xs.length
 | [],ts,h=>by simp only [bW,Option.some.injEq] at h;subst h;simp
 | x :: xs,ts,h=>by
  unfold bW at h
  split at h
  ·cases h
  ·rename_i t ht
   cases hr : bW xs with
   | none=>rw [hr] at h;cases h
   | some us =>
    rw [hr] at h
    simp only [Option.map_some,Option.some.injEq] at h;subst h
    have:=iy hr
    exact ⟨fun u hu=>by rcases List.mem_cons.1 hu with rfl | hu;exact zL ht;exact this.1 u hu,by simp [this.2]⟩
structure SchW (ts : List Ty) : Prop where
 ty : ∀ t ∈ ts,TyW t
 len : ts.length ≤ 8
 valid : iH ts
theorem cp {s : ac1} {ts : List Ty} (h : aO s = some ts) : SchW ts:=by
 unfold aO at h
 split at h
 ·rename_i hc
  split at h
  ·rename_i us hus
   split at h
   ·rename_i hv
    simp only [Option.some.injEq] at h;subst h
    have:=iy hus
    exact ⟨this.1,by rw [this.2,List.length_dropLast];omega,hv⟩
   ·cases h
  ·cases h
 ·cases h
def aE (ts : List Ty) (k : ac1) : Bool:=bA k && ew ts k
theorem vQ {ts : List Ty} {n : ac1} {t : Ty} (h : gn ts n = some t) : t ∈ ts:=List.mem_of_find?_eq_some h
theorem bJ {ts : List Ty} {k : ac1} {t : Ty} (h : aT ts k = some t) : t ∈ ts:=by
 unfold aT at h
 cases hr : bz k with
 | none=>rw [hr] at h;cases h
 | some n=>rw [hr] at h;exact vQ h
theorem lI (ts : List Ty) : ∀ (k : Nat) (t : Ty),bQ ts k t = true → bQ ts (k + 1) t = true
 | 0,t,h=>by cases h
 | k + 1,t,h=>by
  unfold bQ at h ⊢
  split
  ·rfl
  ·rename_i hs
   rw [if_neg hs] at h
   cases hr : aT ts (fG t) with
   | none=>rfl
   | some u=>rw [hr] at h;exact lI ts k u h
def eJ (ts : List Ty) (k : Nat) : Prop:=∀ t ∈ ts,bQ ts (k + 1) t = bQ ts k t
theorem nw {ts : List Ty} {k : Nat} (h : eJ ts k) : eJ ts (k + 1):=by
 intro t ht
 rw [bQ,bQ]
 split
 ·rfl
 ·cases hr : aT ts (fG t) with
  | none=>rfl
  | some u=>exact h u (bJ hr)
theorem oR {ts : List Ty} {k : Nat} (h : eJ ts k) : ∀ (m : Nat) (t : Ty),t ∈ ts → bQ ts (k + m) t = bQ ts k t:=by
 have hs : ∀ m,eJ ts (k + m):=fun m=>by
  induction m with
  | zero=>exact h
  | succ m ih=>exact nw ih
 intro m t ht
 induction m with
 | zero=>rfl
 | succ m ih=>rw [← ih];exact hs m t ht
theorem sj {α : Type} {p q : α → Bool} : ∀ {l : List α},(∀ x ∈ l,p x = true → q x = true) → (∃ x ∈ l,q x = true ∧ p x = false) → l.countP p < l.countP q
 | [],_,h=>by obtain ⟨x,hx,_⟩:=h;cases hx
 | a :: l,h1,h2=>by
  have hle : ∀ l : List α,(∀ x ∈ l,p x = true → q x = true) → l.countP p ≤ l.countP q:=fun l h=>List.countP_mono_left h
  rw [List.countP_cons,List.countP_cons]
  have h3:=hle l fun x hx=>h1 x (List.mem_cons_of_mem _ hx)
  obtain ⟨x,hx,h4,h5⟩:=h2
  rcases List.mem_cons.1 hx with rfl | hx
  ·simp [h4,h5];omega
  ·have h6:=sj (fun x hx=>h1 x (List.mem_cons_of_mem _ hx)) ⟨x,hx,h4,h5⟩
   by_cases hp : p a = true
   ·simp [hp,h1 a (List.mem_cons_self ..) hp];exact h6
   ·simp [hp];split <;> omega
theorem np {ts : List Ty} {k : Nat} (h : ¬ eJ ts k) : ts.countP (bQ ts k) < ts.countP (bQ ts (k + 1)):=by
 refine sj (fun x _=>lI ts k x) ?_
 unfold eJ at h
 simp only [Classical.not_forall] at h
 obtain ⟨t,ht,hne⟩:=h
 refine ⟨t,ht,?_⟩
 cases h1 : bQ ts k t with
 | false =>
  refine ⟨?_,F⟩
  cases h2 : bQ ts (k + 1) t with
  | false=>rw [h1,h2] at hne;exact absurd F hne
  | true=>rfl
 | true=>rw [lI ts k t h1,h1] at hne;exact absurd F hne
theorem vl (ts : List Ty) (k : Nat) : eJ ts k ∨ k + 1 ≤ ts.countP (bQ ts (k + 1)):=by
 induction k with
 | zero =>
  by_cases h : eJ ts 0
  ·exact .inl h
  ·have:=np h;exact .inr oM
 | succ k ih =>
  by_cases h : eJ ts (k + 1)
  ·exact .inl h
  ·have:=np h
   rcases ih with h3 | h3
   ·exact absurd (nw h3) h
   ·exact .inr oM
theorem yU {ts : List Ty} {t : Ty} (hl : ts.length ≤ 8) (ht : t ∈ ts) : bQ ts 9 t = bQ ts (ts.length + 1) t:=by
 have hs : eJ ts ts.length:=by
  rcases vl ts ts.length with h | h
  ·exact h
  ·have:=List.countP_le_length (p:=bQ ts (ts.length + 1)) (l:=ts)
   omega
 have h1:=oR hs (9 - ts.length) t ht
 have h2:=oR hs 1 t ht
 rw [show ts.length + (9 - ts.length) = 9 by omega] at h1
 rw [h1,h2]
def fB (k : Nat) (s : ac1) : Int:=if (aG k s).2.2 = true then ((aG k s).1.length : Int) else -1
theorem gP {k : Nat} : ∀ {s a b : ac1},aG k s = (a,b,true) → ∃ c : UInt8,c.toNat = k ∧ s = a ++ c :: b
 | [],a,b,h=>by simp [aG] at h
 | c :: r,a,b,h=>by
  unfold aG at h
  split at h
  ·rename_i hc
   simp only [Prod.mk.injEq,and_true] at h
   obtain ⟨rfl,rfl⟩:=h
   exact ⟨c,hc,F⟩
  ·simp only [Prod.mk.injEq] at h
   obtain ⟨rfl,h2,h3⟩:=h
   obtain ⟨d,hd,hr⟩:=gP (k:=k) (s:=r) (a:=(aG k r).1) (b:=b) (by rw [← h2,← h3])
   exact ⟨d,hd,by rw [List.cons_append,← hr]⟩
theorem eW {k : Nat} : ∀ {s : ac1},(aG k s).2.2 = false → aG k s = (s,[],false)
 | [],h=>rfl
 | c :: r,h=>by
  unfold aG at h ⊢
  split at h
  ·cases h
  ·rename_i hc
   rw [if_neg hc,eW (s:=r) h]
theorem jw {k : Nat} {s : ac1} : (aG k s).1.length ≤ s.length ∧ (aG k s).2.1.length ≤ s.length:=by
 cases h : (aG k s).2.2 with
 | false=>rw [eW h];simp
 | true =>
  obtain ⟨c,_,e⟩:=gP (k:=k) (s:=s) (a:=(aG k s).1) (b:=(aG k s).2.1) (by rw [← h])
  have:=congrArg List.length e
  simp at this
  omega
theorem pY (s : ac1) (c : UInt8) : Lib.indexByte s c = fB c.toNat s:=by
 induction s with
 | nil=>rfl
 | cons b r ih =>
  unfold Lib.indexByte
  by_cases hb : b = c
  ·subst hb;simp [fB,aG]
  ·have hb2 : ¬ b.toNat = c.toNat:=fun h=>hb (UInt8.toNat_inj.1 h)
   have hb3 : (b == c) = false:=by simpa using hb
   rw [hb3,ih]
   unfold fB
   rw [aG,if_neg hb2]
   dsimp only
   cases (aG c.toNat r).2.2 <;> simp
theorem sS {s : ac1} {c : UInt8} : aC ac0 191 [S s,U8 c.toNat] G (· = I (fB c.toNat s)):=by
 have hx : ∀ w,(callFunc 198 [S s,U8 c.toNat].toArray).run ac0 w = .ok (.value (I (fB c.toNat s))) w:=fun w=>by
  rw [run_callFunc_extern Tryz.func198 kR kR kR (e:=Extern.BytealgIndexByte.indexByte) kR]
  have:=Lib.run_indexByteString (P:=ac0) ⟨s.toArray⟩ (c.toNat : Int) w
  rw [this]
  simp only [Result.andThen]
  rw [pY]
  simp
 refine jE [(0,_),(1,_)] Tryz.func191 Tryz.ntmps191 fun B hB=>?_
 repeat' (refine jR ?_)
 refine uB F (k6 (og F F F hx) F F ?_)
 repeat' (refine jR ?_)
 refine jY (vs:=[_]) ?_
 rfl
theorem vB (c : UInt8) : fB c.toNat [c] = 0:=by simp [fB,aG]
theorem sR {s : ac1} {c : UInt8} : aC ac0 179 [S s,S [c]] G (· = I (fB c.toNat s)):=by
 have e0 : ((bt [c] (Int.toNat 0) : Nat) : Int) = c.toNat:=by rw [show Int.toNat 0 = 0 from rfl,a6]
 by_cases hs : [c] = s
 ·subst hs
  rw [vB]
  refine jE [(0,_),(1,_)] Tryz.func179 Tryz.ntmps179 fun B hB=>?_
  repeat' (first | refine jR ?_ | (refine jo ?_;refine aw F ?_) | refine aj F F F ?_ | refine ac F (ar F) ?_)
  all_goals refine jY (vs:=[_]) ?_
  all_goals rfl
 ·have cx_ib : aC ac0 191 [S s,U8 (bt [c] (Int.toNat 0))] G (· = I (fB c.toNat s)):=by rw [show (bt [c] (Int.toNat 0)) = c.toNat from a6 c []];exact sS
  refine jE [(0,_),(1,_)] Tryz.func179 Tryz.ntmps179 fun B hB=>?_
  repeat' (first | refine jX ?_ | (refine jo ?_;first | refine aw F ?_ | refine ab F F F cx_ib F ?_) | refine aj F F F ?_ | refine ac F F ?_ | refine ad F (aA ‹_›) ?_)
  all_goals refine jY (vs:=[_]) ?_
  all_goals rfl
theorem t8 {s : ac1} {c : UInt8} : aC ac0 170 [S s,S [c]] G (· = I (fB c.toNat s)):=by
 refine jE [(0,_),(1,_)] Tryz.func170 Tryz.ntmps170 fun B hB=>?_
 repeat' (first | refine jR ?_ | (refine jo ?_;refine ab F F F sR F ?_))
 refine jY (vs:=[_]) ?_
 rfl
theorem pp (k : Nat) (s : ac1) : (fB k s = -1 ∧ aG k s = (s,[],false)) ∨ ∃ i : Nat,fB k s = i ∧ i < s.length ∧ aG k s = (s.take i,s.drop (i + 1),true):=by
 cases h : (aG k s).2.2 with
 | false=>exact .inl ⟨by simp [fB,h],eW h⟩
 | true =>
  obtain ⟨c,_,e⟩:=gP (k:=k) (s:=s) (a:=(aG k s).1) (b:=(aG k s).2.1) (by rw [← h])
  have h5 : aG k s = ((aG k s).1,(aG k s).2.1,true):=by rw [← h]
  have h6 : fB k s = ((aG k s).1.length : Int):=by simp [fB,h]
  generalize (aG k s).1 = a at *
  generalize (aG k s).2.1 = b at *
  refine .inr ⟨a.length,h6,?_,?_⟩
  ·have:=congrArg List.length e
   simp at this
   omega
  ·rw [h5,e];simp
theorem abl {s : ac1} {c : UInt8} (h : s.length ≤ 9000000000000000000) : aC ac0 154 [S s,S [c]] G (· = Tu [S (aG c.toNat s).1,S (aG c.toNat s).2.1,Bo (aG c.toNat s).2.2]):=by
 have hix:=sR (G:=G) (s:=s) (c:=c)
 rcases pp c.toNat s with ⟨h1,h2⟩ | ⟨i,h1,h3,h2⟩
 ·rw [h2]
  have cx_ix : aC ac0 179 [S s,S [c]] G (· = I (-1)):=by rwa [h1] at hix
  refine jE [(0,_),(1,_)] Tryz.func154 Tryz.ntmps154 fun B hB=>?_
  repeat' (first | refine jR ?_ | (refine jo ?_;refine ab F F F cx_ix F ?_) | refine ad F F ?_)
  all_goals refine jY (vs:=[_,_,_]) ?_
  all_goals rfl
 ·rw [h2]
  have cx_ix : aC ac0 179 [S s,S [c]] G (· = I (i : Int)):=by rwa [h1] at hix
  have e2 : ((i : Int) + (([c] : ac1).length : Nat)).toNat = i + 1:=by simp only [List.length_cons,List.length_nil];omega
  refine jE [(0,_),(1,_)] Tryz.func154 Tryz.ntmps154 fun B hB=>?_
  repeat' (first | refine jR ?_ | (refine jo ?_;refine ab F F F cx_ix F ?_) | refine ac F F ?_ | (refine ai (am (id:=3) _ (fun _ h=>h) ah ?_);refine jW 0 [0,1,2,3,4,5,6,7,8,9,10,11] (aa 12 4095) ?_;refine jQ ?_))
  all_goals refine jY (vs:=[_,_,_]) ?_
  all_goals (rfl)
theorem pJ {s : ac1} {c : UInt8} (h : s.length ≤ 9000000000000000000) : aC ac0 116 [S s,S [c]] G (· = Tu [S (aG c.toNat s).1,S (aG c.toNat s).2.1,Bo (aG c.toNat s).2.2]):=by
 refine jE [(0,_),(1,_)] Tryz.func116 Tryz.ntmps116 fun B hB=>?_
 repeat' (first | refine jR ?_ | (refine jo ?_;refine ab F F F (abl oM) F ?_))
 all_goals refine jY (vs:=[_,_,_]) ?_
 all_goals rfl
theorem uY {s : ac1} {c : UInt8} : aC ac0 155 [S s,S [c]] G (· = Bo (decide (0 ≤ fB c.toNat s))):=by
 refine jE [(0,_),(1,_)] Tryz.func155 Tryz.ntmps155 fun B hB=>?_
 repeat' (first | refine jR ?_ | (refine jo ?_;refine ab F F F t8 F ?_))
 all_goals refine jY (vs:=[_]) ?_
 all_goals rfl
def fE (k : Nat) (s : ac1) : Prop:=∀ c ∈ s,c.toNat ≠ k
def aM (c : UInt8) : List ac1 → ac1
 | []=>[]
 | [x]=>x
 | x :: y :: r=>x ++ c :: aM c (y :: r)
theorem lB (c : UInt8) (x : ac1) {xs : List ac1} (h : xs ≠ []) : aM c (x :: xs) = x ++ c :: aM c xs:=by
 cases xs with
 | nil=>exact absurd F h
 | cons y r=>rfl
theorem kr {c : UInt8} : ∀ {s acc : ac1},fE c.toNat acc → aM c (dM c.toNat acc s) = acc ++ s ∧ ∀ x ∈ dM c.toNat acc s,fE c.toNat x
 | [],acc,h=>by simp [dM,aM];exact h
 | d :: r,acc,h=>by
  unfold dM
  split
  ·rename_i hd
   have hd : d = c:=UInt8.toNat_inj.1 hd
   subst hd
   have ih:=kr (c:=d) (s:=r) (acc:=[]) (by intro x hx;cases hx)
   have hp : dM d.toNat [] r ≠ []:=fun e=>by have:=oy (k:=d.toNat) (s:=r) (acc:=[]);rw [e] at this;simp at this
   refine ⟨by rw [lB d acc hp,ih.1];rfl,fun x hx=>?_⟩
   rcases List.mem_cons.1 hx with rfl | hx
   ·exact h
   ·exact ih.2 x hx
  ·rename_i hd
   have ih:=kr (c:=c) (s:=r) (acc:=acc ++ [d]) (by
    intro x hx
    rcases List.mem_append.1 hx with hx | hx
    ·exact h x hx
    ·simp only [List.mem_singleton] at hx;subst hx;exact hd)
   exact ⟨by rw [ih.1];simp,ih.2⟩
theorem lL (c : UInt8) (s : ac1) : aM c (aV c.toNat s) = s:=by have:=(kr (c:=c) (s:=s) (acc:=[]) (by intro x hx;cases hx)).1;simpa [aV] using this
theorem yW {c : UInt8} {s x : ac1} (h : x ∈ aV c.toNat s) : fE c.toNat x:=(kr (c:=c) (s:=s) (acc:=[]) (by intro x hx;cases hx)).2 x h
theorem ox {k : Nat} : ∀ {s acc t : ac1},fE k s → dM k acc (s ++ t) = dM k (acc ++ s) t
 | [],acc,t,_=>by simp
 | d :: r,acc,t,h=>by
  rw [List.cons_append,dM,if_neg (h d (by simp)),ox (fun c hc=>h c (by simp [hc]))];simp
theorem pA {k : Nat} {s : ac1} (h : fE k s) : aV k s = [s]:=by
 have:=ox (k:=k) (s:=s) (acc:=[]) (t:=[]) h
 simpa [aV,dM] using this
theorem qf {k : Nat} {s t : ac1} {c : UInt8} (h : fE k s) (hc : c.toNat = k) : aV k (s ++ c :: t) = s :: aV k t:=by
 unfold aV
 rw [ox h,dM,if_pos hc];rfl
theorem od {c : UInt8} : ∀ {xs : List ac1},xs ≠ [] → (∀ x ∈ xs,fE c.toNat x) → aV c.toNat (aM c xs) = xs
 | [],h,_=>absurd rfl h
 | [x],_,h=>pA (h x (by simp))
 | x :: y :: r,_,h=>by
  rw [aM,qf (h x (by simp)) rfl,od (by simp) fun z hz=>h z (by simp at hz ⊢;exact .inr hz)]
theorem xe {k : Nat} {s t : ac1} {c : UInt8} (h : fE k s) (hc : c.toNat = k) : aG k (s ++ c :: t) = (s,t,true):=by
 induction s with
 | nil=>rw [List.nil_append,aG,if_pos hc]
 | cons d r ih=>rw [List.cons_append,aG,if_neg (h d (by simp)),ih fun x hx=>h x (by simp [hx])]
theorem si {k : Nat} {s : ac1} (h : fE k s) : aG k s = (s,[],false):=by
 induction s with
 | nil=>rfl
 | cons d r ih=>rw [aG,if_neg (h d (by simp)),ih fun x hx=>h x (by simp [hx])]
theorem oz {k : Nat} : ∀ {s : ac1},fE k (aG k s).1
 | []=>by intro c hc;cases hc
 | d :: r=>by
  unfold aG
  split
  ·intro c hc;cases hc
  ·rename_i hd
   intro c hc
   rcases List.mem_cons.1 hc with rfl | hc
   ·exact hd
   ·exact oz c hc
theorem lM {k : Nat} (s : ac1) : aV k s = if (aG k s).2.2 = true then (aG k s).1 :: aV k (aG k s).2.1 else [s]:=by
 cases h : (aG k s).2.2 with
 | false =>
  rw [if_neg (by simp)]
  have h1:=eW h
  refine pA ?_
  have:=oz (k:=k) (s:=s)
  rwa [h1] at this
 | true =>
  rw [if_pos rfl]
  obtain ⟨c,hc,e⟩:=gP (k:=k) (s:=s) (a:=(aG k s).1) (b:=(aG k s).2.1) (by rw [← h])
  conv=>{ lhs;rw [e] }
  exact qf oz hc
theorem lC {s : ac1} {k : Nat} (h : cn s = true) (hk : k < 97) : fE k s:=by
 intro c hc
 simp only [cn,Bool.and_eq_true,List.all_eq_true] at h
 have:=h.1 c hc
 simp only [kg,decide_eq_true_eq] at this
 omega
theorem se {n m : Int} : ∀ {s : ac1},cY n s = some m → ∀ c ∈ s,48 ≤ c.toNat ∧ c.toNat ≤ 57
 | [],_,c,hc=>by cases hc
 | d :: r,h,c,hc=>by
  unfold cY at h
  split at h
  ·rename_i hd
   rcases List.mem_cons.1 hc with rfl | hc
   ·exact hd
   ·exact se h c hc
  ·cases h
theorem qG {s : ac1} {top n : Int} (h : aL s top = some n) : ∀ c ∈ s,48 ≤ c.toNat ∧ c.toNat ≤ 57:=by
 unfold aL at h
 split at h
 ·split at h
  ·rename_i hd;exact se hd
  ·cases h
 ·cases h
theorem mB {s : ac1} {top n : Int} {k : Nat} (h : aL s top = some n) (hk : 57 < k) : fE k s:=fun c hc=>by
 have:=qG h c hc;omega
theorem vA {s : ac1} (h : cX s = true) {c : UInt8} (hc : c ∈ s) : c.toNat = 39 ∨ iP c.toNat:=by
 unfold cX at h
 simp only [decide_eq_true_eq] at h
 obtain ⟨h1,h2,h3,h4⟩:=h
 obtain ⟨i,hi,rfl⟩:=List.mem_iff_getElem.1 hc
 have e : bt s i = (s[i]).toNat:=by simp [bt,List.getD,List.getElem?_eq_getElem hi]
 rw [← e]
 rcases Nat.lt_or_ge i (s.length - 1) with h5 | h5
 ·rcases h4 i h5 with h6 | h6
  ·subst h6;exact .inl h2
  ·exact .inr h6
 ·have : i = s.length - 1:=oM
  subst this;exact .inl h3
theorem nv {d v : ac1} {k : Nat} (h : bE d v = true) (hk : k = 58 ∨ k = 61) : fE k v:=by
 intro c hc
 unfold bE at h
 split at h
 ·simp only [Bool.and_eq_true] at h
  obtain ⟨n,hn⟩:=Option.isSome_iff_exists.1 h.1
  have:=qG hn c hc;omega
 ·split at h
  ·simp only [Bool.and_eq_true] at h
   have:=vA h.1 hc
   unfold iP at this;omega
  ·split at h
   ·simp only [decide_eq_true_eq] at h
    subst h
    simp only [List.mem_cons,List.not_mem_nil,or_false] at hc
    rcases hc with rfl | rfl | rfl <;> (rcases hk with rfl | rfl <;> decide)
   ·cases h
theorem lO : ∀ s : ac1,(bj s).length ≤ s.length
 | []=>Nat.le_refl _
 | c :: r=>by
  unfold bj
  split
  ·have:=lO r;simp;omega
  ·exact Nat.le_refl _
def sg (s : ac1) : ac1:=s.take (s.length - (bj s).length)
def nP : ac1 → ac1
 | []=>[]
 | c :: r=>if c.toNat = 64 then [64] else c :: r
def bs (s : ac1) : ac1:=nP (bj s)
def nm (s : ac1) : ac1:=(bz (bj s)).getD []
theorem tD {k : Nat} (hk : k = 58 ∨ k = 61) : ∀ {s : ac1},ep s = true → fE k s
 | [],h=>by cases h
 | c :: r,h=>by
  unfold ep at h
  split at h
  ·rename_i hc
   intro d hd
   rcases List.mem_cons.1 hd with rfl | hd
   ·omega
   ·exact tD hk h d hd
  ·split at h
   ·rename_i hc
    simp only [Bool.and_eq_true,decide_eq_true_eq] at h
    intro d hd
    rcases List.mem_cons.1 hd with rfl | hd
    ·omega
    ·obtain ⟨i,hi,rfl⟩:=List.mem_iff_getElem.1 hd
     rcases Nat.lt_or_ge i (r.length - 1) with h5 | h5
     ·refine lC h.2 oM _ ?_
      exact List.mem_iff_getElem.2 ⟨i,by simp;omega,by simp⟩
     ·have h1 : bt (c :: r) r.length = 59:=oM
      have e : i = r.length - 1:=oM
      obtain ⟨m,hm⟩ : ∃ m,r.length = m + 1:=⟨r.length - 1,oM⟩
      rw [hm,dG] at h1
      have : bt r m = (r[m]'oM).toNat:=by simp [bt,List.getD,List.getElem?_eq_getElem (show m < r.length by omega)]
      have e2 : i = m:=oM
      subst e2
      omega
   ·simp only [Bool.and_eq_true,Bool.or_eq_true,decide_eq_true_eq] at h
    intro d hd
    obtain ⟨rfl,h⟩:=h
    simp only [List.mem_singleton] at hd
    subst hd;omega
theorem gY {k : Nat} (hk : k = 58 ∨ k = 61) {s : ac1} (h : bA s = true) : fE k s:=by
 unfold bA at h;simp only [Bool.and_eq_true] at h;exact tD hk h.2
def mM (s : ac1) (k : Nat) : Option Fld :=
 match aV 58 (aG 61 s).1 with
 | [a,b]=>if k = 69 ∧ (aG 61 s).2.2 = false then
   match aL a 200 with
   | some n=>if 1 ≤ n ∧ cn b = true then some ⟨n,b,[],[]⟩ else none
   | none=>none
  else none
 | [a,b,c]=>if k = 69 then none else
   match aL a 200 with
   | some n=>if (1 ≤ n ∧ cn b = true) ∧ bA c = true ∧ ((aG 61 s).2.2 = true → k = 82 ∧ bE c (aG 61 s).2.1 = true) then some ⟨n,b,c,(aG 61 s).2.1⟩ else none
   | none=>none
 | _=>none
theorem f2 {k : Nat} {a b : ac1} : fE k (a ++ b) ↔ fE k a ∧ fE k b:=by
 constructor
 ·intro h;exact ⟨fun c hc=>h c (by simp [hc]),fun c hc=>h c (by simp [hc])⟩
 ·intro h c hc
  rcases List.mem_append.1 hc with hc | hc
  ·exact h.1 c hc
  ·exact h.2 c hc
theorem ii {k : Nat} {c : UInt8} {b : ac1} : fE k (c :: b) ↔ c.toNat ≠ k ∧ fE k b:=by
 constructor
 ·intro h;exact ⟨h c (by simp),fun d hd=>h d (by simp [hd])⟩
 ·intro h d hd
  rcases List.mem_cons.1 hd with rfl | hd
  ·exact h.1
  ·exact h.2 d hd
theorem uM {s : ac1} {xs : List ac1} (h : aV 58 s = xs) : s = aM 58 xs ∧ ∀ x ∈ xs,fE 58 x:=by
 subst h
 exact ⟨(lL 58 s).symm,fun x hx=>yW (c:=58) hx⟩
theorem qb (s : ac1) (k : Nat) : mM s k = bP s k:=by
 apply Option.ext
 intro f
 constructor
 ·intro h
  unfold mM at h
  split at h
  ·rename_i a b e
   split at h
   ·rename_i hk
    have hs:=eW hk.2
    rw [hs] at e
    unfold bP
    rw [e]
    simp only [hk.1,if_true]
    exact h
   ·cases h
  ·rename_i a b c e
   split at h
   ·cases h
   ·rename_i hk
    split at h
    ·rename_i n hn
     split at h
     ·rename_i hg
      simp only [Option.some.injEq] at h;subst h
      cases ht : (aG 61 s).2.2 with
      | false =>
       have hs:=eW ht
       rw [hs] at e ⊢
       have hc61 : aV 61 c = [c]:=pA (gY (.inr rfl) hg.2.1)
       unfold bP
       rw [e]
       simp [hk,hn,hg.1.1,hg.1.2,hc61,hg.2.1]
      | true =>
       have hst:=hg.2.2 ht
       obtain ⟨d,hd,es⟩:=gP (k:=61) (s:=s) (a:=(aG 61 s).1) (b:=(aG 61 s).2.1) (by rw [← ht])
       generalize (aG 61 s).1 = hd1 at *
       generalize (aG 61 s).2.1 = v at *
       have hd : d = 61:=UInt8.toNat_inj.1 hd
       subst hd
       obtain ⟨e1,e2⟩:=uM e
       have e3 : s = aM 58 [a,b,c ++ 61 :: v]:=by rw [es,e1];simp [aM]
       have e4 : aV 58 s = [a,b,c ++ 61 :: v]:=by
        rw [e3]
        refine od (c:=58) (by simp) fun x hx=>?_
        simp only [List.mem_cons,List.not_mem_nil,or_false] at hx
        rcases hx with rfl | rfl | rfl
        ·exact e2 _ (by simp)
        ·exact e2 _ (by simp)
        ·exact f2.2 ⟨e2 _ (by simp),ii.2 ⟨by decide,nv hst.2 (.inl F)⟩⟩
       have e5 : aV 61 (c ++ 61 :: v) = [c,v]:=by
        rw [qf (k:=61) (gY (.inr rfl) hg.2.1) rfl,pA (nv hst.2 (.inr rfl))]
       unfold bP
       rw [e4]
       simp [hk,hn,hg.1.1,hg.1.2,e5,hst.1,hst.2]
     ·cases h
    ·cases h
  ·cases h
 ·intro h
  unfold bP at h
  split at h
  ·rename_i a b e
   split at h
   ·rename_i hk
    split at h
    ·rename_i n hn
     split at h
     ·rename_i hg
      obtain ⟨e1,e2⟩:=uM e
      have hno : fE 61 s:=by rw [e1];simp only [aM];exact f2.2 ⟨mB hn oM,ii.2 ⟨by decide,lC hg.2 oM⟩⟩
      unfold mM
      rw [si hno,e]
      simp only [hk,hn,hg,and_self,if_true]
      exact h
     ·cases h
    ·cases h
   ·cases h
  ·rename_i a b c e
   split at h
   ·cases h
   ·rename_i hk
    split at h
    ·rename_i n hn
     split at h
     ·rename_i hg
      obtain ⟨e1,e2⟩:=uM e
      split at h
      ·rename_i d e3
       split at h
       ·rename_i hd
        simp only [Option.some.injEq] at h;subst h
        have e4 : c = d:=by have:=lL 61 c;rw [show (61 : UInt8).toNat = 61 from rfl,e3] at this;exact this.symm
        subst e4
        have hno : fE 61 s:=by rw [e1];simp only [aM];exact f2.2 ⟨mB hn oM,ii.2 ⟨by decide,f2.2 ⟨lC hg.2 oM,ii.2 ⟨by decide,gY (.inr F) hd⟩⟩⟩⟩
        unfold mM
        rw [si hno,e]
        simp [hk,hn,hg.1,hg.2,hd]
       ·cases h
      ·rename_i d v e3
       split at h
       ·rename_i hd
        simp only [Option.some.injEq] at h;subst h
        have e4 : c = d ++ 61 :: v:=by have:=lL 61 c;rw [show (61 : UInt8).toNat = 61 from rfl,e3] at this;exact this.symm
        subst e4
        have hkd:=mg hd.2
        have es : s = aM 58 [a,b,d] ++ 61 :: v:=by rw [e1];simp [aM]
        have hno : fE 61 (aM 58 [a,b,d]):=by simp only [aM];exact f2.2 ⟨mB hn oM,ii.2 ⟨by decide,f2.2 ⟨lC hg.2 oM,ii.2 ⟨by decide,gY (.inr F) hkd⟩⟩⟩⟩
        have e5 : aV 58 (aM 58 [a,b,d]) = [a,b,d]:=by
         refine od (c:=58) (by simp) fun x hx=>?_
         simp only [List.mem_cons,List.not_mem_nil,or_false] at hx
         rcases hx with rfl | rfl | rfl
         ·exact e2 _ (by simp)
         ·exact e2 _ (by simp)
         ·exact gY (.inl F) hkd
        unfold mM
        rw [es,xe (k:=61) hno rfl,e5]
        simp [hn,hg.1,hg.2,hkd,hd.1,hd.2]
       ·cases h
      ·cases h
     ·cases h
    ·cases h
  ·cases h
def tag0 (t : Ty) : Int:=(t.fields.headD default).tag
def cm (ts : List Ty) : Nat → ac1 → ac1
 | 0,_=>[]
 | _ + 1,[]=>[]
 | n + 1,c :: r=>if c.toNat = 91 then [91,93] else if c.toNat = 63 then [45] else
   match aT ts (c :: r) with
   | none=>fV (c :: r)
   | some t=>if t.sort = 82 then [123,125] else if t.sort = 69 then 35 :: a8 (tag0 t) else 60 :: (a8 (tag0 t) ++ 61 :: (cm ts n (fG t) ++ [62]))
def oQ (ts : List Ty) (k : ac1) : ac1:=cm ts (ts.length + 2) k
def bI (ts : List Ty) (f : Fld) : ac1:=if f.stand = [] then oQ ts f.kind else f.stand
def br (fs : List Fld) (tag : Int) : Option Fld:=fs.find? fun f=>decide (f.tag = tag)
structure AskW (ts us : List Ty) (m : List Pr) : Prop where
 nd : m.Nodup
 mem : ∀ p ∈ m,(∃ t ∈ ts,t.name = p.1) ∧ ∃ u ∈ us,u.name = p.2
theorem AskW.nil {ts us : List Ty} : AskW ts us []:=⟨List.nodup_nil,by simp⟩
theorem rO {α : Type} [DecidableEq α] : ∀ {l l' : List α},l.Nodup → (∀ x ∈ l,x ∈ l') → l.length ≤ l'.length
 | [],_,_,_=>Nat.zero_le _
 | a :: l,l',hn,hs=>by
  rw [List.nodup_cons] at hn
  have ha:=hs a (.head _)
  have:=rO (l:=l) (l':=l'.erase a) hn.2 fun x hx=>by
   have hx':=hs x (.tail _ hx)
   exact (List.mem_erase_of_ne (fun e=>hn.1 (by rw [← e];exact hx))).2 hx'
  rw [List.length_erase_of_mem ha] at this
  have hp : 0 < l'.length:=List.length_pos_of_mem ha
  simp only [List.length_cons];omega
theorem AskW.len {ts us : List Ty} {m : List Pr} (h : AskW ts us m) : m.length ≤ ts.length * us.length:=by
 have h1 : m.length ≤ (ts.flatMap fun t=>us.map fun u=>(t.name,u.name)).length:=rO h.nd fun p hp=>by
  obtain ⟨⟨t,ht,e1⟩,u,hu,e2⟩:=h.mem p hp
  exact List.mem_flatMap.2 ⟨t,ht,List.mem_map.2 ⟨u,hu,by rw [e1,e2]⟩⟩
 have h2 : ∀ ts : List Ty,(ts.flatMap fun t=>us.map fun u=>(t.name,u.name)).length = ts.length * us.length:=fun ts=>by
  induction ts with
  | nil=>simp
  | cons t ts ih=>rw [List.flatMap_cons,List.length_append,ih,List.length_map,List.length_cons,Nat.succ_mul,Nat.add_comm]
 rw [h2] at h1;exact h1
theorem mF {ts : List Ty} {k : ac1} (h : aE ts k = true) (hr : (bz (bj k)).isSome = true) : ∃ t,aT ts (bj k) = some t:=by
 unfold aE ew at h
 unfold aT
 cases hc : bz (bj k) with
 | none=>rw [hc] at hr;cases hr
 | some n =>
  rw [hc] at h
  simp only [Bool.and_eq_true] at h
  obtain ⟨_,h⟩:=h
  exact Option.isSome_iff_exists.1 h
inductive V where
 | nd (what : Nat) (text : ac1) (tag : Int) (kids : List V)
instance : Inhabited V:=⟨.nd 0 [] 0 []⟩
def V.what : V → Nat | .nd w _ _ _=>w
def V.text : V → ac1 | .nd _ x _ _=>x
def V.tag : V → Int | .nd _ _ t _=>t
def V.kids : V → List V | .nd _ _ _ ks=>ks
def dv (w : Nat) (x : ac1) (t : Int) (e : Bool) (j : ac1) : ac1 :=
 if w = 116 then 39 :: (x ++ [39]) else if w = 91 then 91 :: (j ++ [93]) else if w = 63 then (if e = true then [45] else 43 :: j)
 else if w = 61 then a8 t ++ 61 :: j else if w = 82 then 123 :: (j ++ [125]) else if w = 85 then 60 :: (a8 t ++ 61 :: (j ++ [62])) else if w = 69 then 35 :: a8 t else x
mutual
def V.out : V → ac1
 | .nd w x t ks=>dv w x t ks.isEmpty (aM 44 (V.outs ks))
def V.outs : List V → List ac1
 | []=>[]
 | v :: r=>V.out v :: V.outs r
end
mutual
def V.deep : V → Nat
 | .nd w _ _ ks=>if w = 61 then V.deeps ks else V.deeps ks + 1
def V.deeps : List V → Nat
 | []=>0
 | v :: r=>max (V.deep v) (V.deeps r)
end
def fF (w : Nat) (e : Bool) : Bool:=(decide (w = 110) || decide (w = 116) || decide (w = 102) || decide (w = 69)) || (decide (w = 63) && e)
mutual
def V.size : V → Nat
 | .nd w _ _ ks=>if fF w ks.isEmpty = true then 1 else V.sizes ks
def V.sizes : List V → Nat
 | []=>0
 | v :: r=>V.size v + V.sizes r
end
theorem V.outs_map : ∀ ks : List V,V.outs ks = ks.map V.out
 | []=>rfl
 | v :: r=>by rw [V.outs,V.outs_map r];rfl
def aY (c : UInt8) : Bool:=decide (48 ≤ c.toNat ∧ c.toNat ≤ 57)
def ce (top : Int) (s : ac1) : Option (Int × ac1):=(aL (s.takeWhile aY) top).map fun n=>(n,s.dropWhile aY)
def a9 (f : ac1 → Option (V × ac1)) : Nat → ac1 → List V → Option (List V × ac1)
 | 0,_,_=>none
 | m + 1,s,acc=>match f s with
  | none=>none
  | some (v,r)=>match r with
   | []=>none
   | c :: r'=>if c.toNat = 44 then a9 f m r' (acc ++ [v]) else if c.toNat = 93 then some (acc ++ [v],r') else none
def aQ (f : ac1 → ac1 → Option (V × ac1)) (t : Ty) (s : ac1) : Option ((Fld × V) × ac1) :=
 match ce 200 s with
 | none=>none
 | some (n,r)=>match br t.fields n with
  | none=>none
  | some d=>match r with
   | []=>none
   | c :: r'=>if c.toNat = 61 then (f d.kind r').map fun x=>((d,x.1),x.2) else none
def bK (ts : List Ty) (f : ac1 → ac1 → Option (V × ac1)) (t : Ty) : Nat → Int → ac1 → List V → Option (List V × ac1)
 | 0,_,_,_=>none
 | m + 1,last,s,acc=>match aQ f t s with
  | none=>none
  | some ((d,v),r)=>if d.tag ≤ last ∨ v.out = bI ts d then none else match r with
   | []=>none
   | c :: r'=>if c.toNat = 44 then bK ts f t m d.tag r' (acc ++ [.nd 61 [] d.tag [v]]) else if c.toNat = 125 then some (acc ++ [.nd 61 [] d.tag [v]],r') else none
def aZ (ts : List Ty) (f : ac1 → ac1 → Option (V × ac1)) (t : Ty) : ac1 → Option (V × ac1)
 | []=>none
 | c :: s=>if t.sort = 82 then
   (if c.toNat = 123 then (match s with
    | []=>none
    | c' :: r=>if c'.toNat = 125 then some (.nd 82 [] 0 [],r) else (bK ts f t (s.length + 1) 0 s []).map fun x=>(.nd 82 [] 0 x.1,x.2)) else none)
  else if t.sort = 69 then
   (if c.toNat = 35 then (match ce 200 s with
    | none=>none
    | some (n,r)=>if (br t.fields n).isSome = true then some (.nd 69 [] n [],r) else none) else none)
  else if c.toNat = 60 then (match aQ f t s with
    | none=>none
    | some ((d,v),r)=>match r with
     | []=>none
     | c' :: r'=>if c'.toNat = 62 then some (.nd 85 [] d.tag [v],r') else none)
   else none
def dh : ac1 → Option (V × ac1)
 | []=>none
 | c :: s=>if c.toNat = 39 then (match aG 39 s with
   | (x,r,true)=>if cX (39 :: (x ++ [39])) = true then some (.nd 116 x 0 [],r) else none
   | _=>none) else none
def d6 (s : ac1) : Option (V × ac1) :=
 if [121,101,115].isPrefixOf s = true then some (.nd 102 [121,101,115] 0 [],s.drop 3) else if [110,111].isPrefixOf s = true then some (.nd 102 [110,111] 0 [],s.drop 2) else none
def eM (ts : List Ty) (f : ac1 → ac1 → Option (V × ac1)) : ac1 → ac1 → Option (V × ac1)
 | [],_=>none
 | c :: k,s =>
  if c.toNat = 91 then (match s with
   | []=>none
   | d :: s'=>if d.toNat = 91 then (match s' with
     | []=>none
     | e :: r=>if e.toNat = 93 then some (.nd 91 [] 0 [],r) else (a9 (f k) 20 s' []).map fun x=>(.nd 91 [] 0 x.1,x.2)) else none)
  else if c.toNat = 63 then (match s with
   | []=>none
   | d :: s'=>if d.toNat = 45 then some (.nd 63 [] 0 [],s') else if d.toNat = 43 then (f k s').map fun x=>(.nd 63 [] 0 [x.1],x.2) else none)
  else match aT ts (c :: k) with
   | some t=>aZ ts f t s
   | none=>if c.toNat = 110 then (ce 999999 s).map fun x=>(.nd 110 (a8 x.1) 0 [],x.2) else if c.toNat = 116 then dh s else if c.toNat = 102 then d6 s else none
def rd (ts : List Ty) : Nat → ac1 → ac1 → Option (V × ac1)
 | 0,_,_=>none
 | n + 1,k,s=>eM ts (rd ts n) k s
def bV (ts : List Ty) (k s : ac1) : Option V:=if s.length ≤ 400 then (match rd ts 12 k s with
 | some (v,[])=>some v
 | _=>none) else none
theorem mv {f g : ac1 → Option (V × ac1)} (h : ∀ s x,f s = some x → g s = some x) : ∀ (m : Nat) (s : ac1) (acc : List V) {x : List V × ac1},a9 f m s acc = some x → a9 g m s acc = some x
 | 0,_,_,_,e=>by cases e
 | m + 1,s,acc,x,e=>by
  unfold a9 at e ⊢
  cases hf : f s with
  | none=>rw [hf] at e;cases e
  | some y =>
   rw [hf] at e
   rw [h s y hf]
   obtain ⟨v,r⟩:=y
   cases r with
   | nil=>exact e
   | cons c r =>
    dsimp only at e ⊢
    split at e
    ·rename_i hc;rw [if_pos hc];exact mv h m r _ e
    ·rename_i hc;rw [if_neg hc];exact e
theorem mw {f g : ac1 → ac1 → Option (V × ac1)} (h : ∀ k s x,f k s = some x → g k s = some x) (t : Ty) (s : ac1) {x : (Fld × V) × ac1} (e : aQ f t s = some x) : aQ g t s = some x:=by
 unfold aQ at e ⊢
 cases hn : ce 200 s with
 | none=>rw [hn] at e;cases e
 | some y =>
  rw [hn] at e
  obtain ⟨n,r⟩:=y
  dsimp only at e ⊢
  cases hd : br t.fields n with
  | none=>rw [hd] at e;cases e
  | some d =>
   rw [hd] at e
   cases r with
   | nil=>cases e
   | cons c r' =>
    dsimp only at e ⊢
    by_cases hc : c.toNat = 61
    ·rw [if_pos hc] at e ⊢
     cases hf : f d.kind r' with
     | none=>rw [hf] at e;cases e
     | some y=>rw [hf] at e;rw [h _ _ y hf];exact e
    ·rw [if_neg hc] at e;cases e
theorem nC {ts : List Ty} {f g : ac1 → ac1 → Option (V × ac1)} (h : ∀ k s x,f k s = some x → g k s = some x) (t : Ty) : ∀ (m : Nat) (last : Int) (s : ac1) (acc : List V) {x : List V × ac1},bK ts f t m last s acc = some x → bK ts g t m last s acc = some x
 | 0,_,_,_,_,e=>by cases e
 | m + 1,last,s,acc,x,e=>by
  unfold bK at e ⊢
  cases hf : aQ f t s with
  | none=>rw [hf] at e;cases e
  | some y =>
   rw [hf] at e
   rw [mw h t s hf]
   obtain ⟨⟨d,v⟩,r⟩:=y
   dsimp only at e ⊢
   split at e
   ·cases e
   ·rename_i hd
    rw [if_neg hd]
    cases r with
    | nil=>exact e
    | cons c r =>
     dsimp only at e ⊢
     split at e
     ·rename_i hc;rw [if_pos hc];exact nC h t m _ r _ e
     ·rename_i hc;rw [if_neg hc];exact e
theorem rC {ts : List Ty} {f g : ac1 → ac1 → Option (V × ac1)} (h : ∀ k s x,f k s = some x → g k s = some x) (t : Ty) : ∀ (s : ac1) {x : V × ac1},aZ ts f t s = some x → aZ ts g t s = some x
 | [],_,e=>by cases e
 | c :: s,x,e=>by
  unfold aZ at e ⊢
  dsimp only at e ⊢
  by_cases h82 : t.sort = 82
  ·rw [if_pos h82] at e ⊢
   by_cases hc : c.toNat = 123
   ·rw [if_pos hc] at e ⊢
    cases s with
    | nil=>exact e
    | cons c' r =>
     dsimp only at e ⊢
     by_cases hc' : c'.toNat = 125
     ·rw [if_pos hc'] at e ⊢;exact e
     ·rw [if_neg hc'] at e ⊢
      cases hf : bK ts f t ((c' :: r).length + 1) 0 (c' :: r) [] with
      | none=>rw [hf] at e;cases e
      | some y=>rw [hf] at e;rw [nC h t _ _ _ _ hf];exact e
   ·rw [if_neg hc] at e;cases e
  ·rw [if_neg h82] at e ⊢
   by_cases h69 : t.sort = 69
   ·rw [if_pos h69] at e ⊢;exact e
   ·rw [if_neg h69] at e ⊢
    by_cases hc : c.toNat = 60
    ·rw [if_pos hc] at e ⊢
     cases hf : aQ f t s with
     | none=>rw [hf] at e;cases e
     | some y=>rw [hf] at e;rw [mw h t s hf];exact e
    ·rw [if_neg hc] at e;cases e
theorem wI {ts : List Ty} {f g : ac1 → ac1 → Option (V × ac1)} (ih : ∀ k s x,f k s = some x → g k s = some x) : ∀ (k s : ac1) {x : V × ac1},eM ts f k s = some x → eM ts g k s = some x
 | [],_,_,e=>by cases e
 | c :: k,s,x,e=>by
  unfold eM at e ⊢
  dsimp only at e ⊢
  by_cases h91 : c.toNat = 91
  ·rw [if_pos h91] at e ⊢
   cases s with
   | nil=>exact e
   | cons d s' =>
    dsimp only at e ⊢
    by_cases hd : d.toNat = 91
    ·rw [if_pos hd] at e ⊢
     cases s' with
     | nil=>exact e
     | cons e' r =>
      dsimp only at e ⊢
      by_cases he : e'.toNat = 93
      ·rw [if_pos he] at e ⊢;exact e
      ·rw [if_neg he] at e ⊢
       cases hf : a9 (f k) 20 (e' :: r) [] with
       | none=>rw [hf] at e;cases e
       | some y=>rw [hf] at e;rw [mv (ih k) _ _ _ hf];exact e
    ·rw [if_neg hd] at e;cases e
  ·rw [if_neg h91] at e ⊢
   by_cases h63 : c.toNat = 63
   ·rw [if_pos h63] at e ⊢
    cases s with
    | nil=>exact e
    | cons d s' =>
     dsimp only at e ⊢
     by_cases hd : d.toNat = 45
     ·rw [if_pos hd] at e ⊢;exact e
     ·rw [if_neg hd] at e ⊢
      by_cases hd2 : d.toNat = 43
      ·rw [if_pos hd2] at e ⊢
       cases hf : f k s' with
       | none=>rw [hf] at e;cases e
       | some y=>rw [hf] at e;rw [ih k s' y hf];exact e
      ·rw [if_neg hd2] at e;cases e
   ·rw [if_neg h63] at e ⊢
    cases hr : aT ts (c :: k) with
    | none=>rw [hr] at e;exact e
    | some t=>rw [hr] at e;exact rC ih t s e
theorem tv {ts : List Ty} : ∀ (n : Nat) (k s : ac1) {x : V × ac1},rd ts n k s = some x → rd ts (n + 1) k s = some x
 | 0,_,_,_,e=>by cases e
 | n + 1,k,s,_,e=>wI (fun k s _ e=>tv n k s e) k s e
theorem xJ {ts : List Ty} {n m : Nat} (h : n ≤ m) {k s : ac1} {x : V × ac1} (e : rd ts n k s = some x) : rd ts m k s = some x:=by
  induction m with
  | zero => have : n = 0 := oM
            subst this;exact e
  | succ m ih =>
    by_cases hn : n = m + 1
    · subst hn;exact e
    · exact tv m k s (ih oM)
theorem V.deep_mem : ∀ {ks : List V} {v : V},v ∈ ks → V.deep v ≤ V.deeps ks
 | [],_,h=>by cases h
 | u :: ks,v,h=>by
  rw [V.deeps]
  rcases List.mem_cons.1 h with rfl | h
  ·exact Nat.le_max_left _ _
  ·exact Nat.le_trans (V.deep_mem h) (Nat.le_max_right _ _)
theorem V.deeps_le : ∀ {ks : List V} {n : Nat},(∀ v ∈ ks,V.deep v ≤ n) → V.deeps ks ≤ n
 | [],_,_=>by rw [V.deeps];exact Nat.zero_le _
 | u :: ks,n,h=>by
  rw [V.deeps]
  exact Nat.max_le.2 ⟨h u (.head _),V.deeps_le fun v hv=>h v (.tail _ hv)⟩
theorem ck {w : Nat} {x : ac1} {t : Int} {ks : List V} (h : ¬ w = 61) : V.deep (.nd w x t ks) = V.deeps ks + 1:=by rw [V.deep,if_neg h]
theorem lJ {t : Int} {v : V} : V.deep (.nd 61 [] t [v]) = V.deep v:=by rw [V.deep,if_pos rfl,V.deeps,V.deeps,Nat.max_zero]
theorem iu {f : ac1 → Option (V × ac1)} {p : V → Prop} (h : ∀ s x,f s = some x → p x.1) : ∀ (m : Nat) (s : ac1) (acc : List V) {x : List V × ac1},a9 f m s acc = some x → (∀ v ∈ acc,p v) → ∀ v ∈ x.1,p v
 | 0,_,_,_,e,_=>by cases e
 | m + 1,s,acc,x,e,ha=>by
  unfold a9 at e
  cases hf : f s with
  | none=>rw [hf] at e;cases e
  | some y =>
   rw [hf] at e
   have hy:=h s y hf
   obtain ⟨v,r⟩:=y
   have ha' : ∀ u ∈ acc ++ [v],p u:=fun u hu=>by
    rcases List.mem_append.1 hu with hu | hu
    ·exact ha u hu
    ·simp only [List.mem_singleton] at hu;subst hu;exact hy
   cases r with
   | nil=>cases e
   | cons c r =>
    dsimp only at e
    split at e
    ·exact iu h m r _ e ha'
    ·split at e
     ·simp only [Option.some.injEq] at e;subst e;exact ha'
     ·cases e
theorem nB {f g : ac1 → Option (V × ac1)} : ∀ (m : Nat) (s : ac1) (acc : List V) {x : List V × ac1},a9 f m s acc = some x → (∀ s y,f s = some y → y.1 ∈ x.1 → g s = some y) → a9 g m s acc = some x ∧ ∀ v ∈ acc,v ∈ x.1
 | 0,_,_,_,e,_=>by cases e
 | m + 1,s,acc,x,e,h=>by
  unfold a9 at e ⊢
  cases hf : f s with
  | none=>rw [hf] at e;cases e
  | some y =>
   rw [hf] at e
   have hy:=h s y hf
   obtain ⟨v,r⟩:=y
   cases r with
   | nil=>cases e
   | cons c r =>
    dsimp only at e hy
    split at e
    ·rename_i hc
     obtain ⟨h1,h2⟩:=nB m r _ e h
     rw [hy (h2 v (by simp))]
     dsimp only
     rw [if_pos hc]
     exact ⟨h1,fun u hu=>h2 u (List.mem_append_left _ hu)⟩
    ·rename_i hc
     split at e
     ·rename_i hc2
      simp only [Option.some.injEq] at e;subst e
      rw [hy (by simp)]
      dsimp only
      rw [if_neg hc,if_pos hc2]
      exact ⟨F,fun u hu=>List.mem_append_left _ hu⟩
     ·cases e
theorem fw {f : ac1 → ac1 → Option (V × ac1)} {t : Ty} {s : ac1} {x : (Fld × V) × ac1} (e : aQ f t s = some x) : x.1.1 ∈ t.fields ∧ ∃ s',f x.1.1.kind s' = some (x.1.2,x.2):=by
 unfold aQ at e
 cases hn : ce 200 s with
 | none=>rw [hn] at e;cases e
 | some y =>
  rw [hn] at e
  obtain ⟨n,r⟩:=y
  dsimp only at e
  cases hd : br t.fields n with
  | none=>rw [hd] at e;cases e
  | some d =>
   rw [hd] at e
   cases r with
   | nil=>cases e
   | cons c r' =>
    dsimp only at e
    by_cases hc : c.toNat = 61
    ·rw [if_pos hc] at e
     cases hf : f d.kind r' with
     | none=>rw [hf] at e;cases e
     | some y =>
      rw [hf] at e
      simp only [Option.map_some,Option.some.injEq] at e
      subst e
      exact ⟨List.mem_of_find?_eq_some hd,r',hf⟩
    ·rw [if_neg hc] at e;cases e
theorem kG {f g : ac1 → ac1 → Option (V × ac1)} {t : Ty} {s : ac1} {x : (Fld × V) × ac1} (e : aQ f t s = some x) (h : ∀ k s y,f k s = some y → y.1 = x.1.2 → g k s = some y) : aQ g t s = some x:=by
 unfold aQ at e ⊢
 cases hn : ce 200 s with
 | none=>rw [hn] at e;cases e
 | some y =>
  rw [hn] at e
  obtain ⟨n,r⟩:=y
  dsimp only at e ⊢
  cases hd : br t.fields n with
  | none=>rw [hd] at e;cases e
  | some d =>
   rw [hd] at e
   cases r with
   | nil=>cases e
   | cons c r' =>
    dsimp only at e ⊢
    by_cases hc : c.toNat = 61
    ·rw [if_pos hc] at e ⊢
     cases hf : f d.kind r' with
     | none=>rw [hf] at e;cases e
     | some y =>
      rw [hf] at e
      simp only [Option.map_some,Option.some.injEq] at e
      subst e
      rw [h _ _ _ hf rfl];rfl
    ·rw [if_neg hc] at e;cases e
theorem o4 {ts : List Ty} {f : ac1 → ac1 → Option (V × ac1)} {t : Ty} {p : V → Prop} (h : ∀ k s x,f k s = some x → ∀ n,p (.nd 61 [] n [x.1])) : ∀ (m : Nat) (last : Int) (s : ac1) (acc : List V) {x : List V × ac1},bK ts f t m last s acc = some x → (∀ v ∈ acc,p v) → ∀ v ∈ x.1,p v
 | 0,_,_,_,_,e,_=>by cases e
 | m + 1,last,s,acc,x,e,ha=>by
  unfold bK at e
  cases hf : aQ f t s with
  | none=>rw [hf] at e;cases e
  | some y =>
   rw [hf] at e
   obtain ⟨_,s',hs'⟩:=fw hf
   have hy:=h _ s' _ hs'
   obtain ⟨⟨d,v⟩,r⟩:=y
   dsimp only at e hy
   have ha' : ∀ u ∈ acc ++ [V.nd 61 [] d.tag [v]],p u:=fun u hu=>by
    rcases List.mem_append.1 hu with hu | hu
    ·exact ha u hu
    ·simp only [List.mem_singleton] at hu;subst hu;exact hy d.tag
   split at e
   ·cases e
   ·cases r with
    | nil=>cases e
    | cons c r =>
     dsimp only at e
     split at e
     ·exact o4 h m _ r _ e ha'
     ·split at e
      ·simp only [Option.some.injEq] at e;subst e;exact ha'
      ·cases e
theorem oZ {ts : List Ty} {f g : ac1 → ac1 → Option (V × ac1)} {t : Ty} : ∀ (m : Nat) (last : Int) (s : ac1) (acc : List V) {x : List V × ac1},bK ts f t m last s acc = some x → (∀ k s y,f k s = some y → (∃ n,V.nd 61 [] n [y.1] ∈ x.1) → g k s = some y) → bK ts g t m last s acc = some x ∧ ∀ v ∈ acc,v ∈ x.1
 | 0,_,_,_,_,e,_=>by cases e
 | m + 1,last,s,acc,x,e,h=>by
  unfold bK at e ⊢
  cases hf : aQ f t s with
  | none=>rw [hf] at e;cases e
  | some y =>
   rw [hf] at e
   obtain ⟨⟨d,v⟩,r⟩:=y
   dsimp only at e
   split at e
   ·cases e
   ·rename_i hd
    cases r with
    | nil=>cases e
    | cons c r =>
     dsimp only at e
     split at e
     ·rename_i hc
      obtain ⟨h1,h2⟩:=oZ m _ r _ e h
      have hg:=kG (g:=g) hf (fun k s y hy e2=>h k s y hy ⟨d.tag,by rw [e2];exact h2 _ (by simp)⟩)
      rw [hg]
      dsimp only
      rw [if_neg hd,if_pos hc]
      exact ⟨h1,fun u hu=>h2 u (List.mem_append_left _ hu)⟩
     ·rename_i hc
      split at e
      ·rename_i hc2
       simp only [Option.some.injEq] at e;subst e
       have hg:=kG (g:=g) hf (fun k s y hy e2=>h k s y hy ⟨d.tag,by rw [e2];simp⟩)
       rw [hg]
       dsimp only
       rw [if_neg hd,if_neg hc,if_pos hc2]
       exact ⟨F,fun u hu=>List.mem_append_left _ hu⟩
      ·cases e
theorem tw {ts : List Ty} {f g : ac1 → ac1 → Option (V × ac1)} : ∀ (k s : ac1) {x : V × ac1},eM ts f k s = some x → ∃ w tx tg ks,x.1 = .nd w tx tg ks ∧ ¬ w = 61 ∧ ((∀ k s y,f k s = some y → V.deep y.1 ≤ V.deeps ks → g k s = some y) → eM ts g k s = some x) ∧ ∀ n,(∀ k s y,f k s = some y → V.deep y.1 ≤ n) → V.deeps ks ≤ n
 | [],_,_,e=>by cases e
 | c :: k,s,x,e=>by
  unfold eM at e ⊢
  dsimp only at e ⊢
  have leaf : ∀ {w : Nat} {tx : ac1} {tg : Int} {q : Prop},x.1 = .nd w tx tg [] → ¬ w = 61 → q → ∃ w tx tg ks,x.1 = .nd w tx tg ks ∧ ¬ w = 61 ∧ ((∀ k s y,f k s = some y → V.deep y.1 ≤ V.deeps ks → g k s = some y) → q) ∧ ∀ n,(∀ k s y,f k s = some y → V.deep y.1 ≤ n) → V.deeps ks ≤ n :=
   fun h1 h2 h3=>⟨_,_,_,[],h1,h2,fun _=>h3,fun n _=>by rw [V.deeps];exact Nat.zero_le n⟩
  by_cases h91 : c.toNat = 91
  ·simp only [if_pos h91] at e ⊢
   cases s with
   | nil=>cases e
   | cons d s' =>
    dsimp only at e ⊢
    by_cases hd : d.toNat = 91
    ·simp only [if_pos hd] at e ⊢
     cases s' with
     | nil=>cases e
     | cons e' r =>
      dsimp only at e ⊢
      by_cases he : e'.toNat = 93
      ·simp only [if_pos he] at e ⊢
       have e2:=e
       simp only [Option.some.injEq] at e2;subst e2
       exact leaf F dC F
      ·simp only [if_neg he] at e ⊢
       cases hf : a9 (f k) 20 (e' :: r) [] with
       | none=>rw [hf] at e;cases e
       | some y =>
        rw [hf] at e
        simp only [Option.map_some,Option.some.injEq] at e;subst e
        refine ⟨91,[],0,y.1,F,by decide,fun h=>?_,fun n h=>?_⟩
        ·rw [(nB (g:=g k) _ _ _ hf fun s u hu hm=>h k s u hu (V.deep_mem hm)).1];rfl
        ·exact V.deeps_le fun v hv=>iu (p:=fun v=>V.deep v ≤ n) (fun s u hu=>h k s u hu) _ _ _ hf (by simp) v hv
    ·simp only [if_neg hd] at e;cases e
  ·simp only [if_neg h91] at e ⊢
   by_cases h63 : c.toNat = 63
   ·simp only [if_pos h63] at e ⊢
    cases s with
    | nil=>cases e
    | cons d s' =>
     dsimp only at e ⊢
     by_cases hd : d.toNat = 45
     ·simp only [if_pos hd] at e ⊢
      have e2:=e
      simp only [Option.some.injEq] at e2;subst e2
      exact leaf F dC F
     ·simp only [if_neg hd] at e ⊢
      by_cases hd2 : d.toNat = 43
      ·simp only [if_pos hd2] at e ⊢
       cases hf : f k s' with
       | none=>rw [hf] at e;cases e
       | some y =>
        rw [hf] at e
        simp only [Option.map_some,Option.some.injEq] at e;subst e
        refine ⟨63,[],0,[y.1],F,by decide,fun h=>?_,fun n h=>?_⟩
        ·rw [h k s' y hf (V.deep_mem (by simp))];rfl
        ·exact V.deeps_le fun v hv=>by simp only [List.mem_singleton] at hv;subst hv;exact h k s' y hf
      ·simp only [if_neg hd2] at e;cases e
   ·simp only [if_neg h63] at e ⊢
    cases hr : aT ts (c :: k) with
    | none =>
     rw [hr] at e
     dsimp only at e ⊢
     by_cases h1 : c.toNat = 110
     ·simp only [if_pos h1] at e ⊢
      cases hn : ce 999999 s with
      | none=>rw [hn] at e;cases e
      | some y =>
       rw [hn] at e
       have e2:=e
       simp only [Option.map_some,Option.some.injEq] at e2;subst e2
       exact leaf F dC F
     ·simp only [if_neg h1] at e ⊢
      by_cases h2 : c.toNat = 116
      ·simp only [if_pos h2] at e ⊢
       refine leaf (w:=116) (tx:=x.1.text) (tg:=0) ?_ dC e
       unfold dh at e
       split at e
       ·cases e
       ·split at e
        ·split at e
         ·split at e
          ·simp only [Option.some.injEq] at e;subst e;rfl
          ·cases e
         ·cases e
        ·cases e
      ·simp only [if_neg h2] at e ⊢
       by_cases h3 : c.toNat = 102
       ·simp only [if_pos h3] at e ⊢
        refine leaf (w:=102) (tx:=x.1.text) (tg:=0) ?_ dC e
        unfold d6 at e
        split at e
        ·simp only [Option.some.injEq] at e;subst e;rfl
        ·split at e
         ·simp only [Option.some.injEq] at e;subst e;rfl
         ·cases e
       ·simp only [if_neg h3] at e;cases e
    | some t =>
     rw [hr] at e
     dsimp only at e ⊢
     unfold aZ at e ⊢
     cases s with
     | nil=>cases e
     | cons d s =>
      dsimp only at e ⊢
      by_cases h82 : t.sort = 82
      ·simp only [if_pos h82] at e ⊢
       by_cases hd : d.toNat = 123
       ·simp only [if_pos hd] at e ⊢
        cases s with
        | nil=>cases e
        | cons d' r =>
         dsimp only at e ⊢
         by_cases hd' : d'.toNat = 125
         ·simp only [if_pos hd'] at e ⊢
          have e2:=e
          simp only [Option.some.injEq] at e2;subst e2
          exact leaf F dC F
         ·simp only [if_neg hd'] at e ⊢
          cases hf : bK ts f t ((d' :: r).length + 1) 0 (d' :: r) [] with
          | none=>rw [hf] at e;cases e
          | some y =>
           rw [hf] at e
           simp only [Option.map_some,Option.some.injEq] at e;subst e
           refine ⟨82,[],0,y.1,F,by decide,fun h=>?_,fun n h=>?_⟩
           ·rw [(oZ (g:=g) _ _ _ _ hf fun k s u hu hm=>h k s u hu (by obtain ⟨n,hm⟩:=hm;have:=V.deep_mem hm;rwa [lJ] at this)).1];rfl
           ·exact V.deeps_le fun v hv=>o4 (p:=fun v=>V.deep v ≤ n) (fun k s u hu m=>by rw [lJ];exact h k s u hu) _ _ _ _ hf (by simp) v hv
       ·simp only [if_neg hd] at e;cases e
      ·simp only [if_neg h82] at e ⊢
       by_cases h69 : t.sort = 69
       ·simp only [if_pos h69] at e ⊢
        refine leaf (w:=69) (tx:=[]) (tg:=x.1.tag) ?_ dC e
        split at e
        ·split at e
         ·cases e
         ·split at e
          ·simp only [Option.some.injEq] at e;subst e;rfl
          ·cases e
        ·cases e
       ·simp only [if_neg h69] at e ⊢
        by_cases hd : d.toNat = 60
        ·simp only [if_pos hd] at e ⊢
         cases hf : aQ f t s with
         | none=>rw [hf] at e;cases e
         | some y =>
          rw [hf] at e
          obtain ⟨⟨fd,v⟩,r⟩:=y
          cases r with
          | nil=>cases e
          | cons c' r =>
           dsimp only at e
           by_cases hc' : c'.toNat = 62
           ·simp only [if_pos hc',Option.some.injEq] at e;subst e
            refine ⟨85,[],fd.tag,[v],F,by decide,fun h=>?_,fun n h=>?_⟩
            ·rw [kG (g:=g) hf fun k s u hu e2=>h k s u hu (by rw [e2];exact V.deep_mem (by simp))]
             dsimp only
             rw [if_pos hc']
            ·obtain ⟨_,s',hs'⟩:=fw hf
             exact V.deeps_le fun u hu=>by simp only [List.mem_singleton] at hu;subst hu;exact h _ _ _ hs'
           ·simp only [if_neg hc'] at e;cases e
        ·simp only [if_neg hd] at e;cases e
theorem iV {ts : List Ty} : ∀ (n : Nat) (k s : ac1) (x : V × ac1),rd ts n k s = some x → V.deep x.1 ≤ n
 | 0,_,_,_,e=>by cases e
 | n + 1,k,s,x,e=>by
  obtain ⟨w,tx,tg,ks,h1,h2,_,h4⟩:=tw (g:=rd ts n) k s e
  rw [h1,ck h2]
  have:=h4 n fun k s y hy=>iV n k s y hy
  omega
theorem xL {ts : List Ty} : ∀ (n m : Nat) (k s : ac1) (x : V × ac1),rd ts n k s = some x → V.deep x.1 ≤ m → rd ts m k s = some x
 | 0,_,_,_,_,e,_=>by cases e
 | n + 1,m,k,s,x,e,hm=>by
  obtain ⟨w,tx,tg,ks,h1,h2,h3,_⟩:=tw (g:=rd ts (m - 1)) k s e
  rw [h1,ck h2] at hm
  obtain ⟨m,rfl⟩ : ∃ j,m = j + 1:=⟨m - 1,oM⟩
  exact h3 fun k s y hy hd=>xL n m k s y hy oM
theorem bn {c : UInt8} {n : Nat} (h : c.toNat = n) (hn : n < 256) : c = UInt8.ofNat n:=by
 apply UInt8.toNat_inj.1;rw [h,UInt8.toNat_ofNat'];omega
theorem j7 {top : Int} {s r : ac1} {n : Int} (h : ce top s = some (n,r)) : s = a8 n ++ r:=by
 unfold ce at h
 cases hn : aL (s.takeWhile aY) top with
 | none=>rw [hn] at h;cases h
 | some q =>
  rw [hn] at h
  simp only [Option.map_some,Option.some.injEq,Prod.mk.injEq] at h
  obtain ⟨rfl,rfl⟩:=h
  rw [← (dm hn).2.1,List.takeWhile_append_dropWhile]
theorem nA {f : ac1 → Option (V × ac1)} (h : ∀ s y,f s = some y → s = y.1.out ++ y.2) : ∀ (m : Nat) (s : ac1) (acc : List V) {x : List V × ac1},a9 f m s acc = some x → ∃ vs,vs ≠ [] ∧ x.1 = acc ++ vs ∧ s = aM 44 (vs.map V.out) ++ 93 :: x.2
 | 0,_,_,_,e=>by cases e
 | m + 1,s,acc,x,e=>by
  unfold a9 at e
  cases hf : f s with
  | none=>rw [hf] at e;cases e
  | some y =>
   rw [hf] at e
   have hy:=h s y hf
   obtain ⟨v,r⟩:=y
   cases r with
   | nil=>cases e
   | cons c r =>
    dsimp only at e hy
    split at e
    ·rename_i hc
     obtain ⟨vs,h1,h2,h3⟩:=nA h m r _ e
     have hc2:=bn hc dC
     refine ⟨v :: vs,by simp,by rw [h2];simp,?_⟩
     rw [hy,h3,List.map_cons,lB _ _ (by simpa using h1),hc2]
     simp
    ·split at e
     ·rename_i hc2
      have hc3:=bn hc2 dC
      simp only [Option.some.injEq] at e;subst e
      exact ⟨[v],by simp,F,by rw [hy,hc3];rfl⟩
     ·cases e
theorem fx {t : Int} {v : V} : V.out (.nd 61 [] t [v]) = a8 t ++ 61 :: v.out:=by
 rw [V.out,V.outs,V.outs];simp [dv,aM]
theorem nE {f : ac1 → ac1 → Option (V × ac1)} (h : ∀ k s y,f k s = some y → s = y.1.out ++ y.2) {t : Ty} {s : ac1} {x : (Fld × V) × ac1} (e : aQ f t s = some x) : s = a8 x.1.1.tag ++ 61 :: (x.1.2.out ++ x.2):=by
 unfold aQ at e
 cases hn : ce 200 s with
 | none=>rw [hn] at e;cases e
 | some y =>
  rw [hn] at e
  obtain ⟨n,r⟩:=y
  have h1:=j7 hn
  dsimp only at e
  cases hd : br t.fields n with
  | none=>rw [hd] at e;cases e
  | some d =>
   rw [hd] at e
   have h2 : d.tag = n:=by have:=List.find?_some hd;simpa using this
   cases r with
   | nil=>cases e
   | cons c r' =>
    dsimp only at e
    by_cases hc : c.toNat = 61
    ·rw [if_pos hc] at e
     cases hf : f d.kind r' with
     | none=>rw [hf] at e;cases e
     | some y =>
      rw [hf] at e
      simp only [Option.map_some,Option.some.injEq] at e
      subst e
      have h3:=h _ _ _ hf
      dsimp only
      rw [h1,h2,h3,bn hc dC];rfl
    ·rw [if_neg hc] at e;cases e
theorem oY {ts : List Ty} {f : ac1 → ac1 → Option (V × ac1)} (h : ∀ k s y,f k s = some y → s = y.1.out ++ y.2) {t : Ty} : ∀ (m : Nat) (last : Int) (s : ac1) (acc : List V) {x : List V × ac1},bK ts f t m last s acc = some x → ∃ vs,vs ≠ [] ∧ x.1 = acc ++ vs ∧ s = aM 44 (vs.map V.out) ++ 125 :: x.2
 | 0,_,_,_,_,e=>by cases e
 | m + 1,last,s,acc,x,e=>by
  unfold bK at e
  cases hf : aQ f t s with
  | none=>rw [hf] at e;cases e
  | some y =>
   rw [hf] at e
   have hy:=nE h hf
   obtain ⟨⟨d,v⟩,r⟩:=y
   dsimp only at e hy
   split at e
   ·cases e
   ·cases r with
    | nil=>cases e
    | cons c r =>
     dsimp only at e
     split at e
     ·rename_i hc
      obtain ⟨vs,h1,h2,h3⟩:=oY h m _ r _ e
      have hc2:=bn hc dC
      refine ⟨V.nd 61 [] d.tag [v] :: vs,by simp,by rw [h2];simp,?_⟩
      rw [hy,h3,List.map_cons,lB _ _ (by simpa using h1),hc2,fx]
      simp
     ·split at e
      ·rename_i hc2
       have hc3:=bn hc2 dC
       simp only [Option.some.injEq] at e;subst e
       exact ⟨[V.nd 61 [] d.tag [v]],by simp,F,by rw [hy,hc3];simp [aM,fx]⟩
      ·cases e
theorem q8 {k : Nat} {c : UInt8} (hc : c.toNat = k) : ∀ {s x r : ac1},aG k s = (x,r,true) → s = x ++ c :: r
 | [],_,_,h=>by cases h
 | d :: s,x,r,h=>by
  unfold aG at h
  split at h
  ·rename_i hd
   simp only [Prod.mk.injEq,and_true] at h
   obtain ⟨rfl,rfl⟩:=h
   have : d = c:=UInt8.toNat_inj.1 (by rw [hd,hc])
   rw [this];rfl
  ·simp only [Prod.mk.injEq] at h
   obtain ⟨h1,h2,h3⟩:=h
   have ih:=q8 hc (s:=s) (x:=(aG k s).1) (r:=(aG k s).2.1) (by rw [← h3])
   rw [← h1,← h2,List.cons_append,← ih]
theorem pT {p s : ac1} (h : p.isPrefixOf s = true) : s = p ++ s.drop p.length:=by
 rw [List.isPrefixOf_iff_prefix] at h
 obtain ⟨t,rfl⟩:=h
 simp
theorem ny {s : ac1} {x : V × ac1} (e : dh s = some x) : s = x.1.out ++ x.2:=by
 unfold dh at e
 cases s with
 | nil=>cases e
 | cons c s =>
  dsimp only at e
  by_cases hc : c.toNat = 39
  ·rw [if_pos hc] at e
   rcases hq : aG 39 s with ⟨y,r,b⟩
   rw [hq] at e
   cases b with
   | false=>cases e
   | true =>
    dsimp only at e
    split at e
    ·simp only [Option.some.injEq] at e;subst e
     have h1:=q8 (c:=39) rfl hq
     rw [h1,bn hc dC]
     simp [V.out,dv]
    ·cases e
  ·rw [if_neg hc] at e;cases e
theorem o5 {s : ac1} {x : V × ac1} (e : d6 s = some x) : s = x.1.out ++ x.2:=by
 unfold d6 at e
 split at e
 ·rename_i h
  simp only [Option.some.injEq] at e;subst e
  have:=pT h
  simpa [V.out,dv] using this
 ·split at e
  ·rename_i h
   simp only [Option.some.injEq] at e;subst e
   have:=pT h
   simpa [V.out,dv] using this
  ·cases e
theorem n8 {ks : List V} {r : ac1} : V.out (.nd 91 [] 0 ks) ++ r = 91 :: (aM 44 (ks.map V.out) ++ 93 :: r):=by
 rw [V.out,V.outs_map];simp [dv]
theorem pW {ks : List V} {r : ac1} : V.out (.nd 82 [] 0 ks) ++ r = 123 :: (aM 44 (ks.map V.out) ++ 125 :: r):=by
 rw [V.out,V.outs_map];simp [dv]
theorem tB {v : V} {r : ac1} : V.out (.nd 63 [] 0 [v]) ++ r = 43 :: (v.out ++ r):=by
 rw [V.out,V.outs_map];simp [dv,aM]
theorem pU {v : V} {n : Int} {r : ac1} : V.out (.nd 85 [] n [v]) ++ r = 60 :: (a8 n ++ 61 :: (v.out ++ 62 :: r)):=by
 rw [V.out,V.outs_map];simp [dv,aM]
theorem yo {ts : List Ty} {f : ac1 → ac1 → Option (V × ac1)} (h : ∀ k s y,f k s = some y → s = y.1.out ++ y.2) : ∀ (k s : ac1) {x : V × ac1},eM ts f k s = some x → s = x.1.out ++ x.2
 | [],_,_,e=>by cases e
 | c :: k,s,x,e=>by
  unfold eM at e
  dsimp only at e
  by_cases h91 : c.toNat = 91
  ·simp only [if_pos h91] at e
   cases s with
   | nil=>cases e
   | cons d s' =>
    dsimp only at e
    by_cases hd : d.toNat = 91
    ·simp only [if_pos hd] at e
     cases s' with
     | nil=>cases e
     | cons e' r =>
      dsimp only at e
      by_cases he : e'.toNat = 93
      ·simp only [if_pos he,Option.some.injEq] at e;subst e
       rw [n8,bn hd dC,bn he dC];rfl
      ·simp only [if_neg he] at e
       cases hf : a9 (f k) 20 (e' :: r) [] with
       | none=>rw [hf] at e;cases e
       | some y =>
        rw [hf] at e
        simp only [Option.map_some,Option.some.injEq] at e;subst e
        obtain ⟨vs,_,h2,h3⟩:=nA (h k) _ _ _ hf
        rw [n8,h2,h3,bn hd dC];rfl
    ·simp only [if_neg hd] at e;cases e
  ·simp only [if_neg h91] at e
   by_cases h63 : c.toNat = 63
   ·simp only [if_pos h63] at e
    cases s with
    | nil=>cases e
    | cons d s' =>
     dsimp only at e
     by_cases hd : d.toNat = 45
     ·simp only [if_pos hd,Option.some.injEq] at e;subst e
      rw [bn hd dC];simp [V.out,dv]
     ·simp only [if_neg hd] at e
      by_cases hd2 : d.toNat = 43
      ·simp only [if_pos hd2] at e
       cases hf : f k s' with
       | none=>rw [hf] at e;cases e
       | some y =>
        rw [hf] at e
        simp only [Option.map_some,Option.some.injEq] at e;subst e
        rw [tB,← h k s' y hf,bn hd2 dC];rfl
      ·simp only [if_neg hd2] at e;cases e
   ·simp only [if_neg h63] at e
    cases hr : aT ts (c :: k) with
    | none =>
     rw [hr] at e
     dsimp only at e
     by_cases h1 : c.toNat = 110
     ·simp only [if_pos h1] at e
      cases hn : ce 999999 s with
      | none=>rw [hn] at e;cases e
      | some y =>
       rw [hn] at e
       simp only [Option.map_some,Option.some.injEq] at e;subst e
       rw [j7 hn];simp [V.out,dv]
     ·simp only [if_neg h1] at e
      by_cases h2 : c.toNat = 116
      ·simp only [if_pos h2] at e;exact ny e
      ·simp only [if_neg h2] at e
       by_cases h3 : c.toNat = 102
       ·simp only [if_pos h3] at e;exact o5 e
       ·simp only [if_neg h3] at e;cases e
    | some t =>
     rw [hr] at e
     dsimp only at e
     unfold aZ at e
     cases s with
     | nil=>cases e
     | cons d s =>
      dsimp only at e
      by_cases h82 : t.sort = 82
      ·simp only [if_pos h82] at e
       by_cases hd : d.toNat = 123
       ·simp only [if_pos hd] at e
        cases s with
        | nil=>cases e
        | cons d' r =>
         dsimp only at e
         by_cases hd' : d'.toNat = 125
         ·simp only [if_pos hd',Option.some.injEq] at e;subst e
          rw [pW,bn hd dC,bn hd' dC];rfl
         ·simp only [if_neg hd'] at e
          cases hf : bK ts f t ((d' :: r).length + 1) 0 (d' :: r) [] with
          | none=>rw [hf] at e;cases e
          | some y =>
           rw [hf] at e
           simp only [Option.map_some,Option.some.injEq] at e;subst e
           obtain ⟨vs,_,h2,h3⟩:=oY h _ _ _ _ hf
           rw [pW,h2,h3,bn hd dC];rfl
       ·simp only [if_neg hd] at e;cases e
      ·simp only [if_neg h82] at e
       by_cases h69 : t.sort = 69
       ·simp only [if_pos h69] at e
        by_cases hd : d.toNat = 35
        ·simp only [if_pos hd] at e
         cases hn : ce 200 s with
         | none=>rw [hn] at e;cases e
         | some y =>
          rw [hn] at e
          obtain ⟨n,r⟩:=y
          dsimp only at e
          split at e
          ·simp only [Option.some.injEq] at e;subst e
           rw [j7 hn,bn hd dC];simp [V.out,dv]
          ·cases e
        ·simp only [if_neg hd] at e;cases e
       ·simp only [if_neg h69] at e
        by_cases hd : d.toNat = 60
        ·simp only [if_pos hd] at e
         cases hf : aQ f t s with
         | none=>rw [hf] at e;cases e
         | some y =>
          rw [hf] at e
          have h3:=nE h hf
          obtain ⟨⟨fd,v⟩,r⟩:=y
          cases r with
          | nil=>cases e
          | cons c' r =>
           dsimp only at e h3
           by_cases hc' : c'.toNat = 62
           ·simp only [if_pos hc',Option.some.injEq] at e;subst e
            rw [pU,h3,bn hd dC,bn hc' dC];rfl
           ·simp only [if_neg hc'] at e;cases e
        ·simp only [if_neg hd] at e;cases e
theorem vn {ts : List Ty} : ∀ (n : Nat) (k s : ac1) (x : V × ac1),rd ts n k s = some x → s = x.1.out ++ x.2
 | 0,_,_,_,e=>by cases e
 | n + 1,k,s,x,e=>yo (fun k s y hy=>vn n k s y hy) k s e
theorem qq {ts : List Ty} {k s : ac1} {v : V} (h : bV ts k s = some v) : v.out = s ∧ s.length ≤ 400 ∧ V.deep v ≤ 12:=by
 unfold bV at h
 split at h
 ·rename_i hl
  split at h
  ·rename_i w hw
   simp only [Option.some.injEq] at h;subst h
   have h1:=vn _ _ _ _ hw
   have h2:=iV _ _ _ _ hw
   simp only [List.append_nil] at h1
   exact ⟨h1.symm,hl,h2⟩
  ·cases h
 ·cases h
end Go.E
