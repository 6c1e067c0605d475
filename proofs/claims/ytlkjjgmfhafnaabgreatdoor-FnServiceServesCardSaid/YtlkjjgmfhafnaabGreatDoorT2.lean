/- Contracts and plain laws that the statement rests on, part 2. Conditions: as each says. -/
import Derived.Test.YtlkjjgmfhafnaabGreatDoorT1
set_option linter.unusedVariables false
set_option linter.unusedSimpArgs false
namespace Go.E
section
variable {P : Program} {n : Nat} {D : List Deferred} {E : bd} {M : World → Prop} {d : Option Nat} {ty : TypeId} {pos : String} {aft : Array Edge} {gd : Option (Nat × Bool)}
theorem wL {x : Operand} {T el : TypeId} {size bytes : Nat} {zero : Value} {p : Option Addr} {len cap : Nat} [TI P T (.slice el) size bytes zero] (hx : ev E x = some (.slice p len cap)) : Gives P n D E M ⟨d,.call ⟨.builtin .cap,[x].toArray,[T].toArray⟩,ty,pos,aft,gd⟩ (I cap):=Gives.mk fun a w hs _=>by
 simp [execOp,resolve,hs.ev hx,invoke,builtin,Builtin.cap_,bP (T:=T) (desc:=.slice el) (size:=size) (bytes:=bytes) (zero:=zero),goInt]
theorem z9 {T el : TypeId} {x lo : Operand} {desc' : TypeDesc} {size bytes size' bytes' : Nat} {zero zero' : Value} {k : IntKind} {m : Int} {b o len cap : Nat} [TI P T (.slice el) size bytes zero] [TI P el desc' size' bytes' zero']
  (hx : ev E x = some (.slice (some ⟨b,o,none⟩) len cap)) (hl : ev E lo = some (.int k m)) (h0 : 0 ≤ m ∧ m ≤ len ∧ m < cap) :
  Gives P n D E M ⟨d,.slice T x (some lo) none none,ty,pos,aft,gd⟩ (.slice (some ⟨b,o + m.toNat * size',none⟩) (len - m.toNat) (cap - m.toNat)):=by
 obtain ⟨o',h1,h2⟩:=vS (P:=P) (n:=n) (D:=D) (M:=M) (d:=d) (ty:=ty) (pos:=pos) (aft:=aft) (gd:=gd) (T:=T) (el:=el) (desc':=desc') (size':=size') (bytes':=bytes') (zero':=zero') (size:=size) (bytes:=bytes) (zero:=zero) hx hl ⟨h0.1,h0.2.1⟩
 rw [← h1 h0.2.2];exact h2
theorem pa {S : World → Prop} {G0 : Gh} {L0 : List Own} [k : Kn S G0 L0] {b : Nat} {cs : List Value} {T0 : TypeId} {fr : Nat × Nat} (hm : Own.blk b (.cells cs.toArray T0 fr) ∈ L0) {w : World} (hw : S w) : w.shape? b = some (T0,cs.length):=by
 obtain ⟨B,G,L,_,hL,hst⟩:=k.kn w hw
 have h : w.heap[b]? = some (.cells cs.toArray T0 fr):=hst.own _ (hL _ hm)
 simp [World.shape?,h]
theorem z7 {T T' t T0 : TypeId} {x : Operand} {b s1 b1 js jb : Nat} {z1 jz : Value} {jd : TypeDesc} {G0 : Gh} {L0 : List Own} {cs : List Value} {fr : Nat × Nat} [t1 : TI P T (.pointer t) s1 b1 z1] [t2 : TI P t jd js jb jz] [Kn M G0 L0] [h : BlkI L0 b cs T0 fr]
  (hd : P.underlying T' = some .unsafePointer) (hx : ev E x = some (Pt b 0)) (hj : Nat.beq js 0 = false) (hc : cs.isEmpty = false) : Gives P n D E M ⟨d,.convert T T' x,ty,pos,aft,gd⟩ (Pt b 0):=Gives.mk fun a w hs hw=>by
 obtain ⟨j,hj1,hj2,_,_⟩:=t2.inf
 have hl : 0 < cs.length:=by cases cs with | nil=>cases hc | cons=>simp
 have:=Lib.run_to_unsafe (P:=P) w (src:=T) (dst:=T') (t:=t) (j:=j) ⟨b,0,none⟩ t1.und hd hj1 (by rw [hj2];intro e;subst e;simp at hj) (pa (S:=M) h.mem hw) hl
 simp only [execOp,hs.ev hx,Sem.run_bind,this,Result.andThen_ok,Sem.run_pure]
theorem xn {T T' t T0 : TypeId} {x : Operand} {b s1 b1 js jb : Nat} {z1 jz : Value} {jd : TypeDesc} {G0 : Gh} {L0 : List Own} {cs : List Value} {fr : Nat × Nat} [t1 : TI P T' (.pointer t) s1 b1 z1] [t2 : TI P t jd js jb jz] [Kn M G0 L0] [h : BlkI L0 b cs T0 fr]
  (hd : P.underlying T = some .unsafePointer) (hx : ev E x = some (Pt b 0)) (hl : liesAt P P.depth T0 (cs.length / P.cellsOf T0) 0 t 1 = true) : Gives P n D E M ⟨d,.convert T T' x,ty,pos,aft,gd⟩ (Pt b 0):=Gives.mk fun a w hs hw=>by
 obtain ⟨j,hj1,_,_,_⟩:=t2.inf
 have:=Lib.run_from_unsafe (P:=P) w (src:=T) (dst:=T') (u:=t) (j:=j) ⟨b,0,none⟩ hd t1.und hj1 (pa (S:=M) h.mem hw) hl
 simp only [execOp,hs.ev hx,Sem.run_bind,this,Result.andThen_ok,Sem.run_pure]
theorem yO {T T' el : TypeId} {x y : Operand} {size bytes js jb : Nat} {zero jz : Value} {jd : TypeDesc} {p : Addr} [t1 : TI P T (.pointer el) size bytes zero] [t2 : TI P el jd js jb jz] (hx : ev E x = some (.pointer (some p))) (hy : ev E y = some (.pointer (some p))) : Gives P n D E M ⟨d,.binOp .neq T x y T',ty,pos,aft,gd⟩ (Bo false):=c6 hx hy rfl fun w=>by
 obtain ⟨j,hj1,_,_,_⟩:=t2.inf
 exact Lib.run_neq_ptr_same w p t1.und hj1
theorem xr {T T' el : TypeId} {x y : Operand} {s1 b1 js jb : Nat} {z1 jz : Value} {jd : TypeDesc} {b o m c : Nat} [t1 : TI P T (.slice el) s1 b1 z1] [t2 : TI P el jd js jb jz] (hx : ev E x = some (.slice (some ⟨b,o,none⟩) m c)) (hy : ev E y = some aA) :
  Gives P n D E M ⟨d,.call ⟨.builtin .copy,[x,y].toArray,[T,T'].toArray⟩,ty,pos,aft,gd⟩ (I (0 : Nat)):=Gives.mk fun a w hs _=>by
 obtain ⟨j,hj1,_,_,_⟩:=t2.inf
 have h1:=run_copy_nil (P:=P) w T T' ty el ⟨b,o,none⟩ m c t1.und (by rw [hj1];rfl)
 have e1 : ([x,y].toArray.map a.eval) = #[.slice (some ⟨b,o,none⟩) m c,aA]:=by simp [hs.ev hx,hs.ev hy]
 simp only [execOp,resolve,e1,Sem.run_bind,Sem.run_pure,Result.andThen_ok,invoke,builtin,h1]
 rfl
theorem yL {T : TypeId} {x : Operand} {b o m c : Nat} (hx : ev E x = some (.slice (some ⟨b,o,none⟩) m c)) (hc : Nat.beq c 0 = false) : Gives P n D E M ⟨d,.call ⟨.builtin .unsafeSliceData,[x].toArray,[T].toArray⟩,ty,pos,aft,gd⟩ (Pt b o):=Gives.mk fun a w hs _=>by
 have h1:=Lib.run_unsafeSliceData_row (P:=P) w #[T] ty ⟨b,o,none⟩ m c (by rintro rfl;simp at hc)
 have e1 : ([x].toArray.map a.eval) = #[.slice (some ⟨b,o,none⟩) m c]:=by simp [hs.ev hx]
 simp only [execOp,resolve,e1,Sem.run_bind,Sem.run_pure,Result.andThen_ok,invoke,builtin,h1]
theorem xm {T : TypeId} {x : Operand} (hx : ev E x = some aA) : Gives P n D E M ⟨d,.call ⟨.builtin .unsafeSliceData,[x].toArray,[T].toArray⟩,ty,pos,aft,gd⟩ (.pointer none):=Gives.mk fun a w hs _=>by
 have h1:=Lib.run_unsafeSliceData_nil (P:=P) w #[T] ty 0 0
 have e1 : ([x].toArray.map a.eval) = #[aA]:=by simp [hs.ev hx]
 simp only [execOp,resolve,e1,Sem.run_bind,Sem.run_pure,Result.andThen_ok,invoke,builtin,h1]
theorem xh {T T' : TypeId} {x y : Operand} {p : Option Addr} (hx : ev E x = some (.pointer p)) (hy : ev E y = some (I (0 : Nat))) : Gives P n D E M ⟨d,.call ⟨.builtin .unsafeString,[x,y].toArray,[T,T'].toArray⟩,ty,pos,aft,gd⟩ (S []):=Gives.mk fun a w hs _=>by
 have h1:=Lib.run_unsafeString_none (P:=P) w T T' ty p
 have e1 : ([x,y].toArray.map a.eval) = #[.pointer p,.int .i64 0]:=by simp [hs.ev hx,hs.ev hy]
 simp only [execOp,resolve,e1,Sem.run_bind,Sem.run_pure,Result.andThen_ok,invoke,builtin,h1]
 rfl
end
section
variable {P : Program} {n : Nat} {D : List Deferred} {E : bd} {B : Base} {G : Gh} {L : List Own} {K : Act → World → Prop} {Q : Exit → Act → World → Prop} {ty : TypeId} {pos : String} {aft : Array Edge} {gd : Option (Nat × Bool)} {d : Nat}
theorem St.freeze {w : World} {b m cap : Nat} {T : TypeId} {xs : List Value} (h : St B G (.acc (.slice (some ⟨b,0,none⟩) m cap) T 1 m xs :: L) w) (k : Nat) : St B G L (w.freeze ⟨b,0,none⟩ k):=by
 obtain ⟨h1,⟨h2,_⟩ | ⟨b',cap',rest,e,hc,hl,hb⟩⟩ : gY w _ T 1 m xs:=h.own _ List.mem_cons_self
 ·cases h2
 simp only [Value.slice.injEq,Option.some.injEq,Addr.mk.injEq,and_true,true_and] at e
 obtain ⟨rfl,rfl⟩:=e
 unfold World.freeze
 by_cases hk : k = 0
 ·rw [if_pos hk];exact h.weaken (List.sublist_cons_self _ _)
 ·rw [if_neg hk]
  have h2:=h.upd (y:=.blk b (.cells (xs ++ rest).toArray T (0,k))) (w':={ w with heap:=w.heap.modify b fun | .cells c elem (lo,hi)=>.cells c elem (if lo == hi then (0,0 + k) else (min lo 0,max hi (0 + k))) | o=>o }) (b:=b) rfl rfl (by
   show (w.heap.modify b _)[b]? = _
   rw [Array.getElem?_modify,if_pos rfl,hb]
   simp) (fun c hc=>by
    show (w.heap.modify b _)[c]? = _
    rw [Array.getElem?_modify,if_neg (fun e=>hc e.symm)]) rfl rfl rfl (by simp)
  exact h2.weaken (List.sublist_cons_self _ _)
class AccD (L : List Own) (b : Nat) (m cap : outParam Nat) (T : outParam TypeId) (sz : outParam Nat) (xs : outParam (List Value)) (L' : outParam (List Own)) : Prop where
 del : Del (.acc (.slice (some ⟨b,0,none⟩) m cap) T sz m xs) L L'
instance {b m cap : Nat} {T : TypeId} {sz : Nat} {xs : List Value} {r : List Own} : AccD (.acc (.slice (some ⟨b,0,none⟩) m cap) T sz m xs :: r) b m cap T sz xs r:=⟨.here⟩
instance {b m cap : Nat} {T : TypeId} {sz : Nat} {xs : List Value} {z : Own} {r r' : List Own} [h : AccD r b m cap T sz xs r'] : AccD (z :: r) b m cap T sz xs (z :: r'):=⟨.there h.del⟩
theorem zp {T T' el : TypeId} {x y : Operand} {b m cap s1 b1 s2 b2 : Nat} {z1 z2 : Value} {l : abu} {L' : List Own} [t1 : TI P T (.pointer el) s1 b1 z1] [t2 : TI P el (.int .u8) s2 b2 z2] [ha : AccD L b m cap el 1 (bB l) L']
  (hc1 : P.cellsOf el = 1) (hx : ev E x = some (Pt b 0)) (hy : ev E y = some (I (m : Nat))) (hlt : Nat.blt d n = true) (hm : m ≤ 9223372036854775807)
  (k : Nx n D ((d,S l) :: E) B G L' K) : Nx n D E B G L (ow P ⟨some d,.call ⟨.builtin .unsafeString,[x,y].toArray,[T,T'].toArray⟩,ty,pos,aft,gd⟩ Q K):=Nx.mk fun a w hs hw=>by
 have hw1:=hw.perm ha.del.perm
 have hat : gY w (.slice (some ⟨b,0,none⟩) m cap) el 1 m (bB l):=hw1.own _ List.mem_cons_self
 obtain ⟨h1,⟨h2,_⟩ | ⟨b',cap',rest,e,hc,hl,hb⟩⟩:=hat
 ·cases h2
 simp only [Value.slice.injEq,Option.some.injEq,Addr.mk.injEq,and_true,true_and] at e
 obtain ⟨rfl,rfl⟩:=e
 have hlm : l.length = m:=by simpa [bB] using h1
 have e1 : ([x,y].toArray.map a.eval) = #[.pointer (some ⟨b,0,none⟩),.int .i64 (m : Nat)]:=by simp [hs.ev hx,hs.ev hy]
 unfold ow Oper.wp
 by_cases h0 : l = []
 ·subst h0
  have hm0 : m = 0:=by simpa using hlm.symm
  subst hm0
  have hr:=Lib.run_unsafeString_none (P:=P) w T T' ty (some ⟨b,0,none⟩)
  have : (execOp a.eval ⟨some d,.call ⟨.builtin .unsafeString,[x,y].toArray,[T,T'].toArray⟩,ty,pos,aft,gd⟩).run P w = .ok (.value (S [])) w:=by
   simp only [execOp,resolve,e1,Sem.run_bind,Sem.run_pure,Result.andThen_ok,invoke,builtin]
   have hr' : (Builtin.unsafeString_ [T,T'].toArray ty #[.pointer (some ⟨b,0,none⟩),.int .i64 ((0 : Nat) : Int)]).run P w = .ok (.string .empty) w:=hr
   rw [hr'];rfl
  rw [this,Oper.upon_value]
  exact k.go _ w (hs.put (by simpa using hlt)) (hw1.weaken (List.sublist_cons_self _ _))
 ·have hcell : ∀ j x,l[j]? = some x → w.cell? ((⟨b,0,none⟩ : Addr).add j) = some (.int .u8 x.toNat):=fun j x hj=>by
   have hv : (bB l)[j]? = some (.int .u8 x.toNat):=by simp [bB,hj]
   rw [lh]
   exact ((fx (S:=St B G (.acc (.slice (some ⟨b,0,none⟩) m cap) el 1 m (bB l) :: L')) (m:=m) (cap:=cap) (T:=el) (sz:=1) (xs:=bB l) List.mem_cons_self).go j _ hv).go w hw1
  have hsh : w.shape? b = some (el,(bB l ++ rest).length):=by simp [World.shape?,hb]
  have hr:=Lib.run_unsafeString_row (P:=P) w T T' ty el t1.und hc1 b _ hsh l h0 (by simp [bB]) oM hcell
  have : (execOp a.eval ⟨some d,.call ⟨.builtin .unsafeString,[x,y].toArray,[T,T'].toArray⟩,ty,pos,aft,gd⟩).run P w = .ok (.value (S l)) (w.freeze ⟨b,0,none⟩ l.length):=by
   simp only [execOp,resolve,e1,Sem.run_bind,Sem.run_pure,Result.andThen_ok,invoke,builtin]
   have hr' : (Builtin.unsafeString_ [T,T'].toArray ty #[.pointer (some ⟨b,0,none⟩),.int .i64 (m : Nat)]).run P w = .ok (S l) (w.freeze ⟨b,0,none⟩ l.length):=by rw [← hlm];exact hr
   rw [hr'];rfl
  rw [this,Oper.upon_value]
  exact k.go _ _ (hs.put (by simpa using hlt)) (hw1.freeze _)
theorem lu (l : abu) : Lib.strCells ⟨l.toArray⟩ = bB l:=by simp [Lib.strCells,bB]
theorem rO {v : Value} {m : Nat} {T T2 el : TypeId} {s1 b1 s2 b2 : Nat} {z1 z2 : Value} {xs : List Value} {l : abu} {w : World} {R : List Own} [h1' : TI P T (.slice el) s1 b1 z1] [h2' : TI P T2 .string s2 b2 z2] [he : TI P el (.int .u8) 1 1 (.int .u8 0)]
  (hb : m + l.length ≤ 1000000000) (hw : St B G (.acc v el 1 m xs :: R) w) :
  ∃ v' w',(Builtin.append_ #[T,T2] ty #[v,S l]).run P w = .ok v' w' ∧ St B G (.acc v' el 1 (m + l.length) (xs ++ bB l) :: R) w' ∧ (v = aA → l = [] → v' = aA) ∧ ((v ≠ aA ∨ l ≠ []) → ∃ b cap,v' = .slice (some ⟨b,0,none⟩) (m + l.length) cap ∧ ((∀ p q,v ≠ .slice p q 0) ∨ l ≠ [] → 0 < cap)):=by
 obtain ⟨hxl,hacc⟩ : gY w v el 1 m xs:=hw.own _ List.mem_cons_self
 obtain ⟨ie,hi,hsz,hby,hze⟩:=he.inf
 have ht:=h1'.und
 have hu:=h2'.und
 have hss : (⟨l.toArray⟩ : ByteArray).size = l.length:=mQ l
 have hul : (bB l).length = l.length:=by simp [bB]
 have mk : ∀ nc,m + l.length ≤ nc →
   St B G (.acc (.slice (some ⟨w.heap.size,0,none⟩) (m + l.length) nc) el 1 (m + l.length) (xs ++ bB l) :: R) (w.drew.alloc (.cells (xs ++ bB l ++ bH [.int .u8 0] (nc - (m + l.length))).toArray el)):=by
  intro nc hnc
  have h2:=hw.drew.alloc (.cells (xs ++ bB l ++ bH [.int .u8 0] (nc - (m + l.length))).toArray el)
  have h3 : St B G (.blk w.drew.heap.size (.cells (xs ++ bB l ++ bH [.int .u8 0] (nc - (m + l.length))).toArray el) :: R) _:=h2.weaken (.cons_cons _ (List.sublist_cons_self _ _))
  refine h3.conv F ⟨by simp [hxl,hul],.inr ⟨_,nc,bH [.int .u8 0] (nc - (m + l.length)),F,hnc,?_,h3.own _ List.mem_cons_self⟩⟩
  simp only [List.length_append,hxl,hul,fN,List.length_cons,List.length_nil]
  omega
 have ez : (Builtin.zeroCells (Value.int .u8 0).cells) = fun k=>(bH [.int .u8 0] k).toArray:=by
  funext k;rw [← iy];rfl
 rcases hacc with ⟨rfl,rfl⟩ | ⟨b,cap,rest,rfl,hmc,hrl,hblk⟩
 ·have hx0 : xs = []:=by simpa using hxl
  subst hx0
  by_cases hk : l = []
  ·subst hk
   refine ⟨aA,w,?_,by simpa [bB] using hw,fun _ _=>rfl,fun h=>by rcases h with h | h <;> exact absurd F h⟩
   have hf : (Builtin.firstCells 1 0 (S [])).run P w = .ok #[] w:=by
    have:=Lib.run_firstCells_string (P:=P) w 1 ⟨([] : abu).toArray⟩
    rw [mQ] at this;simpa [Lib.strCells] using this
   simp [Builtin.append_,run_underlying ht,run_underlying hu,sizeOf,typeInfo,hi,hsz,Builtin.lenOf,mQ,hf]
  ·have hpos : 0 < l.length:=List.length_pos_iff.2 hk
   have hr:=run_append_nil_string (P:=P) w T T2 ty el ie (.int .u8 0) ht hu hi hze ⟨l.toArray⟩ (by rw [hss];exact hpos) (by rw [hss];omega) (by rw [hss,hby];omega)
   rw [hss] at hr
   have hg:=grownCap_ge w l.length 0 el
   have:=mk (grownCap w l.length 0 el) (by simpa using hg)
   have e1 : (⟨l.toArray⟩ : ByteArray).data.map (fun b=>Value.int .u8 b.toNat) ++ Builtin.zeroCells (Value.int .u8 0).cells (grownCap w l.length 0 el - l.length) = (bB l ++ bH [.int .u8 0] (grownCap w l.length 0 el - l.length)).toArray:=by
    rw [ez];simp [bB]
   rw [e1] at hr
   simp only [Nat.zero_add,List.nil_append] at this ⊢
   exact ⟨_,_,hr,this,fun _ h=>absurd h hk,fun _=>⟨_,_,F,fun _=>by omega⟩⟩
 ·by_cases hfit : m + l.length ≤ cap
  ·have hr:=Lib.run_append_room_string (P:=P) w T T2 ty el ie ht hu hi hsz b m cap (xs ++ rest).toArray hblk ⟨l.toArray⟩ (by rw [hss];exact hfit) (by rw [hss];simp only [List.size_toArray];omega)
   have hcells : (List.take m (xs ++ rest) ++ bB l ++ List.drop (m + l.length) (xs ++ rest)) = xs ++ bB l ++ rest.drop l.length:=by
    have : m = xs.length:=oM
    rw [this];simp [List.drop_append]
   rw [hss,lu] at hr
   simp only [hcells] at hr
   refine ⟨_,_,hr,hw.upd (b:=b) F F ⟨by simp [hxl,hul],.inr ⟨b,cap,rest.drop l.length,F,hfit,?_,setRow_heap w b _ _ el _ hblk⟩⟩ (fun c hc=>setRow_other w b c _ hc) F F F (by simp),fun h=>(by cases h),fun _=>⟨b,cap,F,fun h=>?_⟩⟩
   ·simp only [List.length_append,List.length_drop] at *;omega
   ·rcases h with h | h
    ·rcases Nat.eq_zero_or_pos cap with h0 | h0
     ·subst h0;exact absurd F (h _ _)
     ·exact h0
    ·have:=List.length_pos_iff.2 h;omega
  ·have hnsc:=ja (m + l.length) cap oM
   have hold : ∀ j u,xs[j]? = some u → w.cell? ((⟨b,0,none⟩ : Addr).add j) = some u:=fun j u hj=>by
    rw [lh]
    exact ((fx (S:=St B G (.acc (.slice (some ⟨b,0,none⟩) m cap) el 1 m xs :: R)) (m:=m) (cap:=cap) (T:=el) (sz:=1) (xs:=xs) List.mem_cons_self).go j u hj).go w hw
   have hr:=Lib.run_append_grow_string (P:=P) w T T2 ty el ie (.int .u8 0) ht hu hi hze ⟨b,0,none⟩ m cap xs (by rw [hsz];simpa using hxl) hold ⟨l.toArray⟩ (by rw [hss];omega) (by rw [hss];omega) (by rw [hss,hby];omega)
   rw [hss,lu,ez] at hr
   have hg:=grownCap_ge w (m + l.length) cap el
   have:=mk (grownCap w (m + l.length) cap el) hg
   simp only [List.append_toArray] at hr this ⊢
   exact ⟨_,_,hr,this,fun h=>(by cases h),fun _=>⟨_,_,F,fun _=>by omega⟩⟩
theorem aaI {m b cap : Nat} {s x : Operand} {T T2 el : TypeId} {s1 b1 s2 b2 : Nat} {z1 z2 : Value} {xs : List Value} {l : abu} {L' : List Own} [TI P T (.slice el) s1 b1 z1] [TI P T2 .string s2 b2 z2] [TI P el (.int .u8) 1 1 (.int .u8 0)] [ha : AccI L (.slice (some ⟨b,0,none⟩) m (cap + 1)) el 1 m xs L']
  (hs : ev E s = some (.slice (some ⟨b,0,none⟩) m (cap + 1))) (hx : ev E x = some (S l)) (hlt : Nat.blt d n = true) (hb : m + l.length ≤ 1000000000)
  (kk : ∀ b' cap',Nx n D ((d,.slice (some ⟨b',0,none⟩) (m + l.length) (cap' + 1)) :: E) B G (.acc (.slice (some ⟨b',0,none⟩) (m + l.length) (cap' + 1)) el 1 (m + l.length) (xs ++ bB l) :: L') K) :
  Nx n D E B G L (ow P ⟨some d,.call ⟨.builtin .append,[s,x].toArray,[T,T2].toArray⟩,ty,pos,aft,gd⟩ Q K):=Nx.mk fun a w hsat hw=>by
 obtain ⟨v',w',hr,hst,_,h2⟩:=rO (P:=P) (ty:=ty) (T:=T) (T2:=T2) (el:=el) (s1:=s1) (b1:=b1) (z1:=z1) (s2:=s2) (b2:=b2) (z2:=z2) hb (hw.perm ha.del.perm)
 obtain ⟨b',cap',rfl,h3⟩:=h2 (.inl (by simp))
 obtain ⟨c,rfl⟩ : ∃ c,cap' = c + 1:=⟨cap' - 1,by have:=h3 (.inl (by simp));omega⟩
 have hrun : (execOp a.eval ⟨some d,.call ⟨.builtin .append,[s,x].toArray,[T,T2].toArray⟩,ty,pos,aft,gd⟩).run P w = .ok (.value (.slice (some ⟨b',0,none⟩) (m + l.length) (c + 1))) w':=by
  have e1 : ([s,x].toArray.map a.eval) = #[.slice (some ⟨b,0,none⟩) m (cap + 1),S l]:=by simp [hsat.ev hs,hsat.ev hx]
  simp only [execOp,resolve,e1,Sem.run_bind,Sem.run_pure,Result.andThen_ok,invoke,builtin,hr]
 unfold ow Oper.wp
 rw [hrun,Oper.upon_value]
 exact (kk b' c).go _ w' (hsat.put (by simpa using hlt)) hst
theorem zz {s x : Operand} {T T2 el : TypeId} {s1 b1 s2 b2 : Nat} {z1 z2 : Value} {l : abu} [TI P T (.slice el) s1 b1 z1] [TI P T2 .string s2 b2 z2] [TI P el (.int .u8) 1 1 (.int .u8 0)]
  (hs : ev E s = some aA) (hx : ev E x = some (S l)) (hlt : Nat.blt d n = true) (hb : 0 < l.length ∧ l.length ≤ 1000000000)
  (kk : ∀ b' cap',Nx n D ((d,.slice (some ⟨b',0,none⟩) l.length (cap' + 1)) :: E) B G (.acc (.slice (some ⟨b',0,none⟩) l.length (cap' + 1)) el 1 l.length (bB l) :: L) K) :
  Nx n D E B G L (ow P ⟨some d,.call ⟨.builtin .append,[s,x].toArray,[T,T2].toArray⟩,ty,pos,aft,gd⟩ Q K):=Nx.mk fun a w hsat hw=>by
 obtain ⟨v',w',hr,hst,_,h2⟩:=rO (P:=P) (ty:=ty) (T:=T) (T2:=T2) (el:=el) (s1:=s1) (b1:=b1) (z1:=z1) (s2:=s2) (b2:=b2) (z2:=z2) (l:=l) oM (hw.addNil el 1)
 have hne : l ≠ []:=List.length_pos_iff.1 hb.1
 obtain ⟨b',cap',rfl,h3⟩:=h2 (.inr hne)
 obtain ⟨c,rfl⟩ : ∃ c,cap' = c + 1:=⟨cap' - 1,by have:=h3 (.inr hne);omega⟩
 simp only [Nat.zero_add,List.nil_append] at hr hst
 have hrun : (execOp a.eval ⟨some d,.call ⟨.builtin .append,[s,x].toArray,[T,T2].toArray⟩,ty,pos,aft,gd⟩).run P w = .ok (.value (.slice (some ⟨b',0,none⟩) l.length (c + 1))) w':=by
  have e1 : ([s,x].toArray.map a.eval) = #[aA,S l]:=by simp [hsat.ev hs,hsat.ev hx]
  simp only [execOp,resolve,e1,Sem.run_bind,Sem.run_pure,Result.andThen_ok,invoke,builtin,hr]
 unfold ow Oper.wp
 rw [hrun,Oper.upon_value]
 exact (kk b' c).go _ w' (hsat.put (by simpa using hlt)) hst
theorem aaC {fo x : Operand} {aQ : Array TypeId} {f : FuncId} {fn : Func} {t el : TypeId} {m : Nat} {ps : Array TypeId}
  (hf : ev E fo = some (.func (.func f) #[] #[])) (hx : ev E x = some (I (m : Nat))) (hlt : Nat.blt d n = true) (hfn : P.funcs[f]? = some fn) (hname : (fn.name == "runtime.NumGoroutine") = false) (hbd : fn.body.isNone = true) (hnx : Extern.findNext fn = none) (he : Extern.find fn = some (Extern.BytealgMakeNoZero.makeNoZero ps #[t])) (ht : P.underlying t = some (.slice el)) (hm : 0 < m ∧ m ≤ 1000000000)
  (k : ∀ b cap,m ≤ cap + 1 → Nx n D ((d,.slice (some ⟨b,0,none⟩) m (cap + 1)) :: E) B G (.acc (.slice (some ⟨b,0,none⟩) 0 (cap + 1)) el 1 0 [] :: L) K) : Nx n D E B G L (ow P ⟨some d,.call ⟨.value fo,[x].toArray,aQ⟩,ty,pos,aft,gd⟩ Q K):=Nx.mk fun a w hs hw=>by
 obtain ⟨cs,hr,hcs,_⟩:=Lib.run_makeNoZero (P:=P) w ps t el ht m oM
 have e1 : ([x].toArray.map a.eval) = #[.int .i64 (m : Nat)]:=by simp [hs.ev hx]
 have hrun : (execOp a.eval ⟨some d,.call ⟨.value fo,[x].toArray,aQ⟩,ty,pos,aft,gd⟩).run P w = .ok (.value (.slice (some ⟨w.heap.size,0,none⟩) m cs.size)) (w.drew.drew.alloc (.cells cs el)):=by
  simp only [execOp,resolve,hs.ev hf,e1,Deferred.ofValue,Sem.run_bind,Sem.run_pure,Result.andThen_ok,invoke]
  rw [show (#[] ++ #[Value.int .i64 (m : Nat)] ++ #[] : Array Value) = #[Value.int .i64 (m : Nat)] from rfl,run_callFunc_extern hfn hname hbd hnx he,hr]
  rfl
 unfold ow Oper.wp
 rw [hrun,Oper.upon_value]
 have h1:=hw.drew.drew.alloc (.cells cs el)
 obtain ⟨c,hc⟩ : ∃ c,cs.size = c + 1:=⟨cs.size - 1,oM⟩
 have h2 : St B G (.acc (.slice (some ⟨w.heap.size,0,none⟩) 0 (c + 1)) el 1 0 [] :: L) (w.drew.drew.alloc (.cells cs el)):=h1.conv rfl ⟨rfl,.inr ⟨w.heap.size,c + 1,cs.toList,rfl,Nat.zero_le _,by simp [hc],h1.own _ List.mem_cons_self⟩⟩
 rw [hc]
 exact (k w.heap.size c oM).go _ _ (hs.put (by simpa using hlt)) h2
end
def cX (P : Program) (f : FuncId) (args : List Value) (G : Gh) (L : List Own) (R : Value → Gh → List Own → Prop) : Prop:=Fn P f args G L (fun v G' L'=>Gh.le G G' ∧ R v G' L')
section
variable {P : Program} {n : Nat} {D : List Deferred} {E : bd} {B : Base} {G : Gh} {L : List Own} {K : Act → World → Prop} {Q : Exit → Act → World → Prop}
theorem da {fo : Operand} {l : List Operand} {aQ : Array TypeId} {d : Nat} {ty : TypeId} {pos : String} {aft : Array Edge} {g : Option (Nat × Bool)} {f : FuncId} {fi ca az vs : List Value} {b : Nat} {cs : List Value} {T : TypeId} {R : List Own} {Post : Value → Gh → List Own → Prop}
  [hd : DelB L b cs T R] (hf : ev E fo = some (.func (.func f) fi.toArray ca.toArray)) (ha : evs E l = some az) (hv : fi ++ az ++ ca = vs) (hc : cX P f vs G [.blk b (.cells cs.toArray T (0,0))] Post) (hlt : Nat.blt d n = true)
  (k : ∀ v G' L',Gh.le G G' → Post v G' L' → Nx n D ((d,v) :: E) B G' (L' ++ R) K) : Nx n D E B G L (ow P ⟨some d,.call ⟨.value fo,l.toArray,aQ⟩,ty,pos,aft,g⟩ Q K) :=
 zu hf ha hv hc hlt fun v G' L' h=>k v G' L' h.1 h.2
theorem b7 {f : FuncId} {fn : Func} {c : Code} {args : List Value} {R : Value → Gh → List Own → Prop} (E0 : bd) (hf : P.funcs[f]? = some fn) (hok : dG P f = true) (hn : fn.ntmps = n) (hb : fn.body = some c)
  (hlen : Nat.ble args.length n = true) (hE : gj E0 (params 0 args))
  (h : ∀ B,B.G = G → B.W = bW L → Nx n [] E0 B G L (cu P (.code c) [] (bp P fn (df B (fun v G' L'=>Gh.le G G' ∧ R v G' L'))))) : cX P f args G L R:=sD E0 hf hok hn hb hlen hE h
end
def yn (n : Nat) (cs : List Value) : Bool:=cs.all fun v=>match v with | .string b=>Nat.ble b.size n | _=>false
section
variable {P : Program} {n : Nat} {D : List Deferred} {E : bd} {B : Base} {G : Gh} {L : List Own} {K : Act → World → Prop} {Q : Exit → Act → World → Prop}
theorem gw (m : Nat) {T T0 : TypeId} {x : Operand} {desc : TypeDesc} {size bytes : Nat} {zero : Value} {b o d : Nat} {cs : List Value} {fr : Nat × Nat} {ty : TypeId} {pos : String} {aft : Array Edge} {g : Option (Nat × Bool)} [TI P T desc size bytes zero] [h : BlkI L b cs T0 fr] (hx : ev E x = some (Pt b o)) (ha : c0 desc = false) (hlt : Nat.blt d n = true) (ho : o < cs.length) (hs : yn m cs = true)
  (k : ∀ l : abu,l.length ≤ m → Nx n D ((d,S l) :: E) B G L K) : Nx n D E B G L (ow P ⟨some d,.load T x,ty,pos,aft,g⟩ Q K) :=
 aaD hx ha hlt ho fun v hv=>by
  have h1:=List.all_eq_true.1 hs v hv
  split at h1
  ·rename_i b
   have e : Value.string b = S b.data.toList:=by simp [S]
   rw [e]
   exact k _ (by rw [Array.length_toList];exact Nat.le_of_ble_eq_true h1)
  ·cases h1
end
theorem PutsR.len {cs vs cs' : List Value} {o : Nat} (h : PutsR cs o vs cs') : cs'.length = cs.length:=by
 induction h with
 | nil=>rfl
 | here _ ih=>simp [ih]
 | there _ ih=>simp [ih]
class UpdA (b : Nat) (xs' : List Value) (L : List Own) (m cap : outParam Nat) (T0 : outParam TypeId) (sz : outParam Nat) (xs : outParam (List Value)) (L' : outParam (List Own)) : Prop where
 upd : UpdO (.acc (.slice (some ⟨b,0,none⟩) m cap) T0 sz m xs) (.acc (.slice (some ⟨b,0,none⟩) m cap) T0 sz m xs') L L'
instance {b m cap : Nat} {T0 : TypeId} {sz : Nat} {xs xs' : List Value} {r : List Own} : UpdA b xs' (.acc (.slice (some ⟨b,0,none⟩) m cap) T0 sz m xs :: r) m cap T0 sz xs (.acc (.slice (some ⟨b,0,none⟩) m cap) T0 sz m xs' :: r):=⟨.here⟩
instance {b m cap : Nat} {T0 : TypeId} {sz : Nat} {xs xs' : List Value} {z : Own} {r r' : List Own} [h : UpdA b xs' r m cap T0 sz xs r'] : UpdA b xs' (z :: r) m cap T0 sz xs (z :: r'):=⟨.there h.upd⟩
section
variable {P : Program} {n : Nat} {D : List Deferred} {E : bd} {B : Base} {G : Gh} {L : List Own} {K : Act → World → Prop} {Q : Exit → Act → World → Prop} {ty : TypeId} {pos : String} {aft : Array Edge} {gd : Option (Nat × Bool)} {dd : Nat}
end
section
variable {P : Program} {n : Nat} {D : List Deferred} {E : bd} {B : Base} {G : Gh} {L : List Own} {K : Act → World → Prop} {Q : Exit → Act → World → Prop} {ty : TypeId} {pos : String} {aft : Array Edge} {gd : Option (Nat × Bool)} {dd : Nat}
end
def vj (P : Program) (fn : Func) (R : Ending → World → Prop) : Exit → Act → World → Prop
 | .normal,a,w | .ret,a,w=>Leaves P fn a.tmps R a.defers .returning w
 | .outgrown,_,w=>R .outgrown w
 | _,_,_=>False
instance {P : Program} {fn : Func} {R : Ending → World → Prop} : PQ (vj P fn R):=⟨fun _ _ _ _ _ h=>h⟩
structure FnD (P : Program) (f : FuncId) (args : List Value) (G : Gh) (L : List Own) (Post : Value → Gh → List Own → Prop) : Prop where
 ok : dG P f = true
 go : ∀ w,St ⟨w,G,bW L⟩ G L w → CallsD P f args.toArray .returning w fun e u w'=>u = .returning ∧ df ⟨w,G,bW L⟩ Post e w'
section
variable {P : Program} {n : Nat} {D : List Deferred} {E : bd} {B : Base} {G : Gh} {L : List Own} {K : Act → World → Prop} {Q : Exit → Act → World → Prop}
theorem ce {f : FuncId} {fn : Func} {c : Code} {args : List Value} {Post : Value → Gh → List Own → Prop} (E0 : bd) (hf : P.funcs[f]? = some fn) (hok : dG P f = true) (hn : fn.ntmps = n) (hb : fn.body = some c)
  (hlen : Nat.ble args.length n = true) (hE : gj E0 (params 0 args))
  (h : ∀ B,BOk B → B.G = G → B.W = bW L → Nx n [] E0 B G L (cu P (.code c) [] (vj P fn (df B Post)))) : Fn P f args G L Post:=by
 refine ⟨hok,fun w hw=>calls_of_wp_defers hf hb ?_⟩
 rw [hn]
 have:=(h ⟨w,G,bW L⟩ ⟨hw.ok,fun b hb=>(hw.fresh b hb).1⟩ rfl rfl).go _ w ((ig args (by simpa using hlen)).sub hE) hw
 unfold cu at this
 dsimp only at this
 unfold kk cw at this
 refine wp_mono this fun e a' w' q=>?_
 cases e <;> first | exact q | exact q.elim
theorem xB {f : FuncId} {fn : Func} {c : Code} {args : List Value} {Post : Value → Gh → List Own → Prop} (E0 : bd) (hf : P.funcs[f]? = some fn) (hok : dG P f = true) (hn : fn.ntmps = n) (hb : fn.body = some c)
  (hlen : Nat.ble args.length n = true) (hE : gj E0 (params 0 args))
  (h : ∀ B,BOk B → B.G = G → B.W = bW L → Nx n [] E0 B G L (cu P (.code c) [] (bp P fn (df B Post)))) : FnD P f args G L Post:=by
 refine ⟨hok,fun w hw=>callsD_of_wp hf hb ?_⟩
 rw [hn]
 have:=(h ⟨w,G,bW L⟩ ⟨hw.ok,fun b hb=>(hw.fresh b hb).1⟩ rfl rfl).go _ w ((ig args (by simpa using hlen)).sub hE) hw
 unfold cu at this
 dsimp only at this
 unfold kk cw bp at this
 exact this
def qP (f : FuncId) (fi ca az : List Value) : Deferred:=⟨.fn (.func f) ca.toArray,(fi ++ az).toArray⟩
theorem cg {fo : Operand} {l : List Operand} {aQ : Array TypeId} {ty : TypeId} {pos : String} {aft : Array Edge} {g : Option (Nat × Bool)} {f : FuncId} {fi ca az : List Value}
  (hf : ev E fo = some (.func (.func f) fi.toArray ca.toArray)) (ha : evs E l = some az)
  (k : Nx n (qP f fi ca az :: D) E B G L K) : Nx n D E B G L (ow P ⟨none,.defer ⟨.value fo,l.toArray,aQ⟩,ty,pos,aft,g⟩ Q K):=Nx.mk fun a w hs hw=>by
 unfold ow Oper.wp
 have h1 : l.toArray.map a.eval = az.toArray:=by rw [List.map_toArray,hs.evs ha]
 have : (execOp a.eval ⟨none,.defer ⟨.value fo,l.toArray,aQ⟩,ty,pos,aft,g⟩).run P w = .ok (.defer (qP f fi ca az)) w:=by
  simp only [execOp,resolve,hs.ev hf,h1,Deferred.ofValue,Sem.run_bind,Sem.run_pure,Result.andThen_ok,qP]
  simp
 rw [this,Oper.upon_defer]
 exact k.go _ w ⟨hs.size,by rw [show ({ a with defers:=qP f fi ca az :: a.defers } : Act).put none undef = { a with defers:=qP f fi ca az :: a.defers } from F];simp [hs.defers],hs.at'⟩ hw
theorem z0 {e : Exit} {f : FuncId} {fi ca az xs : List Value} {Lp R : List Own} {PostD : Value → Gh → List Own → Prop} {fn : Func} {rs : List ResultVar} {Post : Value → Gh → List Own → Prop} (he : e = .ret ∨ e = .normal) (hv : fi ++ az ++ ca = xs) (hc : FnD P f xs G Lp PostD) (hL : L.Perm (Lp ++ R))
  (hr : fn.results = rs.toArray) (k : ∀ v G' L',PostD v G' L' → ∃ vs L'',hZ P (St B G' (L' ++ R)) E rs vs ∧ L''.Sublist (L' ++ R) ∧ Post (eo vs) G' L'') :
  Nx n [qP f fi ca az] E B G L (cu P (.exit e) [] (vj P fn (df B Post))):=Nx.mk fun a w hs hw=>by
 have hw':=hw.perm hL
 have main : Leaves P fn a.tmps (df B Post) a.defers .returning w:=by
  rw [hs.defers]
  refine ⟨(fun h=>by cases h),Fn.func f,ca.toArray,f,xs.toArray,F,?_,?_⟩
  ·subst hv
   show (invoke (.fn (.func f) ca.toArray) (fi ++ az).toArray).run P w = _
   simp only [invoke]
   rw [lA hc.ok]
   simp
  ·intro c cs hu
   obtain ⟨e',u',w',fr,⟨h1,v,G',L',h2,h3,h4⟩,h5,h6,h7⟩:=hc.go w hw'.enter c cs hu
   subst h1 h2
   refine ⟨_,_,w',fr,?_,h5,h6,h7⟩
   obtain ⟨vs,L'',g1,g2,g3⟩:=k v G' L' h4
   have h8:=hw'.back h3
   exact ⟨eo vs,ju hs h8 hr g1,_,_,_,F,h8.weaken g2,g3⟩
 rcases he with rfl | rfl
 ·unfold cu;dsimp only;unfold kk;exact main
 ·unfold cu;dsimp only;unfold kk;exact main
end
attribute [irreducible] vj
section
variable {P : Program} {n : Nat} {D : List Deferred} {E : bd} {B : Base} {G : Gh} {L : List Own} {K : Act → World → Prop} {Q : Exit → Act → World → Prop} {ty : TypeId} {pos : String} {aft : Array Edge} {gd : Option (Nat × Bool)}
end
open Go.Proofs
abbrev bF : Value:=.bool false
abbrev u0 : Value:=.int .u8 0
noncomputable abbrev abt : Program:=Tryz.prog
instance ti2 : TI abt 2 (.int .i64) 1 8 (.int .i64 0):=TI.mk' kR kR kR
instance ti3 : TI abt 3 (.int .i64) 1 8 (.int .i64 0):=TI.mk' kR kR kR
instance ti4 : TI abt 4 .bool 1 1 (.bool false):=TI.mk' kR kR kR
instance ti5 : TI abt 5 (.int .u8) 1 1 (.int .u8 0):=TI.mk' kR kR kR
instance ti6 : TI abt 6 (.int .u8) 1 1 (.int .u8 0):=TI.mk' kR kR kR
instance ti7 : TI abt 7 (.struct (bo abt 7)) 4 24 (Ag [(.int .i64 0),(.int .i64 0),(.bool false),(.int .u8 0)]):=TI.mk' kR kR kR
instance ti8 : TI abt 8 (.struct (bo abt 8)) 4 24 (Ag [(.int .i64 0),(.int .i64 0),(.bool false),(.int .u8 0)]):=TI.mk' kR kR kR
instance ti9 : TI abt 9 .string 1 16 (S []):=TI.mk' kR kR kR
instance ti12 : TI abt 12 (.int .u64) 1 8 (.int .u64 0):=TI.mk' kR kR kR
instance ti13 : TI abt 13 (.struct (bo abt 13)) 2 24 (Ag [(S []),(.int .u64 0)]):=TI.mk' kR kR kR
instance ti14 : TI abt 14 (.struct (bo abt 14)) 2 24 (Ag [(S []),(.int .u64 0)]):=TI.mk' kR kR kR
instance ti17 : TI abt 17 (.pointer 263) 1 8 (.pointer none):=TI.mk' kR kR kR
instance ti18 : TI abt 18 (.struct (bo abt 18)) 1 8 (Ag [(.pointer none)]):=TI.mk' kR kR kR
instance ti19 : TI abt 19 (.struct (bo abt 19)) 1 8 (Ag [(.pointer none)]):=TI.mk' kR kR kR
instance ti22 : TI abt 22 (.slice 5) 1 24 aA:=TI.mk' kR kR kR
instance ti23 : TI abt 23 (.slice 42) 1 24 aA:=TI.mk' kR kR kR
instance ti24 : TI abt 24 (.struct (bo abt 24)) 2 40 (Ag [(S []),aA]):=TI.mk' kR kR kR
instance ti25 : TI abt 25 (.struct (bo abt 25)) 2 40 (Ag [(S []),aA]):=TI.mk' kR kR kR
instance ti41 : TI abt 41 (.struct (bo abt 41)) 3 48 (Ag [(S []),(S []),(S [])]):=TI.mk' kR kR kR
instance ti42 : TI abt 42 (.struct (bo abt 42)) 3 48 (Ag [(S []),(S []),(S [])]):=TI.mk' kR kR kR
instance ti46 : TI abt 46 (.pointer 93) 1 8 (.pointer none):=TI.mk' kR kR kR
instance ti49 : TI abt 49 (.slice 9) 1 24 aA:=TI.mk' kR kR kR
instance ti53 : TI abt 53 (.slice 3) 1 24 aA:=TI.mk' kR kR kR
instance ti62 : TI abt 62 (.pointer 65) 1 8 (.pointer none):=TI.mk' kR kR kR
instance ti63 : TI abt 63 (.pointer 129) 1 8 (.pointer none):=TI.mk' kR kR kR
instance ti64 : TI abt 64 (.struct (bo abt 64)) 5 64 (Ag [(.pointer none),(S []),(.bool false),aA,(.int .i64 0)]):=TI.mk' kR kR kR
instance ti65 : TI abt 65 (.struct (bo abt 65)) 5 64 (Ag [(.pointer none),(S []),(.bool false),aA,(.int .i64 0)]):=TI.mk' kR kR kR
instance ti76 : TI abt 76 (.struct (bo abt 76)) 3 48 (Ag [(S []),(S []),(S [])]):=TI.mk' kR kR kR
instance ti77 : TI abt 77 (.struct (bo abt 77)) 3 48 (Ag [(S []),(S []),(S [])]):=TI.mk' kR kR kR
instance ti81 : TI abt 81 (.slice 83) 1 24 aA:=TI.mk' kR kR kR
instance ti82 : TI abt 82 (.struct (bo abt 82)) 4 56 (Ag [(.int .u8 0),(S []),(.int .i64 0),aA]):=TI.mk' kR kR kR
instance ti83 : TI abt 83 (.struct (bo abt 83)) 4 56 (Ag [(.int .u8 0),(S []),(.int .i64 0),aA]):=TI.mk' kR kR kR
instance ti92 : TI abt 92 (.struct (bo abt 92)) 2 32 (Ag [aA,(.int .i64 0)]):=TI.mk' kR kR kR
instance ti93 : TI abt 93 (.struct (bo abt 93)) 2 32 (Ag [aA,(.int .i64 0)]):=TI.mk' kR kR kR
instance ti97 : TI abt 97 (.slice 110) 1 24 aA:=TI.mk' kR kR kR
instance ti108 : TI abt 108 (.slice 112) 1 24 aA:=TI.mk' kR kR kR
instance ti109 : TI abt 109 (.struct (bo abt 109)) 3 48 (Ag [(.int .u8 0),(S []),aA]):=TI.mk' kR kR kR
instance ti110 : TI abt 110 (.struct (bo abt 110)) 3 48 (Ag [(.int .u8 0),(S []),aA]):=TI.mk' kR kR kR
instance ti111 : TI abt 111 (.struct (bo abt 111)) 4 56 (Ag [(.int .i64 0),(S []),(S []),(S [])]):=TI.mk' kR kR kR
instance ti112 : TI abt 112 (.struct (bo abt 112)) 4 56 (Ag [(.int .i64 0),(S []),(S []),(S [])]):=TI.mk' kR kR kR
instance ti114 : TI abt 114 (.pointer 138) 1 8 (.pointer none):=TI.mk' kR kR kR
instance ti125 : TI abt 125 (.pointer 132) 1 8 (.pointer none):=TI.mk' kR kR kR
instance ti126 : TI abt 126 (.slice 125) 1 24 aA:=TI.mk' kR kR kR
instance ti127 : TI abt 127 (.map 9 125) 1 8 (.map none):=TI.mk' kR kR kR
instance ti128 : TI abt 128 (.struct (bo abt 128)) 2 32 (Ag [aA,(.map none)]):=TI.mk' kR kR kR
instance ti129 : TI abt 129 (.struct (bo abt 129)) 2 32 (Ag [aA,(.map none)]):=TI.mk' kR kR kR
instance ti130 : TI abt 130 (.slice 134) 1 24 aA:=TI.mk' kR kR kR
instance ti131 : TI abt 131 (.struct (bo abt 131)) 4 64 (Ag [(.int .u8 0),(S []),aA,(S [])]):=TI.mk' kR kR kR
instance ti132 : TI abt 132 (.struct (bo abt 132)) 4 64 (Ag [(.int .u8 0),(S []),aA,(S [])]):=TI.mk' kR kR kR
instance ti133 : TI abt 133 (.struct (bo abt 133)) 6 88 (Ag [(.int .i64 0),(S []),(S []),(S []),(S []),(S [])]):=TI.mk' kR kR kR
instance ti134 : TI abt 134 (.struct (bo abt 134)) 6 88 (Ag [(.int .i64 0),(S []),(S []),(S []),(S []),(S [])]):=TI.mk' kR kR kR
instance ti136 : TI abt 136 (.map 225 4) 1 8 (.map none):=TI.mk' kR kR kR
instance ti137 : TI abt 137 (.struct (bo abt 137)) 3 24 (Ag [(.pointer none),(.pointer none),(.map none)]):=TI.mk' kR kR kR
instance ti138 : TI abt 138 (.struct (bo abt 138)) 3 24 (Ag [(.pointer none),(.pointer none),(.map none)]):=TI.mk' kR kR kR
instance ti145 : TI abt 145 (.slice 100) 1 24 aA:=TI.mk' kR kR kR
instance ti146 : TI abt 146 (.struct (bo abt 146)) 4 80 (Ag [(S []),(S []),aA,aA]):=TI.mk' kR kR kR
instance ti147 : TI abt 147 (.struct (bo abt 147)) 4 80 (Ag [(S []),(S []),aA,aA]):=TI.mk' kR kR kR
instance ti158 : TI abt 158 (.pointer 161) 1 8 (.pointer none):=TI.mk' kR kR kR
instance ti159 : TI abt 159 (.slice 211) 1 24 aA:=TI.mk' kR kR kR
instance ti160 : TI abt 160 (.struct (bo abt 160)) 3 72 (Ag [aA,aA,aA]):=TI.mk' kR kR kR
instance ti161 : TI abt 161 (.struct (bo abt 161)) 3 72 (Ag [aA,aA,aA]):=TI.mk' kR kR kR
instance ti168 : TI abt 168 (.pointer 170) 1 8 (.pointer none):=TI.mk' kR kR kR
instance ti169 : TI abt 169 (.struct (bo abt 169)) 3 32 (Ag [(.pointer none),(S []),(.bool false)]):=TI.mk' kR kR kR
instance ti170 : TI abt 170 (.struct (bo abt 170)) 3 32 (Ag [(.pointer none),(S []),(.bool false)]):=TI.mk' kR kR kR
instance ti173 : TI abt 173 (.pointer 134) 1 8 (.pointer none):=TI.mk' kR kR kR
instance ti176 : TI abt 176 (.pointer 178) 1 8 (.pointer none):=TI.mk' kR kR kR
instance ti177 : TI abt 177 (.struct (bo abt 177)) 2 32 (Ag [(.pointer none),aA]):=TI.mk' kR kR kR
instance ti178 : TI abt 178 (.struct (bo abt 178)) 2 32 (Ag [(.pointer none),aA]):=TI.mk' kR kR kR
instance ti192 : TI abt 192 (.array 256 4) 256 256 (Ag [bF,bF,bF,bF,bF,bF,bF,bF,bF,bF,bF,bF,bF,bF,bF,bF,bF,bF,bF,bF,bF,bF,bF,bF,bF,bF,bF,bF,bF,bF,bF,bF,bF,bF,bF,bF,bF,bF,bF,bF,bF,bF,bF,bF,bF,bF,bF,bF,bF,bF,bF,bF,bF,bF,bF,bF,bF,bF,bF,bF,bF,bF,bF,bF,bF,bF,bF,bF,bF,bF,bF,bF,bF,bF,bF,bF,bF,bF,bF,bF,bF,bF,bF,bF,bF,bF,bF,bF,bF,bF,bF,bF,bF,bF,bF,bF,bF,bF,bF,bF,bF,bF,bF,bF,bF,bF,bF,bF,bF,bF,bF,bF,bF,bF,bF,bF,bF,bF,bF,bF,bF,bF,bF,bF,bF,bF,bF,bF,bF,bF,bF,bF,bF,bF,bF,bF,bF,bF,bF,bF,bF,bF,bF,bF,bF,bF,bF,bF,bF,bF,bF,bF,bF,bF,bF,bF,bF,bF,bF,bF,bF,bF,bF,bF,bF,bF,bF,bF,bF,bF,bF,bF,bF,bF,bF,bF,bF,bF,bF,bF,bF,bF,bF,bF,bF,bF,bF,bF,bF,bF,bF,bF,bF,bF,bF,bF,bF,bF,bF,bF,bF,bF,bF,bF,bF,bF,bF,bF,bF,bF,bF,bF,bF,bF,bF,bF,bF,bF,bF,bF,bF,bF,bF,bF,bF,bF,bF,bF,bF,bF,bF,bF,bF,bF,bF,bF,bF,bF,bF,bF,bF,bF,bF,bF,bF,bF,bF,bF,bF,bF,bF,bF,bF,bF,bF,(.bool false)]):=TI.mk' kR kR kR
instance ti196 : TI abt 196 (.pointer 192) 1 8 (.pointer none):=TI.mk' kR kR kR
instance ti198 : TI abt 198 (.struct (bo abt 198)) 1 24 (Ag [aA]):=TI.mk' kR kR kR
instance ti199 : TI abt 199 (.struct (bo abt 199)) 1 24 (Ag [aA]):=TI.mk' kR kR kR
instance ti210 : TI abt 210 (.struct (bo abt 210)) 2 32 (Ag [(S []),(S [])]):=TI.mk' kR kR kR
instance ti211 : TI abt 211 (.struct (bo abt 211)) 2 32 (Ag [(S []),(S [])]):=TI.mk' kR kR kR
instance ti217 : TI abt 217 (.pointer 5) 1 8 (.pointer none):=TI.mk' kR kR kR
instance ti224 : TI abt 224 (.struct (bo abt 224)) 2 32 (Ag [(S []),(S [])]):=TI.mk' kR kR kR
instance ti225 : TI abt 225 (.struct (bo abt 225)) 2 32 (Ag [(S []),(S [])]):=TI.mk' kR kR kR
instance ti245 : TI abt 245 (.struct (bo abt 245)) 2 2 (Ag [(.int .u8 0),(.int .u8 0)]):=TI.mk' kR kR kR
instance ti246 : TI abt 246 (.struct (bo abt 246)) 2 2 (Ag [(.int .u8 0),(.int .u8 0)]):=TI.mk' kR kR kR
instance ti252 : TI abt 252 (.struct (bo abt 252)) 4 40 (Ag [(.pointer none),(.pointer none),(.pointer none),(S [])]):=TI.mk' kR kR kR
instance ti253 : TI abt 253 (.struct (bo abt 253)) 4 40 (Ag [(.pointer none),(.pointer none),(.pointer none),(S [])]):=TI.mk' kR kR kR
instance fa7_0 : FA abt 7 0 0:=FA.mk' kR ti2 rfl
instance fv7_0 : FV abt 7 0 false 0 1:=FV.mk' kR ti2 rfl
instance fa7_1 : FA abt 7 1 1:=FA.mk' kR ti3 rfl
instance fv7_1 : FV abt 7 1 false 1 1:=FV.mk' kR ti3 rfl
instance fa7_2 : FA abt 7 2 2:=FA.mk' kR ti4 rfl
instance fv7_2 : FV abt 7 2 false 2 1:=FV.mk' kR ti4 rfl
instance fa7_3 : FA abt 7 3 3:=FA.mk' kR ti6 rfl
instance fv7_3 : FV abt 7 3 false 3 1:=FV.mk' kR ti6 rfl
instance fa8_0 : FA abt 8 0 0:=FA.mk' kR ti2 rfl
instance fv8_0 : FV abt 8 0 false 0 1:=FV.mk' kR ti2 rfl
instance fa8_1 : FA abt 8 1 1:=FA.mk' kR ti3 rfl
instance fv8_1 : FV abt 8 1 false 1 1:=FV.mk' kR ti3 rfl
instance fa8_2 : FA abt 8 2 2:=FA.mk' kR ti4 rfl
instance fv8_2 : FV abt 8 2 false 2 1:=FV.mk' kR ti4 rfl
instance fa8_3 : FA abt 8 3 3:=FA.mk' kR ti6 rfl
instance fv8_3 : FV abt 8 3 false 3 1:=FV.mk' kR ti6 rfl
instance fa13_0 : FA abt 13 0 0:=FA.mk' kR ti9 rfl
instance fv13_0 : FV abt 13 0 false 0 1:=FV.mk' kR ti9 rfl
instance fa13_1 : FA abt 13 1 1:=FA.mk' kR ti12 rfl
instance fv13_1 : FV abt 13 1 false 1 1:=FV.mk' kR ti12 rfl
instance fa14_0 : FA abt 14 0 0:=FA.mk' kR ti9 rfl
instance fv14_0 : FV abt 14 0 false 0 1:=FV.mk' kR ti9 rfl
instance fa14_1 : FA abt 14 1 1:=FA.mk' kR ti12 rfl
instance fv14_1 : FV abt 14 1 false 1 1:=FV.mk' kR ti12 rfl
instance fa18_0 : FA abt 18 0 0:=FA.mk' kR ti17 rfl
instance fv18_0 : FV abt 18 0 false 0 1:=FV.mk' kR ti17 rfl
instance fa19_0 : FA abt 19 0 0:=FA.mk' kR ti17 rfl
instance fv19_0 : FV abt 19 0 false 0 1:=FV.mk' kR ti17 rfl
instance fa24_0 : FA abt 24 0 0:=FA.mk' kR ti9 rfl
instance fv24_0 : FV abt 24 0 false 0 1:=FV.mk' kR ti9 rfl
instance fa24_1 : FA abt 24 1 1:=FA.mk' kR ti23 rfl
instance fv24_1 : FV abt 24 1 false 1 1:=FV.mk' kR ti23 rfl
instance fa25_0 : FA abt 25 0 0:=FA.mk' kR ti9 rfl
instance fv25_0 : FV abt 25 0 false 0 1:=FV.mk' kR ti9 rfl
instance fa25_1 : FA abt 25 1 1:=FA.mk' kR ti23 rfl
instance fv25_1 : FV abt 25 1 false 1 1:=FV.mk' kR ti23 rfl
instance : BT abt 25 [(0,1),(1,1)] [(S []),aA]:=BT.mk' [(9,0,1),(23,1,1)] rfl kR kR rfl
instance fa41_0 : FA abt 41 0 0:=FA.mk' kR ti9 rfl
instance fv41_0 : FV abt 41 0 false 0 1:=FV.mk' kR ti9 rfl
instance fa41_1 : FA abt 41 1 1:=FA.mk' kR ti9 rfl
instance fv41_1 : FV abt 41 1 false 1 1:=FV.mk' kR ti9 rfl
instance fa41_2 : FA abt 41 2 2:=FA.mk' kR ti9 rfl
instance fv41_2 : FV abt 41 2 false 2 1:=FV.mk' kR ti9 rfl
instance fa42_0 : FA abt 42 0 0:=FA.mk' kR ti9 rfl
instance fv42_0 : FV abt 42 0 false 0 1:=FV.mk' kR ti9 rfl
instance fa42_1 : FA abt 42 1 1:=FA.mk' kR ti9 rfl
instance fv42_1 : FV abt 42 1 false 1 1:=FV.mk' kR ti9 rfl
instance fa42_2 : FA abt 42 2 2:=FA.mk' kR ti9 rfl
instance fv42_2 : FV abt 42 2 false 2 1:=FV.mk' kR ti9 rfl
instance : BT abt 42 [(0,1),(1,1),(2,1)] [(S []),(S []),(S [])]:=BT.mk' [(9,0,1),(9,1,1),(9,2,1)] rfl kR kR rfl
instance fa64_0 : FA abt 64 0 0:=FA.mk' kR ti63 rfl
instance fv64_0 : FV abt 64 0 false 0 1:=FV.mk' kR ti63 rfl
instance fa64_1 : FA abt 64 1 1:=FA.mk' kR ti9 rfl
instance fv64_1 : FV abt 64 1 false 1 1:=FV.mk' kR ti9 rfl
instance fa64_2 : FA abt 64 2 2:=FA.mk' kR ti4 rfl
instance fv64_2 : FV abt 64 2 false 2 1:=FV.mk' kR ti4 rfl
instance fa64_3 : FA abt 64 3 3:=FA.mk' kR ti53 rfl
instance fv64_3 : FV abt 64 3 false 3 1:=FV.mk' kR ti53 rfl
instance fa64_4 : FA abt 64 4 4:=FA.mk' kR ti3 rfl
instance fv64_4 : FV abt 64 4 false 4 1:=FV.mk' kR ti3 rfl
instance fa65_0 : FA abt 65 0 0:=FA.mk' kR ti63 rfl
instance fv65_0 : FV abt 65 0 false 0 1:=FV.mk' kR ti63 rfl
instance fa65_1 : FA abt 65 1 1:=FA.mk' kR ti9 rfl
instance fv65_1 : FV abt 65 1 false 1 1:=FV.mk' kR ti9 rfl
instance fa65_2 : FA abt 65 2 2:=FA.mk' kR ti4 rfl
instance fv65_2 : FV abt 65 2 false 2 1:=FV.mk' kR ti4 rfl
instance fa65_3 : FA abt 65 3 3:=FA.mk' kR ti53 rfl
instance fv65_3 : FV abt 65 3 false 3 1:=FV.mk' kR ti53 rfl
instance fa65_4 : FA abt 65 4 4:=FA.mk' kR ti3 rfl
instance fv65_4 : FV abt 65 4 false 4 1:=FV.mk' kR ti3 rfl
instance : BT abt 65 [(0,1),(1,1),(2,1),(3,1),(4,1)] [(.pointer none),(S []),(.bool false),aA,(.int .i64 0)]:=BT.mk' [(63,0,1),(9,1,1),(4,2,1),(53,3,1),(3,4,1)] rfl kR kR rfl
instance fa76_0 : FA abt 76 0 0:=FA.mk' kR ti9 rfl
instance fv76_0 : FV abt 76 0 false 0 1:=FV.mk' kR ti9 rfl
instance fa76_1 : FA abt 76 1 1:=FA.mk' kR ti9 rfl
instance fv76_1 : FV abt 76 1 false 1 1:=FV.mk' kR ti9 rfl
instance fa76_2 : FA abt 76 2 2:=FA.mk' kR ti9 rfl
instance fv76_2 : FV abt 76 2 false 2 1:=FV.mk' kR ti9 rfl
instance fa77_0 : FA abt 77 0 0:=FA.mk' kR ti9 rfl
instance fv77_0 : FV abt 77 0 false 0 1:=FV.mk' kR ti9 rfl
instance fa77_1 : FA abt 77 1 1:=FA.mk' kR ti9 rfl
instance fv77_1 : FV abt 77 1 false 1 1:=FV.mk' kR ti9 rfl
instance fa77_2 : FA abt 77 2 2:=FA.mk' kR ti9 rfl
instance fv77_2 : FV abt 77 2 false 2 1:=FV.mk' kR ti9 rfl
instance : BT abt 77 [(0,1),(1,1),(2,1)] [(S []),(S []),(S [])]:=BT.mk' [(9,0,1),(9,1,1),(9,2,1)] rfl kR kR rfl
instance fa82_0 : FA abt 82 0 0:=FA.mk' kR ti5 rfl
instance fv82_0 : FV abt 82 0 false 0 1:=FV.mk' kR ti5 rfl
instance fa82_1 : FA abt 82 1 1:=FA.mk' kR ti9 rfl
instance fv82_1 : FV abt 82 1 false 1 1:=FV.mk' kR ti9 rfl
instance fa82_2 : FA abt 82 2 2:=FA.mk' kR ti3 rfl
instance fv82_2 : FV abt 82 2 false 2 1:=FV.mk' kR ti3 rfl
instance fa82_3 : FA abt 82 3 3:=FA.mk' kR ti81 rfl
instance fv82_3 : FV abt 82 3 false 3 1:=FV.mk' kR ti81 rfl
instance fa83_0 : FA abt 83 0 0:=FA.mk' kR ti5 rfl
instance fv83_0 : FV abt 83 0 false 0 1:=FV.mk' kR ti5 rfl
instance fa83_1 : FA abt 83 1 1:=FA.mk' kR ti9 rfl
instance fv83_1 : FV abt 83 1 false 1 1:=FV.mk' kR ti9 rfl
instance fa83_2 : FA abt 83 2 2:=FA.mk' kR ti3 rfl
instance fv83_2 : FV abt 83 2 false 2 1:=FV.mk' kR ti3 rfl
instance fa83_3 : FA abt 83 3 3:=FA.mk' kR ti81 rfl
instance fv83_3 : FV abt 83 3 false 3 1:=FV.mk' kR ti81 rfl
instance : BT abt 83 [(0,1),(1,1),(2,1),(3,1)] [(.int .u8 0),(S []),(.int .i64 0),aA]:=BT.mk' [(5,0,1),(9,1,1),(3,2,1),(81,3,1)] rfl kR kR rfl
instance fa92_0 : FA abt 92 0 0:=FA.mk' kR ti22 rfl
instance fv92_0 : FV abt 92 0 false 0 1:=FV.mk' kR ti22 rfl
instance fa92_1 : FA abt 92 1 1:=FA.mk' kR ti3 rfl
instance fv92_1 : FV abt 92 1 false 1 1:=FV.mk' kR ti3 rfl
instance fa93_0 : FA abt 93 0 0:=FA.mk' kR ti22 rfl
instance fv93_0 : FV abt 93 0 false 0 1:=FV.mk' kR ti22 rfl
instance fa93_1 : FA abt 93 1 1:=FA.mk' kR ti3 rfl
instance fv93_1 : FV abt 93 1 false 1 1:=FV.mk' kR ti3 rfl
instance : BT abt 93 [(0,1),(1,1)] [aA,(.int .i64 0)]:=BT.mk' [(22,0,1),(3,1,1)] rfl kR kR rfl
instance fa109_0 : FA abt 109 0 0:=FA.mk' kR ti5 rfl
instance fv109_0 : FV abt 109 0 false 0 1:=FV.mk' kR ti5 rfl
instance fa109_1 : FA abt 109 1 1:=FA.mk' kR ti9 rfl
instance fv109_1 : FV abt 109 1 false 1 1:=FV.mk' kR ti9 rfl
instance fa109_2 : FA abt 109 2 2:=FA.mk' kR ti108 rfl
instance fv109_2 : FV abt 109 2 false 2 1:=FV.mk' kR ti108 rfl
instance fa110_0 : FA abt 110 0 0:=FA.mk' kR ti5 rfl
instance fv110_0 : FV abt 110 0 false 0 1:=FV.mk' kR ti5 rfl
instance fa110_1 : FA abt 110 1 1:=FA.mk' kR ti9 rfl
instance fv110_1 : FV abt 110 1 false 1 1:=FV.mk' kR ti9 rfl
instance fa110_2 : FA abt 110 2 2:=FA.mk' kR ti108 rfl
instance fv110_2 : FV abt 110 2 false 2 1:=FV.mk' kR ti108 rfl
instance : BT abt 110 [(0,1),(1,1),(2,1)] [(.int .u8 0),(S []),aA]:=BT.mk' [(5,0,1),(9,1,1),(108,2,1)] rfl kR kR rfl
instance fa111_0 : FA abt 111 0 0:=FA.mk' kR ti3 rfl
instance fv111_0 : FV abt 111 0 false 0 1:=FV.mk' kR ti3 rfl
instance fa111_1 : FA abt 111 1 1:=FA.mk' kR ti9 rfl
instance fv111_1 : FV abt 111 1 false 1 1:=FV.mk' kR ti9 rfl
instance fa111_2 : FA abt 111 2 2:=FA.mk' kR ti9 rfl
instance fv111_2 : FV abt 111 2 false 2 1:=FV.mk' kR ti9 rfl
instance fa111_3 : FA abt 111 3 3:=FA.mk' kR ti9 rfl
instance fv111_3 : FV abt 111 3 false 3 1:=FV.mk' kR ti9 rfl
instance fa112_0 : FA abt 112 0 0:=FA.mk' kR ti3 rfl
instance fv112_0 : FV abt 112 0 false 0 1:=FV.mk' kR ti3 rfl
instance fa112_1 : FA abt 112 1 1:=FA.mk' kR ti9 rfl
instance fv112_1 : FV abt 112 1 false 1 1:=FV.mk' kR ti9 rfl
instance fa112_2 : FA abt 112 2 2:=FA.mk' kR ti9 rfl
instance fv112_2 : FV abt 112 2 false 2 1:=FV.mk' kR ti9 rfl
instance fa112_3 : FA abt 112 3 3:=FA.mk' kR ti9 rfl
instance fv112_3 : FV abt 112 3 false 3 1:=FV.mk' kR ti9 rfl
instance : BT abt 112 [(0,1),(1,1),(2,1),(3,1)] [(.int .i64 0),(S []),(S []),(S [])]:=BT.mk' [(3,0,1),(9,1,1),(9,2,1),(9,3,1)] rfl kR kR rfl
instance fa128_0 : FA abt 128 0 0:=FA.mk' kR ti126 rfl
instance fv128_0 : FV abt 128 0 false 0 1:=FV.mk' kR ti126 rfl
instance fa128_1 : FA abt 128 1 1:=FA.mk' kR ti127 rfl
instance fv128_1 : FV abt 128 1 false 1 1:=FV.mk' kR ti127 rfl
instance fa129_0 : FA abt 129 0 0:=FA.mk' kR ti126 rfl
instance fv129_0 : FV abt 129 0 false 0 1:=FV.mk' kR ti126 rfl
instance fa129_1 : FA abt 129 1 1:=FA.mk' kR ti127 rfl
instance fv129_1 : FV abt 129 1 false 1 1:=FV.mk' kR ti127 rfl
instance : BT abt 129 [(0,1),(1,1)] [aA,(.map none)]:=BT.mk' [(126,0,1),(127,1,1)] rfl kR kR rfl
instance fa131_0 : FA abt 131 0 0:=FA.mk' kR ti5 rfl
instance fv131_0 : FV abt 131 0 false 0 1:=FV.mk' kR ti5 rfl
instance fa131_1 : FA abt 131 1 1:=FA.mk' kR ti9 rfl
instance fv131_1 : FV abt 131 1 false 1 1:=FV.mk' kR ti9 rfl
instance fa131_2 : FA abt 131 2 2:=FA.mk' kR ti130 rfl
instance fv131_2 : FV abt 131 2 false 2 1:=FV.mk' kR ti130 rfl
instance fa131_3 : FA abt 131 3 3:=FA.mk' kR ti9 rfl
instance fv131_3 : FV abt 131 3 false 3 1:=FV.mk' kR ti9 rfl
instance fa132_0 : FA abt 132 0 0:=FA.mk' kR ti5 rfl
instance fv132_0 : FV abt 132 0 false 0 1:=FV.mk' kR ti5 rfl
instance fa132_1 : FA abt 132 1 1:=FA.mk' kR ti9 rfl
instance fv132_1 : FV abt 132 1 false 1 1:=FV.mk' kR ti9 rfl
instance fa132_2 : FA abt 132 2 2:=FA.mk' kR ti130 rfl
instance fv132_2 : FV abt 132 2 false 2 1:=FV.mk' kR ti130 rfl
instance fa132_3 : FA abt 132 3 3:=FA.mk' kR ti9 rfl
instance fv132_3 : FV abt 132 3 false 3 1:=FV.mk' kR ti9 rfl
instance : BT abt 132 [(0,1),(1,1),(2,1),(3,1)] [(.int .u8 0),(S []),aA,(S [])]:=BT.mk' [(5,0,1),(9,1,1),(130,2,1),(9,3,1)] rfl kR kR rfl
instance fa133_0 : FA abt 133 0 0:=FA.mk' kR ti3 rfl
instance fv133_0 : FV abt 133 0 false 0 1:=FV.mk' kR ti3 rfl
instance fa133_1 : FA abt 133 1 1:=FA.mk' kR ti9 rfl
instance fv133_1 : FV abt 133 1 false 1 1:=FV.mk' kR ti9 rfl
instance fa133_2 : FA abt 133 2 2:=FA.mk' kR ti77 rfl
instance fv133_2 : FV abt 133 2 true 2 3:=FV.mk' kR ti77 rfl
instance fa133_3 : FA abt 133 3 5:=FA.mk' kR ti9 rfl
instance fv133_3 : FV abt 133 3 false 5 1:=FV.mk' kR ti9 rfl
instance fa134_0 : FA abt 134 0 0:=FA.mk' kR ti3 rfl
instance fv134_0 : FV abt 134 0 false 0 1:=FV.mk' kR ti3 rfl
instance fa134_1 : FA abt 134 1 1:=FA.mk' kR ti9 rfl
instance fv134_1 : FV abt 134 1 false 1 1:=FV.mk' kR ti9 rfl
instance fa134_2 : FA abt 134 2 2:=FA.mk' kR ti77 rfl
instance fv134_2 : FV abt 134 2 true 2 3:=FV.mk' kR ti77 rfl
instance fa134_3 : FA abt 134 3 5:=FA.mk' kR ti9 rfl
instance fv134_3 : FV abt 134 3 false 5 1:=FV.mk' kR ti9 rfl
instance : BT abt 134 [(0,1),(1,1),(2,3),(5,1)] [(.int .i64 0),(S []),(S []),(S []),(S []),(S [])]:=BT.mk' [(3,0,1),(9,1,1),(77,2,3),(9,5,1)] rfl kR kR rfl
instance fa137_0 : FA abt 137 0 0:=FA.mk' kR ti63 rfl
instance fv137_0 : FV abt 137 0 false 0 1:=FV.mk' kR ti63 rfl
instance fa137_1 : FA abt 137 1 1:=FA.mk' kR ti63 rfl
instance fv137_1 : FV abt 137 1 false 1 1:=FV.mk' kR ti63 rfl
instance fa137_2 : FA abt 137 2 2:=FA.mk' kR ti136 rfl
instance fv137_2 : FV abt 137 2 false 2 1:=FV.mk' kR ti136 rfl
instance fa138_0 : FA abt 138 0 0:=FA.mk' kR ti63 rfl
instance fv138_0 : FV abt 138 0 false 0 1:=FV.mk' kR ti63 rfl
instance fa138_1 : FA abt 138 1 1:=FA.mk' kR ti63 rfl
instance fv138_1 : FV abt 138 1 false 1 1:=FV.mk' kR ti63 rfl
instance fa138_2 : FA abt 138 2 2:=FA.mk' kR ti136 rfl
instance fv138_2 : FV abt 138 2 false 2 1:=FV.mk' kR ti136 rfl
instance : BT abt 138 [(0,1),(1,1),(2,1)] [(.pointer none),(.pointer none),(.map none)]:=BT.mk' [(63,0,1),(63,1,1),(136,2,1)] rfl kR kR rfl
instance fa146_0 : FA abt 146 0 0:=FA.mk' kR ti9 rfl
instance fv146_0 : FV abt 146 0 false 0 1:=FV.mk' kR ti9 rfl
instance fa146_1 : FA abt 146 1 1:=FA.mk' kR ti9 rfl
instance fv146_1 : FV abt 146 1 false 1 1:=FV.mk' kR ti9 rfl
instance fa146_2 : FA abt 146 2 2:=FA.mk' kR ti53 rfl
instance fv146_2 : FV abt 146 2 false 2 1:=FV.mk' kR ti53 rfl
instance fa146_3 : FA abt 146 3 3:=FA.mk' kR ti145 rfl
instance fv146_3 : FV abt 146 3 false 3 1:=FV.mk' kR ti145 rfl
instance fa147_0 : FA abt 147 0 0:=FA.mk' kR ti9 rfl
instance fv147_0 : FV abt 147 0 false 0 1:=FV.mk' kR ti9 rfl
instance fa147_1 : FA abt 147 1 1:=FA.mk' kR ti9 rfl
instance fv147_1 : FV abt 147 1 false 1 1:=FV.mk' kR ti9 rfl
instance fa147_2 : FA abt 147 2 2:=FA.mk' kR ti53 rfl
instance fv147_2 : FV abt 147 2 false 2 1:=FV.mk' kR ti53 rfl
instance fa147_3 : FA abt 147 3 3:=FA.mk' kR ti145 rfl
instance fv147_3 : FV abt 147 3 false 3 1:=FV.mk' kR ti145 rfl
instance fa160_0 : FA abt 160 0 0:=FA.mk' kR ti97 rfl
instance fv160_0 : FV abt 160 0 false 0 1:=FV.mk' kR ti97 rfl
instance fa160_1 : FA abt 160 1 1:=FA.mk' kR ti97 rfl
instance fv160_1 : FV abt 160 1 false 1 1:=FV.mk' kR ti97 rfl
instance fa160_2 : FA abt 160 2 2:=FA.mk' kR ti159 rfl
instance fv160_2 : FV abt 160 2 false 2 1:=FV.mk' kR ti159 rfl
instance fa161_0 : FA abt 161 0 0:=FA.mk' kR ti97 rfl
instance fv161_0 : FV abt 161 0 false 0 1:=FV.mk' kR ti97 rfl
instance fa161_1 : FA abt 161 1 1:=FA.mk' kR ti97 rfl
instance fv161_1 : FV abt 161 1 false 1 1:=FV.mk' kR ti97 rfl
instance fa161_2 : FA abt 161 2 2:=FA.mk' kR ti159 rfl
instance fv161_2 : FV abt 161 2 false 2 1:=FV.mk' kR ti159 rfl
instance : BT abt 161 [(0,1),(1,1),(2,1)] [aA,aA,aA]:=BT.mk' [(97,0,1),(97,1,1),(159,2,1)] rfl kR kR rfl
instance fa169_0 : FA abt 169 0 0:=FA.mk' kR ti63 rfl
instance fv169_0 : FV abt 169 0 false 0 1:=FV.mk' kR ti63 rfl
instance fa169_1 : FA abt 169 1 1:=FA.mk' kR ti9 rfl
instance fv169_1 : FV abt 169 1 false 1 1:=FV.mk' kR ti9 rfl
instance fa169_2 : FA abt 169 2 2:=FA.mk' kR ti4 rfl
instance fv169_2 : FV abt 169 2 false 2 1:=FV.mk' kR ti4 rfl
instance fa170_0 : FA abt 170 0 0:=FA.mk' kR ti63 rfl
instance fv170_0 : FV abt 170 0 false 0 1:=FV.mk' kR ti63 rfl
instance fa170_1 : FA abt 170 1 1:=FA.mk' kR ti9 rfl
instance fv170_1 : FV abt 170 1 false 1 1:=FV.mk' kR ti9 rfl
instance fa170_2 : FA abt 170 2 2:=FA.mk' kR ti4 rfl
instance fv170_2 : FV abt 170 2 false 2 1:=FV.mk' kR ti4 rfl
instance : BT abt 170 [(0,1),(1,1),(2,1)] [(.pointer none),(S []),(.bool false)]:=BT.mk' [(63,0,1),(9,1,1),(4,2,1)] rfl kR kR rfl
instance fa177_0 : FA abt 177 0 0:=FA.mk' kR ti176 rfl
instance fv177_0 : FV abt 177 0 false 0 1:=FV.mk' kR ti176 rfl
instance fa177_1 : FA abt 177 1 1:=FA.mk' kR ti22 rfl
instance fv177_1 : FV abt 177 1 false 1 1:=FV.mk' kR ti22 rfl
instance fa178_0 : FA abt 178 0 0:=FA.mk' kR ti176 rfl
instance fv178_0 : FV abt 178 0 false 0 1:=FV.mk' kR ti176 rfl
instance fa178_1 : FA abt 178 1 1:=FA.mk' kR ti22 rfl
instance fv178_1 : FV abt 178 1 false 1 1:=FV.mk' kR ti22 rfl
instance : BT abt 178 [(0,1),(1,1)] [(.pointer none),aA]:=BT.mk' [(176,0,1),(22,1,1)] rfl kR kR rfl
instance fa198_0 : FA abt 198 0 0:=FA.mk' kR ti97 rfl
instance fv198_0 : FV abt 198 0 false 0 1:=FV.mk' kR ti97 rfl
instance fa199_0 : FA abt 199 0 0:=FA.mk' kR ti97 rfl
instance fv199_0 : FV abt 199 0 false 0 1:=FV.mk' kR ti97 rfl
instance fa210_0 : FA abt 210 0 0:=FA.mk' kR ti9 rfl
instance fv210_0 : FV abt 210 0 false 0 1:=FV.mk' kR ti9 rfl
instance fa210_1 : FA abt 210 1 1:=FA.mk' kR ti9 rfl
instance fv210_1 : FV abt 210 1 false 1 1:=FV.mk' kR ti9 rfl
instance fa211_0 : FA abt 211 0 0:=FA.mk' kR ti9 rfl
instance fv211_0 : FV abt 211 0 false 0 1:=FV.mk' kR ti9 rfl
instance fa211_1 : FA abt 211 1 1:=FA.mk' kR ti9 rfl
instance fv211_1 : FV abt 211 1 false 1 1:=FV.mk' kR ti9 rfl
instance : BT abt 211 [(0,1),(1,1)] [(S []),(S [])]:=BT.mk' [(9,0,1),(9,1,1)] rfl kR kR rfl
instance fa224_0 : FA abt 224 0 0:=FA.mk' kR ti9 rfl
instance fv224_0 : FV abt 224 0 false 0 1:=FV.mk' kR ti9 rfl
instance fa224_1 : FA abt 224 1 1:=FA.mk' kR ti9 rfl
instance fv224_1 : FV abt 224 1 false 1 1:=FV.mk' kR ti9 rfl
instance fa225_0 : FA abt 225 0 0:=FA.mk' kR ti9 rfl
instance fv225_0 : FV abt 225 0 false 0 1:=FV.mk' kR ti9 rfl
instance fa225_1 : FA abt 225 1 1:=FA.mk' kR ti9 rfl
instance fv225_1 : FV abt 225 1 false 1 1:=FV.mk' kR ti9 rfl
instance : BT abt 225 [(0,1),(1,1)] [(S []),(S [])]:=BT.mk' [(9,0,1),(9,1,1)] rfl kR kR rfl
instance fa245_0 : FA abt 245 0 0:=FA.mk' kR ti5 rfl
instance fv245_0 : FV abt 245 0 false 0 1:=FV.mk' kR ti5 rfl
instance fa245_1 : FA abt 245 1 1:=FA.mk' kR ti5 rfl
instance fv245_1 : FV abt 245 1 false 1 1:=FV.mk' kR ti5 rfl
instance fa246_0 : FA abt 246 0 0:=FA.mk' kR ti5 rfl
instance fv246_0 : FV abt 246 0 false 0 1:=FV.mk' kR ti5 rfl
instance fa246_1 : FA abt 246 1 1:=FA.mk' kR ti5 rfl
instance fv246_1 : FV abt 246 1 false 1 1:=FV.mk' kR ti5 rfl
instance fa252_0 : FA abt 252 0 0:=FA.mk' kR ti17 rfl
instance fv252_0 : FV abt 252 0 false 0 1:=FV.mk' kR ti17 rfl
instance fa252_1 : FA abt 252 1 1:=FA.mk' kR ti17 rfl
instance fv252_1 : FV abt 252 1 false 1 1:=FV.mk' kR ti17 rfl
instance fa252_2 : FA abt 252 2 2:=FA.mk' kR ti17 rfl
instance fv252_2 : FV abt 252 2 false 2 1:=FV.mk' kR ti17 rfl
instance fa252_3 : FA abt 252 3 3:=FA.mk' kR ti9 rfl
instance fv252_3 : FV abt 252 3 false 3 1:=FV.mk' kR ti9 rfl
instance fa253_0 : FA abt 253 0 0:=FA.mk' kR ti17 rfl
instance fv253_0 : FV abt 253 0 false 0 1:=FV.mk' kR ti17 rfl
instance fa253_1 : FA abt 253 1 1:=FA.mk' kR ti17 rfl
instance fv253_1 : FV abt 253 1 false 1 1:=FV.mk' kR ti17 rfl
instance fa253_2 : FA abt 253 2 2:=FA.mk' kR ti17 rfl
instance fv253_2 : FV abt 253 2 false 2 1:=FV.mk' kR ti17 rfl
instance fa253_3 : FA abt 253 3 3:=FA.mk' kR ti9 rfl
instance fv253_3 : FV abt 253 3 false 3 1:=FV.mk' kR ti9 rfl
def tb : Tbl:=⟨12,694752535423897172541425910052127447119619907993843384236745504047478777839712,16,3584,210624683770850267685239975636753813250239785586282791195434516480,[(7,[(false,0,1),(false,1,1),(false,2,1),(false,3,1)]),(8,[(false,0,1),(false,1,1),(false,2,1),(false,3,1)]),(13,[(false,0,1),(false,1,1)]),(14,[(false,0,1),(false,1,1)]),(18,[(false,0,1)]),(19,[(false,0,1)]),(24,[(false,0,1),(false,1,1)]),(25,[(false,0,1),(false,1,1)]),(41,[(false,0,1),(false,1,1),(false,2,1)]),(42,[(false,0,1),(false,1,1),(false,2,1)]),(64,[(false,0,1),(false,1,1),(false,2,1),(false,3,1),(false,4,1)]),(65,[(false,0,1),(false,1,1),(false,2,1),(false,3,1),(false,4,1)]),(76,[(false,0,1),(false,1,1),(false,2,1)]),(77,[(false,0,1),(false,1,1),(false,2,1)]),(82,[(false,0,1),(false,1,1),(false,2,1),(false,3,1)]),(83,[(false,0,1),(false,1,1),(false,2,1),(false,3,1)]),(92,[(false,0,1),(false,1,1)]),(93,[(false,0,1),(false,1,1)]),(109,[(false,0,1),(false,1,1),(false,2,1)]),(110,[(false,0,1),(false,1,1),(false,2,1)]),(111,[(false,0,1),(false,1,1),(false,2,1),(false,3,1)]),(112,[(false,0,1),(false,1,1),(false,2,1),(false,3,1)]),(128,[(false,0,1),(false,1,1)]),(129,[(false,0,1),(false,1,1)]),(131,[(false,0,1),(false,1,1),(false,2,1),(false,3,1)]),(132,[(false,0,1),(false,1,1),(false,2,1),(false,3,1)]),(133,[(false,0,1),(false,1,1),(true,2,3),(false,5,1)]),(134,[(false,0,1),(false,1,1),(true,2,3),(false,5,1)]),(137,[(false,0,1),(false,1,1),(false,2,1)]),(138,[(false,0,1),(false,1,1),(false,2,1)]),(146,[(false,0,1),(false,1,1),(false,2,1),(false,3,1)]),(147,[(false,0,1),(false,1,1),(false,2,1),(false,3,1)]),(160,[(false,0,1),(false,1,1),(false,2,1)]),(161,[(false,0,1),(false,1,1),(false,2,1)]),(169,[(false,0,1),(false,1,1),(false,2,1)]),(170,[(false,0,1),(false,1,1),(false,2,1)]),(177,[(false,0,1),(false,1,1)]),(178,[(false,0,1),(false,1,1)]),(198,[(false,0,1)]),(199,[(false,0,1)]),(210,[(false,0,1),(false,1,1)]),(211,[(false,0,1),(false,1,1)]),(224,[(false,0,1),(false,1,1)]),(225,[(false,0,1),(false,1,1)]),(245,[(false,0,1),(false,1,1)]),(246,[(false,0,1),(false,1,1)]),(252,[(false,0,1),(false,1,1),(false,2,1),(false,3,1)]),(253,[(false,0,1),(false,1,1),(false,2,1),(false,3,1)])]⟩
theorem aa3 : tz abt tb.fl:=⟨⟨⟨fv7_0,fa7_0⟩,⟨fv7_1,fa7_1⟩,⟨fv7_2,fa7_2⟩,⟨fv7_3,fa7_3⟩,trivial⟩,⟨⟨fv8_0,fa8_0⟩,⟨fv8_1,fa8_1⟩,⟨fv8_2,fa8_2⟩,⟨fv8_3,fa8_3⟩,trivial⟩,⟨⟨fv13_0,fa13_0⟩,⟨fv13_1,fa13_1⟩,trivial⟩,⟨⟨fv14_0,fa14_0⟩,⟨fv14_1,fa14_1⟩,trivial⟩,⟨⟨fv18_0,fa18_0⟩,trivial⟩,⟨⟨fv19_0,fa19_0⟩,trivial⟩,⟨⟨fv24_0,fa24_0⟩,⟨fv24_1,fa24_1⟩,trivial⟩,⟨⟨fv25_0,fa25_0⟩,⟨fv25_1,fa25_1⟩,trivial⟩,⟨⟨fv41_0,fa41_0⟩,⟨fv41_1,fa41_1⟩,⟨fv41_2,fa41_2⟩,trivial⟩,⟨⟨fv42_0,fa42_0⟩,⟨fv42_1,fa42_1⟩,⟨fv42_2,fa42_2⟩,trivial⟩,⟨⟨fv64_0,fa64_0⟩,⟨fv64_1,fa64_1⟩,⟨fv64_2,fa64_2⟩,⟨fv64_3,fa64_3⟩,⟨fv64_4,fa64_4⟩,trivial⟩,⟨⟨fv65_0,fa65_0⟩,⟨fv65_1,fa65_1⟩,⟨fv65_2,fa65_2⟩,⟨fv65_3,fa65_3⟩,⟨fv65_4,fa65_4⟩,trivial⟩,⟨⟨fv76_0,fa76_0⟩,⟨fv76_1,fa76_1⟩,⟨fv76_2,fa76_2⟩,trivial⟩,⟨⟨fv77_0,fa77_0⟩,⟨fv77_1,fa77_1⟩,⟨fv77_2,fa77_2⟩,trivial⟩,⟨⟨fv82_0,fa82_0⟩,⟨fv82_1,fa82_1⟩,⟨fv82_2,fa82_2⟩,⟨fv82_3,fa82_3⟩,trivial⟩,⟨⟨fv83_0,fa83_0⟩,⟨fv83_1,fa83_1⟩,⟨fv83_2,fa83_2⟩,⟨fv83_3,fa83_3⟩,trivial⟩,⟨⟨fv92_0,fa92_0⟩,⟨fv92_1,fa92_1⟩,trivial⟩,⟨⟨fv93_0,fa93_0⟩,⟨fv93_1,fa93_1⟩,trivial⟩,⟨⟨fv109_0,fa109_0⟩,⟨fv109_1,fa109_1⟩,⟨fv109_2,fa109_2⟩,trivial⟩,⟨⟨fv110_0,fa110_0⟩,⟨fv110_1,fa110_1⟩,⟨fv110_2,fa110_2⟩,trivial⟩,⟨⟨fv111_0,fa111_0⟩,⟨fv111_1,fa111_1⟩,⟨fv111_2,fa111_2⟩,⟨fv111_3,fa111_3⟩,trivial⟩,⟨⟨fv112_0,fa112_0⟩,⟨fv112_1,fa112_1⟩,⟨fv112_2,fa112_2⟩,⟨fv112_3,fa112_3⟩,trivial⟩,⟨⟨fv128_0,fa128_0⟩,⟨fv128_1,fa128_1⟩,trivial⟩,⟨⟨fv129_0,fa129_0⟩,⟨fv129_1,fa129_1⟩,trivial⟩,⟨⟨fv131_0,fa131_0⟩,⟨fv131_1,fa131_1⟩,⟨fv131_2,fa131_2⟩,⟨fv131_3,fa131_3⟩,trivial⟩,⟨⟨fv132_0,fa132_0⟩,⟨fv132_1,fa132_1⟩,⟨fv132_2,fa132_2⟩,⟨fv132_3,fa132_3⟩,trivial⟩,⟨⟨fv133_0,fa133_0⟩,⟨fv133_1,fa133_1⟩,⟨fv133_2,fa133_2⟩,⟨fv133_3,fa133_3⟩,trivial⟩,⟨⟨fv134_0,fa134_0⟩,⟨fv134_1,fa134_1⟩,⟨fv134_2,fa134_2⟩,⟨fv134_3,fa134_3⟩,trivial⟩,⟨⟨fv137_0,fa137_0⟩,⟨fv137_1,fa137_1⟩,⟨fv137_2,fa137_2⟩,trivial⟩,⟨⟨fv138_0,fa138_0⟩,⟨fv138_1,fa138_1⟩,⟨fv138_2,fa138_2⟩,trivial⟩,⟨⟨fv146_0,fa146_0⟩,⟨fv146_1,fa146_1⟩,⟨fv146_2,fa146_2⟩,⟨fv146_3,fa146_3⟩,trivial⟩,⟨⟨fv147_0,fa147_0⟩,⟨fv147_1,fa147_1⟩,⟨fv147_2,fa147_2⟩,⟨fv147_3,fa147_3⟩,trivial⟩,⟨⟨fv160_0,fa160_0⟩,⟨fv160_1,fa160_1⟩,⟨fv160_2,fa160_2⟩,trivial⟩,⟨⟨fv161_0,fa161_0⟩,⟨fv161_1,fa161_1⟩,⟨fv161_2,fa161_2⟩,trivial⟩,⟨⟨fv169_0,fa169_0⟩,⟨fv169_1,fa169_1⟩,⟨fv169_2,fa169_2⟩,trivial⟩,⟨⟨fv170_0,fa170_0⟩,⟨fv170_1,fa170_1⟩,⟨fv170_2,fa170_2⟩,trivial⟩,⟨⟨fv177_0,fa177_0⟩,⟨fv177_1,fa177_1⟩,trivial⟩,⟨⟨fv178_0,fa178_0⟩,⟨fv178_1,fa178_1⟩,trivial⟩,⟨⟨fv198_0,fa198_0⟩,trivial⟩,⟨⟨fv199_0,fa199_0⟩,trivial⟩,⟨⟨fv210_0,fa210_0⟩,⟨fv210_1,fa210_1⟩,trivial⟩,⟨⟨fv211_0,fa211_0⟩,⟨fv211_1,fa211_1⟩,trivial⟩,⟨⟨fv224_0,fa224_0⟩,⟨fv224_1,fa224_1⟩,trivial⟩,⟨⟨fv225_0,fa225_0⟩,⟨fv225_1,fa225_1⟩,trivial⟩,⟨⟨fv245_0,fa245_0⟩,⟨fv245_1,fa245_1⟩,trivial⟩,⟨⟨fv246_0,fa246_0⟩,⟨fv246_1,fa246_1⟩,trivial⟩,⟨⟨fv252_0,fa252_0⟩,⟨fv252_1,fa252_1⟩,⟨fv252_2,fa252_2⟩,⟨fv252_3,fa252_3⟩,trivial⟩,⟨⟨fv253_0,fa253_0⟩,⟨fv253_1,fa253_1⟩,⟨fv253_2,fa253_2⟩,⟨fv253_3,fa253_3⟩,trivial⟩,trivial⟩
instance : Tab abt tb:=Tab.mk' 264 kR kR kR kR kR aa3
theorem aj : abt.follows .mixedOrders = true:=by kernel_rfl
section
variable {n : Nat} {D : List Deferred} {E : bd} {B : Base} {G : Gh} {L : List Own} {k : List Fr} {Q : Exit → Act → World → Prop} {K : Act → World → Prop}
theorem jT [PQ Q] {ops : List Oper} {G0 : Gh} {L0 : List Own} (fuel : Nat) (is : List Nat) {E' : bd} {p' : List Prop} {fuel' : Nat} {listed : Array Bool} (listed' : Array Bool) (hn : Nx n D E' B G L (xA abt ops.toArray Q (bK B G0 L0) fuel listed'))
    (hf : Nat.beq (fuel + is.length) fuel' = true:=by exact F) (h : gR tb n ops is E [] = some (E',p'):=by exact F) (hsel : Region.noSelect ops.toArray = true:=by kernel_rfl) (hb : lm ops.toArray is listed listed' = true:=by kernel_rfl)
    (hG : Gh.le G0 G:=by first | exact Gh.le.refl _ | assumption) (hL : L0.Sublist L:=by repeat (first | exact List.Sublist.refl _ | exact List.nil_sublist _ | apply List.Sublist.cons_cons | apply List.Sublist.cons)) (hp : gQ p':=by exact trivial) : Nx n D E B G L (xA abt ops.toArray Q (bK B G0 L0) fuel' listed):=sN is listed' hsel hb hf h hG hL hp hn
theorem jU [PQ Q] {ops : List Oper} {G0 : Gh} {L0 : List Own} (fuel : Nat) (is : List Nat) {E' : bd} {p' : List Prop} {fuel' : Nat} {listed : Array Bool} (listed' : Array Bool) (hp : gQ p') (hn : Nx n D E' B G L (xA abt ops.toArray Q (bK B G0 L0) fuel listed'))
    (hf : Nat.beq (fuel + is.length) fuel' = true:=by exact F) (h : gR tb n ops is E [] = some (E',p'):=by exact F) (hsel : Region.noSelect ops.toArray = true:=by kernel_rfl) (hb : lm ops.toArray is listed listed' = true:=by kernel_rfl)
    (hG : Gh.le G0 G:=by first | exact Gh.le.refl _ | assumption) (hL : L0.Sublist L:=by repeat (first | exact List.Sublist.refl _ | exact List.nil_sublist _ | apply List.Sublist.cons_cons | apply List.Sublist.cons)) : Nx n D E B G L (xA abt ops.toArray Q (bK B G0 L0) fuel' listed):=sN is listed' hsel hb hf h hG hL hp hn
theorem jN {ops : List Oper} {G0 : Gh} {L0 : List Own} {fuel : Nat} {listed : Array Bool} (listed' : Array Bool) [PQ Q] (i : Nat) {o : Oper} {d : Nat} (hi : ops.toArray[i]? = some o)
    (k : Nx n D ((d,undef) :: E) B G L (xA abt ops.toArray Q (bK B G0 L0) fuel listed')) (hb : my ops.toArray listed i listed' = true:=by kernel_rfl) (hgu : qD E ops o = some false:=by exact F) (hG : Gh.le G0 G:=by first | exact Gh.le.refl _ | assumption) (hL : L0.Sublist L:=by repeat (first | exact List.Sublist.refl _ | exact List.nil_sublist _ | apply List.Sublist.cons_cons | apply List.Sublist.cons)) (hd : o.dst = some d:=by exact F) (hlt : Nat.blt d n = true:=by exact F) :
    Nx n D E B G L (xA abt ops.toArray Q (bK B G0 L0) (fuel + 1) listed):=wo listed' i hi hb hgu hG hL hd hlt k
theorem jG {ops : List Oper} {G0 : Gh} {L0 : List Own} {fuel : Nat} {listed : Array Bool} (listed' : Array Bool) [PQ Q] (i : Nat) {o : Oper} {d : Nat} {v : Value} (hi : ops.toArray[i]? = some o) (hg : Gives abt n D E (bK B G0 L0) o v)
    (k : Nx n D ((d,v) :: E) B G L (xA abt ops.toArray Q (bK B G0 L0) fuel listed')) (hb : my ops.toArray listed i listed' = true:=by kernel_rfl) (hgu : qD E ops o = some true:=by exact F) (hG : Gh.le G0 G:=by first | exact Gh.le.refl _ | assumption) (hL : L0.Sublist L:=by repeat (first | exact List.Sublist.refl _ | exact List.nil_sublist _ | apply List.Sublist.cons_cons | apply List.Sublist.cons)) (hd : o.dst = some d:=by exact F) (hlt : Nat.blt d n = true:=by exact F) :
    Nx n D E B G L (xA abt ops.toArray Q (bK B G0 L0) (fuel + 1) listed):=sO listed' i hi hb hgu hG hL hg hd hlt k
theorem jV {o : Oper} {d : Nat} {v : Value} (hg : Gives abt n D E (St B G L) o v) (k : Nx n D ((d,v) :: E) B G L K) (hd : o.dst = some d:=by exact F) (hlt : Nat.blt d n = true:=by exact F) : Nx n D E B G L (ow abt o Q K):=jt hg hd hlt k
theorem jR {E' : bd} {c c' : Cu} {k k' : List Fr} {p' : List Prop} (hn : Nx n D E' B G L (cu abt c' k' Q)) (h : p7 tb n 400 E c k = some ⟨E',c',k',p'⟩:=by exact F) (hp : gQ p':=by exact trivial) : Nx n D E B G L (cu abt c k Q):=run 400 h hp hn
theorem jM {E' : bd} {c c' : Cu} {k k' : List Fr} {p' : List Prop} (hn : Nx n D E' B G L (cu abt c' k' Q)) (h : p7 tb n 400 E c k = some ⟨E',c',k',p'⟩:=by exact F) (hp : gQ p':=by (repeat' (first | exact trivial | apply And.intro | omega));done) : Nx n D E B G L (cu abt c k Q):=run 400 h hp hn
theorem jE {f : FuncId} {fn : Func} {c : Code} {args : List Value} {R : Value → Prop} (E0 : bd) (hf : abt.funcs[f]? = some fn) (hn : fn.ntmps = n)
    (h : ∀ B,B.W = [] → Nx n [] E0 B G [] (cu abt (.code c) [] (bp abt fn (df B (fun v G' L'=>G' = G ∧ L' = [] ∧ R v))))) (hb : fn.body = some c:=by exact F) (hok : dG abt f = true:=by kernel_rfl) (hlen : Nat.ble args.length n = true:=by exact F) (hE : gj E0 (params 0 args):=by repeat' constructor) : aI abt f args G R:=w8 E0 hf hok hn hb hlen hE h
theorem jB {f : FuncId} {fn : Func} {c : Code} {args : List Value} {Post : Value → Gh → List Own → Prop} (E0 : bd) (hf : abt.funcs[f]? = some fn) (hn : fn.ntmps = n)
    (h : ∀ B,BOk B → B.G = G → B.W = bW L → Nx n [] E0 B G L (cu abt (.code c) [] (bp abt fn (df B Post)))) (hb : fn.body = some c:=by exact F) (hok : dG abt f = true:=by kernel_rfl) (hlen : Nat.ble args.length n = true:=by exact F) (hE : gj E0 (params 0 args):=by repeat' constructor) : Fn abt f args G L Post:=xU E0 hf hok hn hb hlen hE h
theorem jH {f : FuncId} {fn : Func} {c : Code} {args : List Value} {R : Value → List Own → Prop} (E0 : bd) (hf : abt.funcs[f]? = some fn) (hn : fn.ntmps = n)
    (h : ∀ B,B.G = G → B.W = bW L → Nx n [] E0 B G L (cu abt (.code c) [] (bp abt fn (df B (fun v G' L'=>G' = G ∧ R v L'))))) (hb : fn.body = some c:=by exact F) (hok : dG abt f = true:=by kernel_rfl) (hlen : Nat.ble args.length n = true:=by exact F) (hE : gj E0 (params 0 args):=by repeat' constructor) : b6 abt f args G L R:=xq E0 hf hok hn hb hlen hE h
theorem jK {ops : Array Oper} {G0 : Gh} {L0 : List Own} {fuel : Nat} {listed : Array Bool} (listed' : Array Bool) (h : Nx n D E B G L (xA abt ops Q (bK B G0 L0) fuel listed')) (hG : Gh.le G0 G:=by first | exact Gh.le.refl _ | assumption) (hL : L0.Sublist L:=by repeat (first | exact List.Sublist.refl _ | exact List.nil_sublist _ | apply List.Sublist.cons_cons | apply List.Sublist.cons)) (hl : (listed == listed') = true:=by kernel_rfl) : Nx n D E B G L (xK abt ops Q (bK B G0 L0) fuel listed):=aa2 hG hL hl h
theorem jS {ops : Array Oper} {G0 : Gh} {L0 : List Own} {fuel : Nat} {listed : Array Bool} (listed' : Array Bool) (h : Nx n D E B G L (xA abt ops Q (bK B G L) fuel listed')) (hG : Gh.le G0 G:=by first | exact Gh.le.refl _ | assumption) (hL : L0.Sublist L:=by repeat (first | exact List.Sublist.refl _ | exact List.nil_sublist _ | apply List.Sublist.cons_cons | apply List.Sublist.cons)) (hl : (listed == listed') = true:=by kernel_rfl) : Nx n D E B G L (xK abt ops Q (bK B G0 L0) fuel listed):=aa1 hG hL hl h
theorem jA {ops : List Oper} {S : World → Prop} {fuel : Nat} {listed : Array Bool} (i : Nat) {o : Oper} (hi : ops.toArray[i]? = some o) (h : Nx n D E B G L (ow abt o Q (xK abt ops.toArray Q S fuel (listed.setIfInBounds i true)))) (hr : Region.ready .any ops.toArray listed = [i]:=by kernel_rfl) (hgu : qD E ops o = some true:=by exact F) : Nx n D E B G L (xA abt ops.toArray Q S (fuel + 1) listed) :=
  cd [i] hr (by simp) ⟨aX hi hgu h,trivial⟩
theorem jZ {fn : Func} {rs : List ResultVar} {vs : List Value} {v : Value} {L' : List Own} {Post : Value → Gh → List Own → Prop} (hr : fn.results = rs.toArray) (h : hZ abt (St B G L) E rs vs) (hv : eo vs = v) (hP : Post v G L')
    (hL : L'.Sublist L:=by exact List.nil_sublist _) : Nx n [] E B G L (cu abt (.exit .ret) [] (bp abt fn (df B Post))):=aN hr h hv hL hP
theorem jX {E' : bd} {c c' : Cu} {k k' : List Fr} {p' : List Prop} (hn : Nx n D E' B G L (cu abt c' k' Q)) (h : p7 tb n 400 E c k = some ⟨E',c',k',p'⟩:=by exact F) (hp : gQ p':=by (repeat' (first | exact trivial | apply And.intro | omega | assumption | (simp only [List.length_append,List.length_cons,List.length_nil,Int.toNat_natCast];omega) | (simp only [List.length_append,List.length_cons,List.length_nil,List.length_take,List.length_drop];omega) | (with_reducible exact (pS _ _).1) | (with_reducible exact (pS _ _).2)));done) : Nx n D E B G L (cu abt c k Q):=run 400 h hp hn
theorem jW [PQ Q] {ops : List Oper} {G0 : Gh} {L0 : List Own} (fuel : Nat) (is : List Nat) {E' : bd} {p' : List Prop} {fuel' : Nat} {listed : Array Bool} (listed' : Array Bool) (hn : Nx n D E' B G L (xA abt ops.toArray Q (bK B G0 L0) fuel listed'))
    (hf : Nat.beq (fuel + is.length) fuel' = true:=by exact F) (h : gR tb n ops is E [] = some (E',p'):=by exact F) (hsel : Region.noSelect ops.toArray = true:=by kernel_rfl) (hb : lm ops.toArray is listed listed' = true:=by kernel_rfl)
    (hG : Gh.le G0 G:=by first | exact Gh.le.refl _ | assumption) (hL : L0.Sublist L:=by repeat (first | exact List.Sublist.refl _ | exact List.nil_sublist _ | apply List.Sublist.cons_cons | apply List.Sublist.cons)) (hp : gQ p':=by (repeat' (first | exact trivial | apply And.intro | omega | assumption | (simp only [List.length_append,List.length_cons,List.length_nil,Int.toNat_natCast];omega) | (simp only [List.length_append,List.length_cons,List.length_nil,List.length_take,List.length_drop];omega) | (with_reducible exact (pS _ _).1) | (with_reducible exact (pS _ _).2)));done) : Nx n D E B G L (xA abt ops.toArray Q (bK B G0 L0) fuel' listed):=sN is listed' hsel hb hf h hG hL hp hn
section
variable {d : Nat} {ty : TypeId} {pos : String} {aft : Array Edge} {gd : Option (Nat × Bool)} {K2 : Act → World → Prop}
theorem ah {T T0 : TypeId} {x : Operand} {desc : TypeDesc} {size bytes : Nat} {zero : Value} {b o : Nat} {v : Value} {cs : List Value} {fr : Nat × Nat} [TI abt T desc size bytes zero] [BlkI L b cs T0 fr] (hx : ev E x = some (Pt b o)) (k : Nx n D ((d,v) :: E) B G L K)
    (ha : c0 desc = false:=by exact F) (hc : cs[o]? = some v:=by exact F) (hlt : Nat.blt d n = true:=by exact F) : Nx n D E B G L (ow abt ⟨some d,.load T x,ty,pos,aft,gd⟩ Q K):=jt (an hx ha hc) F hlt k
theorem aK {T T0 : TypeId} {x : Operand} {desc : TypeDesc} {size bytes : Nat} {zero : Value} {b o : Nat} {vs : List Value} {cs : List Value} {fr : Nat × Nat} [TI abt T desc size bytes zero] [BlkI L b cs T0 fr] (hx : ev E x = some (Pt b o)) (k : Nx n D ((d,Ag vs) :: E) B G L K)
    (ha : c0 desc = true:=by exact F) (hc : iZ cs o size = some vs:=by exact F) (hl : Nat.beq vs.length size = true:=by exact F) (hlt : Nat.blt d n = true:=by exact F) : Nx n D E B G L (ow abt ⟨some d,.load T x,ty,pos,aft,gd⟩ Q K):=jt (bC hx ha hc hl) F hlt k
theorem aP {c x y : Operand} {b : Bool} {v : Value} (hc : ev E c = some (.bool b)) (k : Nx n D ((d,v) :: E) B G L K) (hx : ev E x = some v:=by exact F) (hb : b = true:=by exact F) (hlt : Nat.blt d n = true:=by exact F) : Nx n D E B G L (ow abt ⟨some d,.pick c x y,ty,pos,aft,gd⟩ Q K):=jt (bU hc hx hb) F hlt k
theorem aH {c x y : Operand} {b : Bool} {v : Value} (hc : ev E c = some (.bool b)) (k : Nx n D ((d,v) :: E) B G L K) (hy : ev E y = some v:=by exact F) (hb : b = false:=by exact F) (hlt : Nat.blt d n = true:=by exact F) : Nx n D E B G L (ow abt ⟨some d,.pick c x y,ty,pos,aft,gd⟩ Q K):=jt (aW hc hy hb) F hlt k
theorem jC {T T0 : TypeId} {x y : Operand} {desc : TypeDesc} {size bytes : Nat} {zero : Value} {b o : Nat} {cs vs cs' : List Value} {fr : Nat × Nat} {L' : List Own} [TI abt T desc size bytes zero] [BlkI L b cs T0 fr] [hu : UpdI b cs' L cs T0 L'] (hx : ev E x = some (Pt b o)) (hy : ev E y = some (Ag vs)) (hp : fV cs o vs = some cs') (k : Nx n D E B G L' K)
    (hl : Nat.beq vs.length size = true:=by exact F) (hne : vs.isEmpty = false:=by exact F) (h1 : fZ vs = true:=by exact F) : Nx n D E B G L (ow abt ⟨none,.store T x y,ty,pos,aft,gd⟩ Q K):=aav hx hy hl hne h1 hp k
theorem jD {T T0 : TypeId} {x y : Operand} {desc : TypeDesc} {bytes : Nat} {zero v : Value} {b o : Nat} {cs cs' : List Value} {fr : Nat × Nat} {L' : List Own} [TI abt T desc 1 bytes zero] [BlkI L b cs T0 fr] [hu : UpdI b cs' L cs T0 L'] (hx : ev E x = some (Pt b o)) (hy : ev E y = some v) (hp : fV cs o [v] = some cs') (k : Nx n D E B G L' K) (h1 : v.oneCell' = true:=by exact F) : Nx n D E B G L (ow abt ⟨none,.store T x y,ty,pos,aft,gd⟩ Q K):=aaw hx hy h1 hp k
end
theorem jY {fn : Func} {rs : List ResultVar} {vs : List Value} {R : Value → Prop} (hP : R (eo vs)) (hr : fn.results = rs.toArray:=by exact F) (h : hZ abt (St B G L) E rs vs:=by repeat' (first | exact trivial | refine ⟨F,?_⟩)) : Nx n [] E B G L (cu abt (.exit .ret) [] (bp abt fn (df B (fun v G' L'=>G' = G ∧ L' = [] ∧ R v)))):=aN hr h F (List.nil_sublist _) ⟨F,F,hP⟩
theorem jo {a l : List Oper} {i : Nat} {pm : List Nat} {o : Oper} (h : Nx n D E B G L (ow abt o (kk abt k Q) (cu abt (.ops a l (i + 1) pm) k Q))) (hg : mL E a pm o = some true:=by exact F) : Nx n D E B G L (cu abt (.ops a (o :: l) i pm) k Q):=tq hg h
section
variable {d : Nat} {ty : TypeId} {pos : String} {aft : Array Edge} {gd : Option (Nat × Bool)}
theorem jF {T el : TypeId} {len : Nat} {ps : List (Nat × Operand)} {qs : List (Nat × List Value)} {desc : TypeDesc} {size bytes size' bytes' : Nat} {zero zero' : Value} {zs cs : List Value} [TI abt T (.slice el) size' bytes' zero'] [TI abt el desc size bytes zero] (k : ∀ b,Nx n D ((d,.slice (some ⟨b,0,none⟩) len len) :: E) B G (.blk b (.cells cs.toArray el (0,0)) :: L) K) (hz : eC zero = some zs:=by exact F)
    (hsz : Nat.beq zs.length size = true:=by exact F) (he : pw E ps = some qs:=by exact F) (hf : n7 (ii (oy size) (bH zs len) qs) = some cs:=by exact F) (hsm : Nat.ble (len * size) 16777216 = true:=by exact F) (hlt : Nat.blt d n = true:=by exact F) : Nx n D E B G L (ow abt ⟨some d,.buildSlice T len ps.toArray,ty,pos,aft,gd⟩ Q K):=aaG hz hsz hsm hlt he hf k
theorem jL {T : TypeId} {desc : TypeDesc} {size bytes : Nat} {zero : Value} {cs : List Value} [TI abt T desc size bytes zero] (k : ∀ b,Nx n D ((d,Pt b 0) :: E) B G (.blk b (.cells cs.toArray T (0,0)) :: L) K) (hz : eC zero = some cs:=by exact F) (hlt : Nat.blt d n = true:=by exact F) : Nx n D E B G L (ow abt ⟨some d,.alloc T,ty,pos,aft,gd⟩ Q K):=abk hz hlt k
theorem jO {T : TypeId} {x : Operand} {v : Value} {cs : List Value} (k : ∀ b,Nx n D ((d,Pt b 0) :: E) B G (.blk b (.cells cs.toArray T (0,0)) :: L) K) (hx : ev E x = some v:=by exact F) (hz : eC v = some cs:=by exact F) (hlt : Nat.blt d n = true:=by exact F) : Nx n D E B G L (ow abt ⟨some d,.box T x,ty,pos,aft,gd⟩ Q K):=abj hx hz hlt k
end
theorem jQ {ops : Array Oper} {S : World → Prop} {fuel : Nat} {listed : Array Bool} (h : Nx n D E B G L (cu abt (.exit .normal) k Q)) (hr : Region.ready .any ops listed = []:=by kernel_rfl) : Nx n D E B G L (xA abt ops (kk abt k Q) S fuel listed):=xX hr (abh h)
theorem zA {α : Type _} {a : α} {l m : List α} : a :: l ++ m = a :: (l ++ m):=rfl
theorem fA {α : Type _} {l : List α} : [] ++ l = l:=rfl
end
set_option maxRecDepth 20000
set_option maxHeartbeats 2000000
theorem vy (l : abu) (c : UInt8) : bB (l ++ [c]) = bB l ++ [U8 c.toNat]:=by simp [bB]
def num (n : Nat) : abu:=if h : n < 128 then [u8 n] else u8 (128 + n % 128 : Nat) :: num (n / 128)
termination_by n
decreasing_by omega
theorem ql {n : Nat} (h : n < 128) : num n = [u8 n]:=by rw [num];simp [h]
theorem uq {n : Nat} (h : ¬ n < 128) : num n = u8 (128 + n % 128 : Nat) :: num (n / 128):=by rw [num];simp [h]
def cA (n : Int) : abu:=num n.toNat
theorem gF {n : Int} (h : n < 128) (h0 : 0 ≤ n) : cA n = [u8 n]:=by
 unfold cA;rw [ql oM,Int.toNat_of_nonneg h0]
theorem iq {n : Int} (h : ¬ n < 128) : cA n = u8 (128 + n % 128) :: cA (n / 128):=by
 unfold cA;rw [uq oM]
 congr 2
 ·omega
 ·omega
theorem xd (n : Nat) : ∀ k,n < 128 ^ (k + 1) → (num n).length ≤ k + 1:=by
 intro k
 induction k generalizing n with
 | zero=>intro h;rw [ql (by simpa using h)];simp
 | succ k ih =>
  intro h
  by_cases h1 : n < 128
  ·rw [ql h1];simp
  ·rw [uq h1]
   have:=ih (n / 128) (Nat.div_lt_of_lt_mul (by rw [Nat.pow_succ] at h;omega))
   simp;omega
def yl (n : Int) : abu → Int
 | []=>n
 | c :: l=>yl ((n * 31 + (c.toNat : Int)) % 9973) l
def abb (l : abu) : Int:=yl 1 l
theorem kp {l : abu} {i : Nat} (h : i < l.length) : ∃ c : UInt8,l.drop i = c :: l.drop (i + 1) ∧ bt l i = c.toNat:=by
 refine ⟨l[i],(List.getElem_cons_drop (h:=h)).symm,?_⟩
 simp [bt,List.getD,List.getElem?_eq_getElem h]
def frame (s : abu) : abu:=[u8 126] ++ cA s.length ++ s ++ cA (abb s)
theorem dA {n : Int} (h : n ≤ 999999) : (cA n).length ≤ 3:=xd _ 2 oM
variable {G : Gh}
theorem zx {n lo hi : Int} : aI abt 72 [I n,I lo,I hi] G (· = Bo (decide (lo ≤ n) && decide (n ≤ hi))):=by
 refine jE [(0,_),(1,_),(2,_)] Tryz.func72 Tryz.ntmps72 fun B hB=>?_
 repeat' (first | refine jR ?_ | (refine jo ?_;first | refine aP F ?_ | refine aH F ?_) | refine dR F F (fun _=>?_) (fun _=>?_))
 all_goals refine jY (vs:=[_]) ?_
 all_goals (rw [aE];simp [*])
def oE (xs : List abu) : List Value:=xs.map fun x=>S x
theorem o9 (xs : List abu) (x : abu) : oE (xs ++ [x]) = oE xs ++ [S x]:=by simp [oE]
abbrev sU : TypeId:=9
theorem a7 {α : Type} [Inhabited α] {a : List α} {i : Nat} (h : i < a.length) : ac a i ∈ a:=by rw [ck h];exact List.getElem_mem h
theorem iu {α : Type} [Inhabited α] {a : List α} {x : α} (h : x ∈ a) : ∃ i,i < a.length ∧ ac a i = x:=by
 obtain ⟨i,hi,e⟩:=List.mem_iff_getElem.1 h
 exact ⟨i,hi,by rw [ck hi,e]⟩
theorem nV (p s : abu) : p.isPrefixOf s = decide (p.length ≤ s.length ∧ s.take p.length = p):=by
 by_cases h : p <+: s
 ·have h1:=List.isPrefixOf_iff_prefix.2 h
  rw [h1];obtain ⟨r,rfl⟩:=h;simp
 ·have h1 : p.isPrefixOf s = false:=by
   cases hb : p.isPrefixOf s with
   | false=>rfl
   | true=>exact absurd (List.isPrefixOf_iff_prefix.1 hb) h
  rw [h1];symm;refine decide_eq_false fun ⟨_,h3⟩=>h ?_
  rw [← h3];exact List.take_prefix _ _
theorem gA {s p : abu} : aI abt 164 [S s,S p] G (· = Bo (p.isPrefixOf s)):=by
 rw [nV]
 refine jE [(0,_),(1,_)] Tryz.func164 Tryz.ntmps164 fun B hB=>?_
 repeat' (first | refine jM ?_ | (refine jo ?_;first | refine aP F ?_ | refine aH F ?_) | refine dR F F (fun _=>?_) (fun _=>?_))
 all_goals refine jY (vs:=[_]) ?_
 all_goals (rw [aE];simp;omega)
theorem gX {s p : abu} : aI abt 124 [S s,S p] G (· = Bo (p.isPrefixOf s)):=by
 refine jE [(0,_),(1,_)] Tryz.func124 Tryz.ntmps124 fun B hB=>?_
 repeat' (first | refine jR ?_ | (refine jo ?_;refine ad F F F gA F ?_))
 all_goals refine jY (vs:=[_]) ?_
 all_goals rfl
def jg (c : UInt8) : Bool:=decide (97 ≤ c.toNat ∧ c.toNat ≤ 122)
def bQ (s : abu) : Bool:=s.all jg && decide (1 ≤ s.length ∧ s.length ≤ 3)
def eN : abu → Bool
 | []=>false
 | c :: r=>if c.toNat = 91 ∨ c.toNat = 63 then eN r
  else if c.toNat = 64 then decide (((bt (c :: r) r.length : Nat) : Int) = 59) && bQ (r.take (r.length - 1))
  else decide (r = []) && (decide (c.toNat = 110) || decide (c.toNat = 116) || decide (c.toNat = 102))
def bn (s : abu) : Bool:=decide (s.length ≤ 12) && eN s
def aG : abu → abu
 | []=>[]
 | c :: r=>if c.toNat = 91 ∨ c.toNat = 63 then aG r else c :: r
theorem r6 {s : abu} {i : Nat} (h : i < s.length) (h2 : ¬ (97 ≤ bt s i ∧ bt s i ≤ 122)) : bQ s = false:=by
 have e : bt s i = (s[i]).toNat:=by simp [bt,List.getD,List.getElem?_eq_getElem h]
 have : s.all jg = false:=by
  rw [List.all_eq_false]
  exact ⟨s[i],List.getElem_mem h,by rw [e] at h2;simpa [jg] using h2⟩
 rw [bQ,this,Bool.false_and]
theorem vP {s : abu} (h : ∀ i,i < s.length → 97 ≤ bt s i ∧ bt s i ≤ 122) : bQ s = decide (1 ≤ s.length ∧ s.length ≤ 3):=by
 have : s.all jg = true:=by
  rw [List.all_eq_true]
  intro c hc
  obtain ⟨i,hi,rfl⟩:=List.mem_iff_getElem.1 hc
  have e : bt s i = (s[i]).toNat:=by simp [bt,List.getD,List.getElem?_eq_getElem hi]
  have:=h i hi
  rw [e] at this
  simpa [jg] using this
 rw [bQ,this,Bool.true_and]
theorem gH {s : abu} (h : bQ s = true) : s.length ≤ 3:=by
 unfold bQ at h;simp only [Bool.and_eq_true,decide_eq_true_eq] at h;exact h.2.2
def pB (n : Nat) : abu:=if h : n < 10 then [u8 (48 + n : Nat)] else pB (n / 10) ++ [u8 (48 + n % 10 : Nat)]
termination_by n
decreasing_by omega
def a8 (n : Int) : abu:=pB n.toNat
theorem dh {n : Int} (h : n < 10) (h0 : 0 ≤ n) : a8 n = [u8 (48 + n)]:=by
 unfold a8;rw [pB,dif_pos oM];congr 1;congr 1;omega
theorem iw {n : Int} (h : ¬ n < 10) : a8 n = a8 (n / 10) ++ [u8 (48 + n % 10)]:=by
 unfold a8;rw [pB,dif_neg oM]
 have e1 : n.toNat / 10 = (n / 10).toNat:=oM
 have e2 : ((48 + n.toNat % 10 : Nat) : Int) = 48 + n % 10:=oM
 rw [e1,e2]
theorem si (n : Nat) : ∀ k,n < 10 ^ (k + 1) → (pB n).length ≤ k + 1:=by
 intro k
 induction k generalizing n with
 | zero=>intro h;rw [pB,dif_pos (by simpa using h)];simp
 | succ k ih =>
  intro h
  by_cases h1 : n < 10
  ·rw [pB,dif_pos h1];simp
  ·rw [pB,dif_neg h1]
   have:=ih (n / 10) (Nat.div_lt_of_lt_mul (by rw [Nat.pow_succ] at h;omega))
   simp;omega
theorem gL {n : Int} (h : n ≤ 9223372036854775807) : (a8 n).length ≤ 19:=si _ 18 oM
theorem eK {s : abu} (h : s.length ≤ 9000000000000000000) : aI abt 70 [S s] G (· = Bo (bQ s)):=by
 refine jE [(0,_)] Tryz.func70 Tryz.ntmps70 fun B hB=>?_
 repeat' (refine jR ?_)
 refine aU (ι:=Nat) (fun i=>i ≤ s.length ∧ ∀ k,k < i → 97 ≤ bt s k ∧ bt s k ≤ 122) (fun i=>[(0,S s),(3,I i)]) (fun _=>G) (fun i=>[]) (fun i=>s.length - i) 0 ?_ tU F a6 (fun i Hi=>?_)
 ·exact ⟨oM,fun k hk=>absurd hk oM⟩
 by_cases hi : i < s.length
 ·repeat' (first | refine jM ?_ | (refine jo ?_;first | refine aP F ?_ | refine aH F ?_) | refine dR F F (fun _=>?_) (fun _=>?_) | (refine ae F (by first | rfl | (refine decide_eq_true ?_;(omega))) ?_) | refine cJ F (fun _=>?_) (fun _=>?_))
  ·rename_i hc
   refine jY (vs:=[_]) ?_
   have hc : ((bt s i : Nat) : Int) < 97:=hc
   rw [aE,r6 hi oM]
  ·rename_i _ hc
   refine jY (vs:=[_]) ?_
   have hc : (122 : Int) < ((bt s i : Nat) : Int):=hc
   rw [aE,r6 hi oM]
  ·rename_i h1 h2
   have h1 : ¬ ((bt s i : Nat) : Int) < 97:=h1
   have h2 : ¬ (122 : Int) < ((bt s i : Nat) : Int):=h2
   refine aT (i + 1) ⟨oM,fun k hk=>?_⟩ oM tU F a6
   rcases Nat.lt_or_ge k i with h3 | h3
   ·exact Hi.2 k h3
   ·have : k = i:=oM
    subst this;omega
 ·repeat' (first | refine jR ?_ | (refine jo ?_;refine ad F F F zx F ?_) | refine af F (aF oM) ?_)
  refine jY (vs:=[_]) ?_
  rw [aE,vP fun k hk=>Hi.2 k oM]
  refine congrArg Bo ?_
  rw [Bool.decide_and]
  exact congr (congrArg and (decide_eq_decide.2 oM)) (decide_eq_decide.2 oM)
theorem lg (c : UInt8) (r : abu) : bt (c :: r) 0 = c.toNat:=by simp [bt,List.getD]
theorem xJ {c : UInt8} {r : abu} (h : r ≠ []) (hl : r.length ≤ 1000000) : aI abt 100 [S (c :: r)] G (· = Tu [S (if c.toNat = 64 then r.take (r.length - 1) else []),Bo (decide (c.toNat = 64))]):=by
 have hp:=List.length_pos_iff.2 h
 have e0:=lg c r
 refine jE [(0,_)] Tryz.func100 Tryz.ntmps100 fun B hB=>?_
 repeat' (first | refine jX ?_ | refine cJ F (fun _=>?_) (fun _=>?_))
 ·rename_i hc
  refine jY (vs:=[_,_]) ?_
  have hc : ((bt (c :: r) 0 : Nat) : Int) ≠ 64:=hc
  have hc : ¬ c.toNat = 64:=oM
  rw [dV,if_neg hc,decide_eq_false hc]
 ·rename_i hc
  refine jY (vs:=[_,_]) ?_
  have hc : ¬ ((bt (c :: r) 0 : Nat) : Int) ≠ 64:=hc
  have hc : c.toNat = 64:=oM
  have e : ((((c :: r).length : Nat) : Int) - 1).toNat = (r.length - 1) + 1:=by simp only [List.length_cons];omega
  rw [dV,if_pos hc,decide_eq_true hc,e,List.take_succ_cons];rfl
theorem l5 {s : abu} : aI abt 99 [S s] G (· = Bo (bn s)):=by
 induction s with
 | nil =>
  refine jE [(0,_)] Tryz.func99 Tryz.ntmps99 fun B hB=>?_
  repeat' (first | refine jR ?_ | (refine jo ?_;refine aH F ?_) | refine aD F F F ?_ | refine ae F F ?_)
  all_goals refine jY (vs:=[_]) ?_
  all_goals rfl
 | cons c r ih =>
  have e0 : bt (c :: r) (Int.toNat 0) = c.toNat:=lg c r
  by_cases hl : (c :: r).length ≤ 12
  ·have hl2 : r.length ≤ 12:=by simp at hl;omega
   rw [bn,decide_eq_true hl,Bool.true_and,eN]
   rw [bn,decide_eq_true hl2,Bool.true_and] at ih
   have hcons : (c :: r).length = r.length + 1:=rfl
   by_cases h1 : c.toNat = 91
   ·rw [if_pos (.inl h1)]
    refine jE [(0,_)] Tryz.func99 Tryz.ntmps99 fun B hB=>?_
    repeat' (first | refine jM ?_ | (refine jo ?_;first | refine aH F ?_ | refine ad F F F ih F ?_) | refine aD F F (aF oM) ?_ | refine ae F (aC oM) ?_ | refine af F F ?_)
    refine jY (vs:=[_]) ?_
    rfl
   by_cases h2 : c.toNat = 63
   ·rw [if_pos (.inr h2)]
    refine jE [(0,_)] Tryz.func99 Tryz.ntmps99 fun B hB=>?_
    repeat' (first | refine jM ?_ | (refine jo ?_;first | refine aH F ?_ | refine ad F F F ih F ?_) | refine aD F F (aF oM) ?_ | refine ae F (aC oM) ?_ | (refine af F (by first | rfl | (refine decide_eq_false ?_;(omega))) ?_))
    refine jY (vs:=[_]) ?_
    rfl
   rw [if_neg oM]
   by_cases h3 : c.toNat = 64
   ·rw [if_pos h3]
    have h5 : ((((c :: r).length : Nat) : Int) - 1).toNat = r.length:=oM
    by_cases h4 : ((bt (c :: r) r.length : Nat) : Int) = 59
    ·have h6 : ((bt (c :: r) ((((c :: r).length : Nat) : Int) - 1).toNat : Nat) : Int) = 59:=by rw [h5];exact h4
     have hp : 0 < r.length:=by
      rcases Nat.eq_zero_or_pos r.length with h0 | h0
      ·have : r = []:=List.length_eq_zero_iff.1 h0
       subst this
       have : ((bt [c] (Int.toNat 0) : Nat) : Int) = 59:=h4
       omega
      ·exact h0
     have e1 : ((((c :: r).length : Nat) : Int) - 1).toNat = (r.length - 1) + 1:=oM
     refine jE [(0,_)] Tryz.func99 Tryz.ntmps99 fun B hB=>?_
     repeat' (first | refine jM ?_ | (refine jo ?_;first | refine aP F ?_ | refine aH F ?_ | (refine ad F F F (eK ?_) F ?_;(focus ((simp;omega);done)))) | refine aO F F (aC ‹_›) ?_ | refine aD F F (aF oM) ?_ | refine ae F (aC oM) ?_ | (refine af F (by first | rfl | (refine decide_eq_false ?_;(omega))) ?_))
     refine jY (vs:=[_]) ?_
     rw [aE,decide_eq_true h4,Bool.true_and,e1,List.take_succ_cons];rfl
    ·have h6 : ¬ ((bt (c :: r) ((((c :: r).length : Nat) : Int) - 1).toNat : Nat) : Int) = 59:=by rw [h5];exact h4
     refine jE [(0,_)] Tryz.func99 Tryz.ntmps99 fun B hB=>?_
     repeat' (first | refine jM ?_ | (refine jo ?_;refine aH F ?_) | (refine aD F F (by refine decide_eq_false ?_;first | assumption | omega) ?_) | refine ae F (aC oM) ?_ | (refine af F (by first | rfl | (refine decide_eq_false ?_;(omega))) ?_))
     refine jY (vs:=[_]) ?_
     rw [aE,decide_eq_false h4,Bool.false_and]
   ·rw [if_neg h3]
    have n1 : ∀ x : UInt8,(c :: r = [x]) = (c.toNat = x.toNat ∧ r = []):=fun x=>by
     rw [List.cons.injEq];exact propext ⟨fun h=>⟨by rw [h.1],h.2⟩,fun h=>⟨UInt8.toNat_inj.1 h.1,h.2⟩⟩
    refine jE [(0,_)] Tryz.func99 Tryz.ntmps99 fun B hB=>?_
    repeat' (first | refine jM ?_ | (refine jo ?_;first | refine aP F ?_ | refine aH F ?_) | refine aO F F F ?_ | refine aD F F (aF oM) ?_ | refine dR F F (fun _=>?_) (fun _=>?_) | (refine af F (by first | rfl | (refine decide_eq_false ?_;(omega))) ?_))
    all_goals refine jY (vs:=[_]) ?_
    all_goals rw [aE]
    ·rename_i h;rw [n1] at h;rw [decide_eq_true h.2,decide_eq_true (p:=c.toNat = 110) h.1];rfl
    ·rename_i h;rw [n1] at h;rw [decide_eq_true h.2,decide_eq_true (p:=c.toNat = 116) h.1];simp
    ·rename_i ha hb
     refine congrArg Bo ?_
     rw [n1] at ha hb
     simp only [n1]
     by_cases hr : r = []
     ·have hx : ¬ c.toNat = 110:=fun h=>ha ⟨h,hr⟩
      have hy : ¬ c.toNat = 116:=fun h=>hb ⟨h,hr⟩
      simp [hr,hx,hy]
     ·simp [hr]
  ·rw [bn,decide_eq_false hl,Bool.false_and]
   refine jE [(0,_)] Tryz.func99 Tryz.ntmps99 fun B hB=>?_
   repeat' (first | refine jR ?_ | (refine jo ?_;refine aP F ?_) | refine aO F F (aC oM) ?_ | refine ae F F ?_)
   all_goals refine jY (vs:=[_]) ?_
   all_goals rfl
theorem fY {s : abu} (h : eN s = true) : aI abt 101 [S s] G (· = S (aG s)):=by
 refine jE [(0,_)] Tryz.func101 Tryz.ntmps101 fun B hB=>?_
 repeat' (refine jR ?_)
 refine aU (ι:=abu) (fun t=>eN t = true ∧ aG t = aG s) (fun t=>[(0,S t)]) (fun _=>G) (fun t=>[]) (fun t=>t.length) s ?_ tU F a6 (fun t Ht=>?_)
 ·exact ⟨h,F⟩
 match t,Ht with
 | c :: r,Ht =>
  have e0 : bt (c :: r) (Int.toNat 0) = c.toNat:=lg c r
  have hcons : (c :: r).length = r.length + 1:=rfl
  by_cases h1 : c.toNat = 91 ∨ c.toNat = 63
  ·have hk : eN r = true:=by have:=Ht.1;rw [eN,if_pos h1] at this;exact this
   have hc : aG r = aG s:=by rw [← Ht.2,aG,if_pos h1]
   rcases h1 with h1 | h1
   all_goals repeat' (first | refine jM ?_ | (refine jo ?_;first | refine aP F ?_ | refine aH F ?_) | refine aO F F (aC oM) ?_ | refine aD F F (aF oM) ?_ | (refine ae F (by first | rfl | (refine decide_eq_true ?_;(omega))) ?_))
   all_goals exact aT r ⟨hk,hc⟩ oM tU F a6
  ·repeat' (first | refine jM ?_ | (refine jo ?_;refine aH F ?_) | refine aD F F (aF oM) ?_ | refine af F (aF oM) ?_)
   refine jY (vs:=[_]) ?_
   rw [aE,← Ht.2,aG,if_neg h1]
theorem v9 : ∀ (k : Nat) {n : Int},n.toNat ≤ k → 0 ≤ n ∧ n ≤ 9223372036854775807 → aI abt 103 [I n] G (· = S (a8 n)):=by
 intro k
 induction k with
 | zero =>
  intro n hk hn
  have h1 : n < 10:=oM
  refine jE [(0,_)] Tryz.func103 Tryz.ntmps103 fun B hB=>?_
  repeat' (first | refine jM ?_ | (refine jo ?_;first | refine jF fun _=>?_ | refine jV (dJ F F (by (repeat (first | exact BL.nil | apply BL.cons));done)) ?_) | refine ae F (aC ‹_›) ?_ | refine af F (aF oM) ?_)
  refine jY (vs:=[_]) ?_
  rw [aE,dh h1 hn.1]
 | succ k ih =>
  intro n hk hn
  have hl:=gL (n:=n / 10) oM
  by_cases h1 : n < 10
  ·refine jE [(0,_)] Tryz.func103 Tryz.ntmps103 fun B hB=>?_
   repeat' (first | refine jM ?_ | (refine jo ?_;first | refine jF fun _=>?_ | refine jV (dJ F F (by (repeat (first | exact BL.nil | apply BL.cons));done)) ?_) | refine ae F (aC ‹_›) ?_ | refine af F (aF oM) ?_)
   refine jY (vs:=[_]) ?_
   rw [aE,dh h1 hn.1]
  ·refine jE [(0,_)] Tryz.func103 Tryz.ntmps103 fun B hB=>?_
   repeat' (first | refine jR ?_ | (refine af F (by refine decide_eq_false ?_;first | assumption | omega) ?_) | (refine ak (ar (id:=7) _ (fun _ h=>h) aj ?_);refine jW 5 [0,1,3,4,5,6] (aa 11 123) ?_;refine cd [2,7] kR dC ⟨?_,?_,trivial⟩;(focus (refine aX F F ?_;((refine ad F F F (ih ?_ ?_) F ?_;(focus omega);focus omega));refine jS (aa 11 127) ?_;refine jA 7 F ?_;(refine jF fun _=>?_);refine jS (aa 11 255) ?_;((refine jG (aa 11 511) 8 F (dJ F F (by (repeat (first | exact BL.nil | apply BL.cons));done)) ?_));refine jW 0 [9,10] (aa 11 2047) ?_;refine jQ ?_));rotate_left 1;(focus (refine aX F F ?_;(refine jF fun _=>?_);refine jS (aa 11 251) ?_;((refine jG (aa 11 507) 8 F (dJ F F (by (repeat (first | exact BL.nil | apply BL.cons));done)) ?_));refine jA 2 F ?_;((refine ad F F F (ih ?_ ?_) F ?_;(focus omega);focus omega));refine jS (aa 11 511) ?_;refine jW 0 [9,10] (aa 11 2047) ?_;refine jQ ?_));rotate_left 1))
   all_goals refine jY (vs:=[_]) ?_
   all_goals rw [aE,iw (n:=n) h1]
theorem gi {n : Int} (hn : 0 ≤ n ∧ n ≤ 9223372036854775807) : aI abt 103 [I n] G (· = S (a8 n)):=v9 n.toNat (Nat.le_refl _) hn
def fC (s : abu) : abu:=if s = [110] then [48] else if s = [116] then [39,39] else if s = [102] then [110,111] else []
theorem pJ {s : abu} : aI abt 194 [S s] G (· = S (fC s)):=by
 refine jE [(0,_)] Tryz.func194 Tryz.ntmps194 fun B hB=>?_
 repeat' (first | refine jR ?_ | refine cJ F (fun _=>?_) (fun _=>?_))
 all_goals refine jY (vs:=[_]) ?_
 all_goals (rw [aE,fC];simp [*])
def ia (x : Nat) : Prop:=x = 32 ∨ (48 ≤ x ∧ x ≤ 57) ∨ (97 ≤ x ∧ x ≤ 122)
instance (x : Nat) : Decidable (ia x):=inferInstanceAs (Decidable (_ ∨ _))
def wS (s : abu) : Prop:=(2 ≤ s.length ∧ s.length ≤ 14) ∧ bt s 0 = 39 ∧ bt s (s.length - 1) = 39 ∧ ∀ i,i < s.length - 1 → i = 0 ∨ ia (bt s i)
instance (s : abu) : Decidable (wS s):=inferInstanceAs (Decidable (_ ∧ _ ∧ _ ∧ _))
def dn (s : abu) : Bool:=decide (wS s)
theorem wa {s : abu} (h : s.length ≤ 100000000) : aI abt 201 [S s] G (· = Bo (dn s)):=by
 by_cases h1 : 2 ≤ s.length ∧ s.length ≤ 14
 case neg =>
  have e : dn s = false:=decide_eq_false fun x=>h1 x.1
  rw [e]
  refine jE [(0,_)] Tryz.func201 Tryz.ntmps201 fun B hB=>?_
  repeat' (first | refine jR ?_ | (refine jo ?_;first | refine aP F ?_ | refine aH F ?_) | (refine aO F F (by first | rfl | (refine decide_eq_true ?_;(omega))) ?_) | refine dR F F (fun _=>?_) (fun _=>?_) | refine ae F F ?_)
  all_goals refine jY (vs:=[_]) ?_
  all_goals rfl
 by_cases h2 : bt s 0 = 39
 case neg =>
  have e : dn s = false:=decide_eq_false fun x=>h2 x.2.1
  have h3 : ¬ bt s (Int.toNat 0) = 39:=h2
  rw [e]
  refine jE [(0,_)] Tryz.func201 Tryz.ntmps201 fun B hB=>?_
  repeat' (first | refine jM ?_ | (refine jo ?_;first | refine aP F ?_ | refine aH F ?_) | refine aO F F (aC oM) ?_ | refine aD F F (aF oM) ?_ | refine ae F F ?_)
  all_goals refine jY (vs:=[_]) ?_
  all_goals rfl
 have h3 : bt s (Int.toNat 0) = 39:=h2
 have h4 : (((s.length : Nat) : Int) - 1).toNat = s.length - 1:=oM
 by_cases h5 : bt s (s.length - 1) = 39
 case neg =>
  have e : dn s = false:=decide_eq_false fun x=>h5 x.2.2.1
  have h6 : ¬ bt s (((s.length : Nat) : Int) - 1).toNat = 39:=by rw [h4];exact h5
  rw [e]
  refine jE [(0,_)] Tryz.func201 Tryz.ntmps201 fun B hB=>?_
  repeat' (first | refine jM ?_ | (refine jo ?_;refine aH F ?_) | refine aD F F (aF oM) ?_ | refine ae F (aC oM) ?_)
  all_goals refine jY (vs:=[_]) ?_
  all_goals rfl
 have h6 : bt s (((s.length : Nat) : Int) - 1).toNat = 39:=by rw [h4];exact h5
 refine jE [(0,_)] Tryz.func201 Tryz.ntmps201 fun B hB=>?_
 repeat' (first | refine jM ?_ | (refine jo ?_;refine aH F ?_) | refine aD F F (aF oM) ?_ | refine af F (aF oM) ?_)
 refine aU (ι:=Nat) (fun i=>(1 ≤ i ∧ i ≤ s.length - 1) ∧ ∀ k,k < i → k = 0 ∨ ia (bt s k)) (fun i=>[(0,S s),(3,I i)]) (fun _=>G) (fun i=>[]) (fun i=>s.length - i) 1 ?_ tU F a6 (fun i Hi=>?_)
 ·exact ⟨⟨Nat.le_refl _,oM⟩,fun k hk=>.inl oM⟩
 by_cases hi : i < s.length - 1
 ·by_cases ht : ia (bt s i)
  ·have ht2 : ia (bt s ((i : Int).toNat)):=ht
   unfold ia at ht2
   repeat' (first | refine jM ?_ | (refine jo ?_;first | refine aP F ?_ | refine aH F ?_) | (refine aD F F (by first | rfl | (refine decide_eq_false ?_;(omega))) ?_) | refine dR F F (fun _=>?_) (fun _=>?_) | refine ae F (aC oM) ?_ | (refine af F (by first | rfl | (refine decide_eq_false ?_;(omega))) ?_))
   all_goals refine aT (i + 1) ⟨⟨oM,oM⟩,fun k hk=>?_⟩ oM tU F a6
   all_goals (rcases Nat.lt_or_ge k i with h7 | h7;· exact Hi.2 k h7)
   all_goals (have : k = i:=by omega)
   all_goals (subst this;exact .inr ht)
  ·have ht2 : ¬ ia (bt s ((i : Int).toNat)):=ht
   unfold ia at ht2
   have e : dn s = false:=decide_eq_false fun x=>(x.2.2.2 i hi).elim (fun h8=>by omega) ht
   rw [e]
   repeat' (first | refine jM ?_ | (refine jo ?_;first | refine aP F ?_ | refine aH F ?_) | (refine aO F F (by first | rfl | (refine decide_eq_true ?_;(omega))) ?_) | refine dR F F (fun _=>?_) (fun _=>?_) | (refine ae F (by first | rfl | (refine decide_eq_true ?_;(omega))) ?_))
   all_goals refine jY (vs:=[_]) ?_
   all_goals rfl
 ·have e : dn s = true:=decide_eq_true ⟨h1,h2,h5,fun k hk=>Hi.2 k oM⟩
  rw [e]
  repeat' (first | refine jM ?_ | refine af F (aF oM) ?_)
  refine jY (vs:=[_]) ?_
  rfl
def dx (k : Nat) (acc : abu) : abu → List abu
 | []=>[acc]
 | c :: r=>if c.toNat = k then acc :: dx k [] r else dx k (acc ++ [c]) r
def aY (k : Nat) (s : abu) : List abu:=dx k [] s
theorem sA {s : abu} {k : Nat} (h : s.length ≤ 100000000) : b6 abt 114 [S s,U8 k] G [] (fun v L'=>L' = [.acc v sU 1 (aY k s).length (oE (aY k s))] ∧ sL v (aY k s).length):=by
 refine jH [(0,_),(1,_)] Tryz.func114 Tryz.ntmps114 fun B hB hW=>?_
 repeat' (first | refine jR ?_ | (refine jo ?_;refine jF fun _=>?_))
 rename_i x
 refine Nx.blkAcc (m:=0) (sz:=1) .here F ?_
 refine aU (ι:=Value × List abu × Nat × Nat) (fun i=>(i.2.2.1 ≤ i.2.2.2 ∧ i.2.2.2 ≤ s.length ∧ i.2.1.length ≤ i.2.2.2) ∧ i.2.1 ++ dx k ((s.take i.2.2.2).drop i.2.2.1) (s.drop i.2.2.2) = aY k s) (fun i=>[(0,S s),(1,U8 k),(5,i.1),(6,I i.2.2.1),(7,I i.2.2.2)]) (fun _=>G) (fun i=>[.acc i.1 sU 1 i.2.1.length (oE i.2.1)]) (fun i=>s.length - i.2.2.2) (.slice (some ⟨x,0,none⟩) 0 0,[],0,0) ?_ tU F a6 (fun i Hi=>?_)
 ·exact ⟨⟨Nat.le_refl _,Nat.zero_le _,Nat.zero_le _⟩,F⟩
 obtain ⟨u,xs,fr,i⟩:=i
 dsimp only at Hi ⊢
 by_cases hi : i < s.length
 ·obtain ⟨c,hc1,hc2⟩:=kp hi
  have hn : s.drop i ≠ []:=by rw [hc1];simp
  have ht : (s.take (i + 1)).drop fr = (s.take i).drop fr ++ [c]:=by
   have e : s[i] = c:=by have:=List.getElem_cons_drop (h:=hi);rw [hc1] at this;exact (List.cons.inj this).1
   rw [List.take_succ_eq_append_getElem hi,e,List.drop_append_of_le_length (by simp;omega)]
  have hcut:=Hi.2
  rw [hc1,dx] at hcut
  by_cases hk : c.toNat = k
  ·have hk2 : bt s i = k:=oM
   rw [if_pos hk] at hcut
   repeat' (first | refine jM ?_ | (refine jo ?_;first | refine jF fun _=>?_ | refine pR F F F F F F F F oM fun _=>?_) | (refine ae F ?_ ?_;(focus ((first | (refine decide_eq_true ?_;(omega)) | (simp [*];done));done))))
   refine aT (_,xs ++ [(s.take i).drop fr],i + 1,i + 1) ⟨⟨by dsimp only;omega,by dsimp only;omega,by simp;omega⟩,?_⟩ (by dsimp only;omega) tU rfl (by dsimp only;simp only [o9,List.length_append,List.length_cons,List.length_nil,Nat.zero_add];repeat (first | exact List.nil_sublist _ | apply List.Sublist.cons_cons))
   have e0 : (s.take (i + 1)).drop (i + 1) = []:=by simp
   dsimp only;rw [e0,← hcut];simp
  ·have hk2 : ¬ bt s i = k:=oM
   rw [if_neg hk] at hcut
   repeat' (first | refine jM ?_ | refine ae F (aC oM) ?_ | (refine af F ?_ ?_;(focus ((simp;omega);done))))
   refine aT (u,xs,fr,i + 1) ⟨⟨by dsimp only;omega,by dsimp only;omega,by dsimp only;omega⟩,?_⟩ (by dsimp only;omega) tU rfl a6
   dsimp only;rw [ht];exact hcut
 ·have e : aY k s = xs ++ [s.drop fr]:=by
   have ei : i = s.length:=oM
   rw [← Hi.2,ei,List.take_length,List.drop_length];rfl
  repeat' (first | refine jM ?_ | (refine jo ?_;first | refine jF fun _=>?_ | refine pR F F F F F F F F oM fun _=>?_) | refine af F (aF oM) ?_)
  refine Nx.shp (.head _) fun hsh=>aN (vs:=[_]) F ⟨F,trivial⟩ F (List.Sublist.cons_cons _ (List.nil_sublist _)) ⟨F,?_,?_⟩
  ·rw [e,o9,List.length_append];rfl
  ·rw [e,List.length_append];exact hsh
def cN (n : Int) : abu → Option Int
 | []=>some n
 | c :: r=>if 48 ≤ c.toNat ∧ c.toNat ≤ 57 then cN (10 * n + ((c.toNat : Int) - 48)) r else none
def aR (s : abu) (top : Int) : Option Int :=
 if s.length ≤ 6 then
  match cN 0 s with
  | some n=>if s = a8 n ∧ n ≤ top then some n else none
  | none=>none
 else none
theorem vJ (i : Nat) (hi : i ≤ 5) : (10 : Int) ^ (i + 1) = 10 * 10 ^ i ∧ (10 : Int) ^ i ≤ 100000 ∧ (0 : Int) < 10 ^ i:=by
 refine ⟨by rw [Int.pow_succ,Int.mul_comm],?_⟩
 rcases (show i = 0 ∨ i = 1 ∨ i = 2 ∨ i = 3 ∨ i = 4 ∨ i = 5 by omega) with rfl | rfl | rfl | rfl | rfl | rfl <;> decide
theorem mr {s : abu} {top : Int} (h : s.length ≤ 100000000) : aI abt 151 [S s,I top] G (fun v=>∃ n,v = Tu [I n,Bo (aR s top).isSome] ∧ (∀ m,aR s top = some m → n = m)):=by
 refine jE [(0,_),(1,_)] Tryz.func151 Tryz.ntmps151 fun B hB=>?_
 repeat' (refine jR ?_)
 refine aU (ι:=Nat × Int) (fun i=>(i.1 ≤ s.length ∧ i.1 ≤ 6) ∧ (0 ≤ i.2 ∧ i.2 + 1 ≤ 10 ^ i.1) ∧ cN i.2 (s.drop i.1) = cN 0 s) (fun i=>[(0,S s),(1,I top),(6,I i.2),(7,I i.1)]) (fun _=>G) (fun i=>[]) (fun i=>s.length - i.1) (0,0) ?_ tU F a6 (fun i Hi=>?_)
 ·exact ⟨⟨by dsimp only;omega,by dsimp only;omega⟩,⟨by dsimp only;omega,by dsimp only;decide⟩,rfl⟩
 obtain ⟨i,n⟩:=i
 dsimp only at Hi ⊢
 by_cases hi : i < s.length
 ·obtain ⟨c,hc1,hc2⟩:=kp hi
  have hc3 : bt s ((i : Int).toNat) = c.toNat:=hc2
  have hd:=Hi.2.2
  rw [hc1,cN] at hd
  by_cases h5 : i ≤ 5
  ·have hp:=vJ i h5
   by_cases hdig : 48 ≤ c.toNat ∧ c.toNat ≤ 57
   ·rw [if_pos hdig] at hd
    repeat' (first | refine jM ?_ | (refine jo ?_;refine aH F ?_) | refine aD F F (aF oM) ?_ | refine ae F (aC oM) ?_ | refine af F (aF oM) ?_)
    refine aT (i + 1,10 * n + ((c.toNat : Int) - 48)) ⟨⟨by dsimp only;omega,by dsimp only;omega⟩,⟨by dsimp only;omega,by dsimp only;rw [hp.1];omega⟩,hd⟩ (by dsimp only;omega) ?_ rfl a6
    rw [← hc2];repeat (first | exact trivial | refine ⟨F,?_⟩)
   ·rw [if_neg hdig] at hd
    have hno : aR s top = none:=by unfold aR;rw [← hd];split <;> rfl
    repeat' (first | refine jM ?_ | (refine jo ?_;first | refine aP F ?_ | refine aH F ?_) | (refine aO F F (by first | rfl | (refine decide_eq_true ?_;(omega))) ?_) | refine dR F F (fun _=>?_) (fun _=>?_) | (refine ae F (by first | rfl | (refine decide_eq_true ?_;(omega))) ?_))
    all_goals refine jY (vs:=[_,_]) ?_
    all_goals exact ⟨_,by rw [hno];rfl,fun m hm=>by rw [hno] at hm;cases hm⟩
  ·have hno : aR s top = none:=by unfold aR;rw [if_neg oM]
   have e6 : i = 6:=oM
   subst e6
   repeat' (first | refine jM ?_ | (refine jo ?_;first | refine aP F ?_ | refine aH F ?_) | refine aO F F F ?_ | refine dR F F (fun _=>?_) (fun _=>?_) | (refine ae F (by first | rfl | (refine decide_eq_true ?_;(omega))) ?_))
   all_goals refine jY (vs:=[_,_]) ?_
   all_goals exact ⟨_,by rw [hno];rfl,fun m hm=>by rw [hno] at hm;cases hm⟩
 ·have ei : i = s.length:=oM
  have hd:=Hi.2.2
  rw [ei,List.drop_length,cN] at hd
  have hp : n ≤ 9223372036854775807:=by
   rcases Nat.lt_or_ge i 6 with h1 | h1
   ·have:=vJ i oM;omega
   ·have e6 : i = 6:=oM
    subst e6
    have:=Hi.2.1.2
    have e : (10 : Int) ^ 6 = 1000000:=by decide
    omega
  have hno : aR s top = if s = a8 n ∧ n ≤ top then some n else none:=by unfold aR;rw [if_pos oM,← hd]
  repeat' (first | refine jR ?_ | (refine jo ?_;first | refine aP F ?_ | refine aH F ?_ | refine ad F F F (gi oM) F ?_) | refine dR F F (fun _=>?_) (fun _=>?_) | refine af F (aF oM) ?_)
  ·rename_i hs
   refine jY (vs:=[_,_]) ?_
   refine ⟨n,?_,fun m hm=>?_⟩
   ·rw [hno,dV]
    by_cases ht : n ≤ top
    ·rw [if_pos ⟨hs,ht⟩,decide_eq_true ht];rfl
    ·rw [if_neg (fun h=>ht h.2),decide_eq_false ht];rfl
   ·rw [hno] at hm
    split at hm
    ·exact Option.some.inj hm
    ·cases hm
  ·rename_i hs
   refine jY (vs:=[_,_]) ?_
   refine ⟨n,by rw [hno,if_neg (fun h=>hs h.1)];rfl,fun m hm=>?_⟩
   rw [hno,if_neg (fun h=>hs h.1)] at hm;cases hm
def bx (k s : abu) : Bool :=
 if k = [110] then (aR s 999999).isSome && decide (s ≠ [48])
 else if k = [116] then dn s && decide (s ≠ [39,39])
 else if k = [102] then decide (s = [121,101,115])
 else false
theorem u4 {k s : abu} (h : s.length ≤ 100000000) : aI abt 184 [S k,S s] G (· = Bo (bx k s)):=by
 by_cases h1 : k = [110]
 ·have e : bx k s = ((aR s 999999).isSome && decide (s ≠ [48])):=by rw [bx,if_pos h1]
  rw [e]
  refine jE [(0,_),(1,_)] Tryz.func184 Tryz.ntmps184 fun B hB=>?_
  repeat' (first | refine jR ?_ | (refine jo ?_;first | refine aP F ?_ | refine aH F ?_ | (refine dO F F F (mr oM) F ?_;rintro _ ⟨n,rfl,hnum⟩)) | refine kN F F (fun _=>?_) (fun _=>?_) | refine ae F (aC ‹_›) ?_)
  all_goals refine jY (vs:=[_]) ?_
  all_goals (rw [aE];simp [*])
 by_cases h2 : k = [116]
 ·have e : bx k s = (dn s && decide (s ≠ [39,39])):=by rw [bx,if_neg h1,if_pos h2]
  rw [e]
  refine jE [(0,_),(1,_)] Tryz.func184 Tryz.ntmps184 fun B hB=>?_
  repeat' (first | refine jR ?_ | (refine jo ?_;first | refine aP F ?_ | refine aH F ?_ | refine ad F F F (wa ‹_›) F ?_) | refine dR F F (fun _=>?_) (fun _=>?_) | refine ae F (aC ‹_›) ?_ | refine af F (aF ‹_›) ?_)
  all_goals refine jY (vs:=[_]) ?_
  all_goals (rw [aE];simp [*,dn])
 by_cases h3 : k = [102]
 ·have e : bx k s = decide (s = [121,101,115]):=by rw [bx,if_neg h1,if_neg h2,if_pos h3]
  rw [e]
  refine jE [(0,_),(1,_)] Tryz.func184 Tryz.ntmps184 fun B hB=>?_
  repeat' (first | refine jR ?_ | refine ae F (aC ‹_›) ?_ | refine af F (aF ‹_›) ?_)
  all_goals refine jY (vs:=[_]) ?_
  all_goals rfl
 ·have e : bx k s = false:=by rw [bx,if_neg h1,if_neg h2,if_neg h3]
  rw [e]
  refine jE [(0,_),(1,_)] Tryz.func184 Tryz.ntmps184 fun B hB=>?_
  repeat' (first | refine jR ?_ | refine af F (aF ‹_›) ?_)
  all_goals refine jY (vs:=[_]) ?_
  all_goals rfl
structure Fld where
 tag : Int
 name : abu
 kind : abu
 stand : abu
deriving Inhabited
def cF (f : Fld) : List Value:=[I f.tag,S f.name,S f.kind,S f.stand]
instance : RowF cF 4:=⟨fun _=>rfl⟩
def bI (s : abu) (k : Nat) : Option Fld :=
 match aY 58 s with
 | [a,b]=>if k = 69 then
   match aR a 200 with
   | some n=>if 1 ≤ n ∧ bQ b = true then some ⟨n,b,[],[]⟩ else none
   | none=>none
  else none
 | [a,b,c]=>if k = 69 then none else
   match aR a 200 with
   | some n=>if 1 ≤ n ∧ bQ b = true then
     match aY 61 c with
     | [d]=>if bn d = true then some ⟨n,b,d,[]⟩ else none
     | [d,e]=>if k = 82 ∧ bx d e = true then some ⟨n,b,d,e⟩ else none
     | _=>none
    else none
   | none=>none
 | _=>none
theorem nh {k : Nat} : ∀ {s acc : abu} {x : abu},x ∈ dx k acc s → x.length ≤ acc.length + s.length
 | [],acc,x,h=>by simp [dx] at h;subst h;simp
 | c :: r,acc,x,h=>by
  unfold dx at h
  split at h
  ·rcases List.mem_cons.1 h with rfl | h
   ·simp
   ·have:=nh h;simp at this ⊢;omega
  ·have:=nh h;simp at this ⊢;omega
theorem cY {k : Nat} {s x : abu} (h : x ∈ aY k s) : x.length ≤ s.length:=by have:=nh h;simpa using this
theorem nn {k : Nat} : ∀ {s acc : abu},0 < (dx k acc s).length
 | [],acc=>by simp [dx]
 | c :: r,acc=>by
  unfold dx
  split
  ·simp
  ·exact nn
theorem dL {k : Nat} {s : abu} : 0 < (aY k s).length:=nn
theorem hY {k : Nat} : ∀ {s acc : abu},(dx k acc s).length ≤ s.length + 1
 | [],acc=>by simp [dx]
 | c :: r,acc=>by
  unfold dx
  split
  ·have:=hY (k:=k) (s:=r) (acc:=[]);simp;omega
  ·have:=hY (k:=k) (s:=r) (acc:=acc ++ [c]);simp;omega
theorem jl {k : Nat} {s : abu} : (aY k s).length ≤ s.length + 1:=hY
def aB (k : Nat) : abu → abu × abu × Bool
 | []=>([],[],false)
 | c :: r=>if c.toNat = k then ([],r,true) else (c :: (aB k r).1,(aB k r).2.1,(aB k r).2.2)
theorem d9 (c : UInt8) (r : abu) (i : Nat) : bt (c :: r) (i + 1) = bt r i:=by simp [bt,List.getD]
theorem dk (c : UInt8) (r : abu) : bt (c :: r) 0 = c.toNat:=by simp [bt,List.getD]
theorem sn {k : Nat} : ∀ {s : abu},(∀ j,j < s.length → bt s j ≠ k) → aB k s = (s,[],false)
 | [],_=>rfl
 | c :: r,h=>by
  have h0:=h 0 (by simp)
  rw [dk] at h0
  have ih:=sn (k:=k) (s:=r) fun j hj=>by have:=h (j + 1) (by simpa using hj);rwa [d9] at this
  rw [aB,if_neg h0,ih]
theorem oT {k : Nat} : ∀ {s : abu} {i : Nat},i < s.length → (∀ j,j < i → bt s j ≠ k) → bt s i = k → aB k s = (s.take i,s.drop (i + 1),true)
 | [],i,h,_,_=>by simp at h
 | c :: r,0,_,_,h=>by rw [dk] at h;rw [aB,if_pos h];rfl
 | c :: r,i + 1,hl,h,hi=>by
  have h0:=h 0 oM
  rw [dk] at h0
  rw [d9] at hi
  have ih:=oT (k:=k) (s:=r) (i:=i) (by simpa using hl) (fun j hj=>by have:=h (j + 1) oM;rwa [d9] at this) hi
  rw [aB,if_neg h0,ih];rfl
structure Ty where
 sort : Nat
 name : abu
 fields : List Fld
deriving Inhabited
def fresh (f : Fld) (fs : List Fld) : Bool:=fs.all fun g=>decide (g.tag < f.tag ∧ g.name ≠ f.name)
def cL (k : Nat) : List abu → List Fld → Option (List Fld)
 | [],fs=>some fs
 | x :: xs,fs=>match bI x k with
  | none=>none
  | some f=>if fresh f fs = true then cL k xs (fs ++ [f]) else none
def dP (k : Nat) : Prop:=k = 82 ∨ k = 85 ∨ k = 69
instance (k : Nat) : Decidable (dP k):=inferInstanceAs (Decidable (_ ∨ _ ∨ _))
def cO : abu → Option Ty
 | []=>none
 | c :: r=>match aB 61 r with
  | (name,rest,true)=>if bQ name = true ∧ dP c.toNat then
    if rest = [] then (if c.toNat = 82 then some ⟨82,name,[]⟩ else none)
    else match cL c.toNat (aY 44 rest) [] with
     | some fs=>if fs.length ≤ 8 then some ⟨c.toNat,name,fs⟩ else none
     | none=>none
   else none
  | _=>none
def bc : abu → Option abu
 | []=>none
 | c :: r=>if c.toNat = 64 then some (r.take (r.length - 1)) else none
def dK (ts : List Ty) (name : abu) : Option Ty:=ts.find? fun t=>decide (t.name = name)
def aL (ts : List Ty) (k : abu) : Option Ty:=(bc k).bind (dK ts)
def eV (t : Ty) : abu:=(t.fields.headD default).kind
def bJ (ts : List Ty) : Nat → Ty → Bool
 | 0,_=>false
 | n + 1,t=>if t.sort ≠ 85 then true else match aL ts (eV t) with
  | none=>true
  | some u=>bJ ts n u
def d7 (ts : List Ty) (k : abu) : Bool:=match bc (aG k) with
 | none=>true
 | some n=>(dK ts n).isSome
def kw (ts : List Ty) (i : Nat) : Prop:=∀ k,k < i → (ac ts k).name ≠ (ac ts i).name
def gP (ts : List Ty) (t : Ty) : Prop:=t.sort = 69 ∨ ∀ j,j < t.fields.length → d7 ts (ac t.fields j).kind = true
def hC (ts : List Ty) : Prop:=(∀ i,i < ts.length → kw ts i ∧ gP ts (ac ts i)) ∧ ∀ i,i < ts.length → bJ ts (ts.length + 1) (ac ts i) = true
instance (ts : List Ty) (i : Nat) : Decidable (kw ts i):=inferInstanceAs (Decidable (∀ k,k < i → _))
instance (ts : List Ty) (t : Ty) : Decidable (gP ts t):=inferInstanceAs (Decidable (_ ∨ ∀ j,j < t.fields.length → _))
instance (ts : List Ty) : Decidable (hC ts):=inferInstanceAs (Decidable ((∀ i,i < ts.length → _) ∧ ∀ i,i < ts.length → _))
def bS : List abu → Option (List Ty)
 | []=>some []
 | x :: xs=>match cO x with
  | none=>none
  | some t=>(bS xs).map (t :: ·)
def ax (s : abu) : Option (List Ty) :=
 if s.length ≤ 400 ∧ (aY 10 s).length ≤ 9 ∧ (aY 10 s).getLastD [] = [] then
  match bS (aY 10 s).dropLast with
  | some ts=>if hC ts then some ts else none
  | none=>none
 else none
structure FldW (k : Nat) (f : Fld) : Prop where
 tag : 1 ≤ f.tag ∧ f.tag ≤ 200
 name : bQ f.name = true
 kind : k ≠ 69 → bn f.kind = true
 enm : k = 69 → f.kind = [] ∧ f.stand = []
 stand : f.stand ≠ [] → k = 82 ∧ bx f.kind f.stand = true
theorem eh {s : abu} {top n : Int} (h : aR s top = some n) : n ≤ top ∧ s = a8 n ∧ s.length ≤ 6:=by
 unfold aR at h
 split at h
 ·split at h
  ·split at h
   ·rename_i h1 _ _ _ h2;simp only [Option.some.injEq] at h;subst h;exact ⟨h2.2,h2.1,h1⟩
   ·cases h
  ·cases h
 ·cases h
theorem lv {k s : abu} (h : bx k s = true) : bn k = true:=by
 unfold bx at h
 split at h
 ·subst_vars;decide
 ·split at h
  ·subst_vars;decide
  ·split at h
   ·subst_vars;decide
   ·cases h
theorem xy {s : abu} {k : Nat} {f : Fld} (h : bI s k = some f) : FldW k f:=by
 unfold bI at h
 split at h
 ·split at h
  ·rename_i hk
   split at h
   ·rename_i n hn
    split at h
    ·rename_i hg
     simp only [Option.some.injEq] at h;subst h
     exact ⟨⟨hg.1,(eh hn).1⟩,hg.2,fun h=>absurd hk h,fun _=>⟨F,F⟩,fun h=>absurd F h⟩
    ·cases h
   ·cases h
  ·cases h
 ·split at h
  ·cases h
  ·rename_i hk
   split at h
   ·rename_i n hn
    split at h
    ·rename_i hg
     split at h
     ·split at h
      ·rename_i hd
       simp only [Option.some.injEq] at h;subst h
       exact ⟨⟨hg.1,(eh hn).1⟩,hg.2,fun _=>hd,fun h=>absurd h hk,fun h=>absurd F h⟩
      ·cases h
     ·split at h
      ·rename_i hd
       simp only [Option.some.injEq] at h;subst h
       exact ⟨⟨hg.1,(eh hn).1⟩,hg.2,fun _=>lv hd.2,fun h=>absurd h hk,fun _=>hd⟩
      ·cases h
     ·cases h
    ·cases h
   ·cases h
 ·cases h
structure TyW (t : Ty) : Prop where
 sort : dP t.sort
 name : bQ t.name = true
 ne : t.sort ≠ 82 → t.fields ≠ []
 len : t.fields.length ≤ 8
 fld : ∀ f ∈ t.fields,FldW t.sort f
 asc : t.fields.Pairwise fun g f=>g.tag < f.tag ∧ g.name ≠ f.name
theorem n0 {k : Nat} : ∀ {xs : List abu} {fs gs : List Fld},cL k xs fs = some gs → (∀ f ∈ fs,FldW k f) → fs.Pairwise (fun g f=>g.tag < f.tag ∧ g.name ≠ f.name) →
  (∀ f ∈ gs,FldW k f) ∧ gs.Pairwise (fun g f=>g.tag < f.tag ∧ g.name ≠ f.name) ∧ gs.length = fs.length + xs.length
 | [],fs,gs,h,h1,h2=>by
  simp only [cL,Option.some.injEq] at h;subst h;exact ⟨h1,h2,by simp⟩
 | x :: xs,fs,gs,h,h1,h2=>by
  unfold cL at h
  split at h
  ·cases h
  ·rename_i f hf
   split at h
   ·rename_i hfr
    simp only [fresh,List.all_eq_true,decide_eq_true_eq] at hfr
    have:=n0 h (fun g hg=>by
     rcases List.mem_append.1 hg with hg | hg
     ·exact h1 g hg
     ·simp only [List.mem_singleton] at hg;subst hg;exact xy hf) (List.pairwise_append.2 ⟨h2,by simp,fun a ha b hb=>by
      simp only [List.mem_singleton] at hb;subst hb;exact hfr a ha⟩)
    refine ⟨this.1,this.2.1,?_⟩
    rw [this.2.2];simp;omega
   ·cases h
theorem ya {s : abu} {t : Ty} (h : cO s = some t) : TyW t:=by
 unfold cO at h
 split at h
 ·cases h
 ·split at h
  ·split at h
   ·rename_i hn
    split at h
    ·split at h
     ·simp only [Option.some.injEq] at h;subst h
      exact ⟨.inl F,hn.1,fun h=>absurd F h,by simp,by simp,by simp⟩
     ·cases h
    ·split at h
     ·rename_i fs hfs
      split at h
      ·rename_i hl
       simp only [Option.some.injEq] at h;subst h
       have hw:=n0 hfs (by simp) (by simp)
       refine ⟨hn.2,hn.1,fun _ h0=>?_,hl,hw.1,hw.2.1⟩
       have:=hw.2.2
       dsimp only at h0
       rw [h0] at this
       have:=dL (k:=44) (s:=‹abu›)
       simp at *;omega
      ·cases h
     ·cases h
   ·cases h
  ·cases h
theorem gZ : ∀ {xs : List abu} {ts : List Ty},bS xs = some ts → (∀ t ∈ ts,TyW t) ∧ ts.length = xs.length
 | [],ts,h=>by simp only [bS,Option.some.injEq] at h;subst h;simp
 | x :: xs,ts,h=>by
  unfold bS at h
  split at h
  ·cases h
  ·rename_i t ht
   cases hr : bS xs with
   | none=>rw [hr] at h;cases h
   | some us =>
    rw [hr] at h
    simp only [Option.map_some,Option.some.injEq] at h;subst h
    have:=gZ hr
    exact ⟨fun u hu=>by rcases List.mem_cons.1 hu with rfl | hu;exact ya ht;exact this.1 u hu,by simp [this.2]⟩
structure SchW (ts : List Ty) : Prop where
 ty : ∀ t ∈ ts,TyW t
 len : ts.length ≤ 8
 valid : hC ts
theorem co {s : abu} {ts : List Ty} (h : ax s = some ts) : SchW ts:=by
 unfold ax at h
 split at h
 ·rename_i hc
  split at h
  ·rename_i us hus
   split at h
   ·rename_i hv
    simp only [Option.some.injEq] at h;subst h
    have:=gZ hus
    exact ⟨this.1,by rw [this.2,List.length_dropLast];omega,hv⟩
   ·cases h
  ·cases h
 ·cases h
def aJ (ts : List Ty) (k : abu) : Bool:=bn k && d7 ts k
theorem uM {ts : List Ty} {n : abu} {t : Ty} (h : dK ts n = some t) : t ∈ ts:=List.mem_of_find?_eq_some h
theorem bM {ts : List Ty} {k : abu} {t : Ty} (h : aL ts k = some t) : t ∈ ts:=by
 unfold aL at h
 cases hr : bc k with
 | none=>rw [hr] at h;cases h
 | some n=>rw [hr] at h;exact uM h
theorem kU (ts : List Ty) : ∀ (k : Nat) (t : Ty),bJ ts k t = true → bJ ts (k + 1) t = true
 | 0,t,h=>by cases h
 | k + 1,t,h=>by
  unfold bJ at h ⊢
  split
  ·rfl
  ·rename_i hs
   rw [if_neg hs] at h
   cases hr : aL ts (eV t) with
   | none=>rfl
   | some u=>rw [hr] at h;exact kU ts k u h
def eg (ts : List Ty) (k : Nat) : Prop:=∀ t ∈ ts,bJ ts (k + 1) t = bJ ts k t
theorem mB {ts : List Ty} {k : Nat} (h : eg ts k) : eg ts (k + 1):=by
 intro t ht
 rw [bJ,bJ]
 split
 ·rfl
 ·cases hr : aL ts (eV t) with
  | none=>rfl
  | some u=>exact h u (bM hr)
theorem nE {ts : List Ty} {k : Nat} (h : eg ts k) : ∀ (m : Nat) (t : Ty),t ∈ ts → bJ ts (k + m) t = bJ ts k t:=by
 have hs : ∀ m,eg ts (k + m):=fun m=>by
  induction m with
  | zero=>exact h
  | succ m ih=>exact mB ih
 intro m t ht
 induction m with
 | zero=>rfl
 | succ m ih=>rw [← ih];exact hs m t ht
theorem qR {α : Type} {p q : α → Bool} : ∀ {l : List α},(∀ x ∈ l,p x = true → q x = true) → (∃ x ∈ l,q x = true ∧ p x = false) → l.countP p < l.countP q
 | [],_,h=>by obtain ⟨x,hx,_⟩:=h;cases hx
 | a :: l,h1,h2=>by
  have hle : ∀ l : List α,(∀ x ∈ l,p x = true → q x = true) → l.countP p ≤ l.countP q:=fun l h=>List.countP_mono_left h
  rw [List.countP_cons,List.countP_cons]
  have h3:=hle l fun x hx=>h1 x (List.mem_cons_of_mem _ hx)
  obtain ⟨x,hx,h4,h5⟩:=h2
  rcases List.mem_cons.1 hx with rfl | hx
  ·simp [h4,h5];omega
  ·have h6:=qR (fun x hx=>h1 x (List.mem_cons_of_mem _ hx)) ⟨x,hx,h4,h5⟩
   by_cases hp : p a = true
   ·simp [hp,h1 a (List.mem_cons_self ..) hp];exact h6
   ·simp [hp];split <;> omega
theorem mv {ts : List Ty} {k : Nat} (h : ¬ eg ts k) : ts.countP (bJ ts k) < ts.countP (bJ ts (k + 1)):=by
 refine qR (fun x _=>kU ts k x) ?_
 unfold eg at h
 simp only [Classical.not_forall] at h
 obtain ⟨t,ht,hne⟩:=h
 refine ⟨t,ht,?_⟩
 cases h1 : bJ ts k t with
 | false =>
  refine ⟨?_,F⟩
  cases h2 : bJ ts (k + 1) t with
  | false=>rw [h1,h2] at hne;exact absurd F hne
  | true=>rfl
 | true=>rw [kU ts k t h1,h1] at hne;exact absurd F hne
theorem uh (ts : List Ty) (k : Nat) : eg ts k ∨ k + 1 ≤ ts.countP (bJ ts (k + 1)):=by
 induction k with
 | zero =>
  by_cases h : eg ts 0
  ·exact .inl h
  ·have:=mv h;exact .inr oM
 | succ k ih =>
  by_cases h : eg ts (k + 1)
  ·exact .inl h
  ·have:=mv h
   rcases ih with h3 | h3
   ·exact absurd (mB h3) h
   ·exact .inr oM
theorem xz {ts : List Ty} {t : Ty} (hl : ts.length ≤ 8) (ht : t ∈ ts) : bJ ts 9 t = bJ ts (ts.length + 1) t:=by
 have hs : eg ts ts.length:=by
  rcases uh ts ts.length with h | h
  ·exact h
  ·have:=List.countP_le_length (p:=bJ ts (ts.length + 1)) (l:=ts)
   omega
 have h1:=nE hs (9 - ts.length) t ht
 have h2:=nE hs 1 t ht
 rw [show ts.length + (9 - ts.length) = 9 by omega] at h1
 rw [h1,h2]
def eS (k : Nat) (s : abu) : Int:=if (aB k s).2.2 = true then ((aB k s).1.length : Int) else -1
theorem ge {k : Nat} : ∀ {s a b : abu},aB k s = (a,b,true) → ∃ c : UInt8,c.toNat = k ∧ s = a ++ c :: b
 | [],a,b,h=>by simp [aB] at h
 | c :: r,a,b,h=>by
  unfold aB at h
  split at h
  ·rename_i hc
   simp only [Prod.mk.injEq,and_true] at h
   obtain ⟨rfl,rfl⟩:=h
   exact ⟨c,hc,F⟩
  ·simp only [Prod.mk.injEq] at h
   obtain ⟨rfl,h2,h3⟩:=h
   obtain ⟨d,hd,hr⟩:=ge (k:=k) (s:=r) (a:=(aB k r).1) (b:=b) (by rw [← h2,← h3])
   exact ⟨d,hd,by rw [List.cons_append,← hr]⟩
theorem eG {k : Nat} : ∀ {s : abu},(aB k s).2.2 = false → aB k s = (s,[],false)
 | [],h=>rfl
 | c :: r,h=>by
  unfold aB at h ⊢
  split at h
  ·cases h
  ·rename_i hc
   rw [if_neg hc,eG (s:=r) h]
theorem iM {k : Nat} {s : abu} : (aB k s).1.length ≤ s.length ∧ (aB k s).2.1.length ≤ s.length:=by
 cases h : (aB k s).2.2 with
 | false=>rw [eG h];simp
 | true =>
  obtain ⟨c,_,e⟩:=ge (k:=k) (s:=s) (a:=(aB k s).1) (b:=(aB k s).2.1) (by rw [← h])
  have:=congrArg List.length e
  simp at this
  omega
theorem oJ (s : abu) (c : UInt8) : Lib.indexByte s c = eS c.toNat s:=by
 induction s with
 | nil=>rfl
 | cons b r ih =>
  unfold Lib.indexByte
  by_cases hb : b = c
  ·subst hb;simp [eS,aB]
  ·have hb2 : ¬ b.toNat = c.toNat:=fun h=>hb (UInt8.toNat_inj.1 h)
   have hb3 : (b == c) = false:=by simpa using hb
   rw [hb3,ih]
   unfold eS
   rw [aB,if_neg hb2]
   dsimp only
   cases (aB c.toNat r).2.2 <;> simp
theorem rl {s : abu} {c : UInt8} : aI abt 206 [S s,U8 c.toNat] G (· = I (eS c.toNat s)):=by
 have hx : ∀ w,(callFunc 216 [S s,U8 c.toNat].toArray).run abt w = .ok (.value (I (eS c.toNat s))) w:=fun w=>by
  rw [run_callFunc_extern Tryz.func216 kR kR kR (e:=Extern.BytealgIndexByte.indexByte) kR]
  have:=Lib.run_indexByteString (P:=abt) ⟨s.toArray⟩ (c.toNat : Int) w
  rw [this]
  simp only [Result.andThen]
  rw [oJ]
  simp
 refine jE [(0,_),(1,_)] Tryz.func206 Tryz.ntmps206 fun B hB=>?_
 repeat' (refine jR ?_)
 refine tq F (jt (m9 F F F hx) F F ?_)
 repeat' (refine jR ?_)
 refine jY (vs:=[_]) ?_
 rfl
theorem uE (c : UInt8) : eS c.toNat [c] = 0:=by simp [eS,aB]
theorem rk {s : abu} {c : UInt8} : aI abt 186 [S s,S [c]] G (· = I (eS c.toNat s)):=by
 have e0 : ((bt [c] (Int.toNat 0) : Nat) : Int) = c.toNat:=by rw [show Int.toNat 0 = 0 from rfl,dk]
 by_cases hs : [c] = s
 ·subst hs
  rw [uE]
  refine jE [(0,_),(1,_)] Tryz.func186 Tryz.ntmps186 fun B hB=>?_
  repeat' (first | refine jR ?_ | (refine jo ?_;refine aH F ?_) | refine aD F F F ?_ | refine ae F (aC F) ?_)
  all_goals refine jY (vs:=[_]) ?_
  all_goals rfl
 ·have cx_ib : aI abt 206 [S s,U8 (bt [c] (Int.toNat 0))] G (· = I (eS c.toNat s)):=by rw [show (bt [c] (Int.toNat 0)) = c.toNat from dk c []];exact rl
  refine jE [(0,_),(1,_)] Tryz.func186 Tryz.ntmps186 fun B hB=>?_
  repeat' (first | refine jX ?_ | (refine jo ?_;first | refine aH F ?_ | refine ad F F F cx_ib F ?_) | refine aD F F F ?_ | refine ae F F ?_ | refine af F (aF ‹_›) ?_)
  all_goals refine jY (vs:=[_]) ?_
  all_goals rfl
theorem sF {s : abu} {c : UInt8} : aI abt 187 [S s,S [c]] G (· = I (eS c.toNat s)):=by
 refine jE [(0,_),(1,_)] Tryz.func187 Tryz.ntmps187 fun B hB=>?_
 repeat' (first | refine jR ?_ | (refine jo ?_;refine ad F F F rk F ?_))
 refine jY (vs:=[_]) ?_
 rfl
theorem nW (k : Nat) (s : abu) : (eS k s = -1 ∧ aB k s = (s,[],false)) ∨ ∃ i : Nat,eS k s = i ∧ i < s.length ∧ aB k s = (s.take i,s.drop (i + 1),true):=by
 cases h : (aB k s).2.2 with
 | false=>exact .inl ⟨by simp [eS,h],eG h⟩
 | true =>
  obtain ⟨c,_,e⟩:=ge (k:=k) (s:=s) (a:=(aB k s).1) (b:=(aB k s).2.1) (by rw [← h])
  have h5 : aB k s = ((aB k s).1,(aB k s).2.1,true):=by rw [← h]
  have h6 : eS k s = ((aB k s).1.length : Int):=by simp [eS,h]
  generalize (aB k s).1 = a at *
  generalize (aB k s).2.1 = b at *
  refine .inr ⟨a.length,h6,?_,?_⟩
  ·have:=congrArg List.length e
   simp at this
   omega
  ·rw [h5,e];simp
theorem zC {s : abu} {c : UInt8} (h : s.length ≤ 9000000000000000000) : aI abt 160 [S s,S [c]] G (· = Tu [S (aB c.toNat s).1,S (aB c.toNat s).2.1,Bo (aB c.toNat s).2.2]):=by
 have hix:=rk (G:=G) (s:=s) (c:=c)
 rcases nW c.toNat s with ⟨h1,h2⟩ | ⟨i,h1,h3,h2⟩
 ·rw [h2]
  have cx_ix : aI abt 186 [S s,S [c]] G (· = I (-1)):=by rwa [h1] at hix
  refine jE [(0,_),(1,_)] Tryz.func160 Tryz.ntmps160 fun B hB=>?_
  repeat' (first | refine jR ?_ | (refine jo ?_;refine ad F F F cx_ix F ?_) | refine af F F ?_)
  all_goals refine jY (vs:=[_,_,_]) ?_
  all_goals rfl
 ·rw [h2]
  have cx_ix : aI abt 186 [S s,S [c]] G (· = I (i : Int)):=by rwa [h1] at hix
  have e2 : ((i : Int) + (([c] : abu).length : Nat)).toNat = i + 1:=by simp only [List.length_cons,List.length_nil];omega
  refine jE [(0,_),(1,_)] Tryz.func160 Tryz.ntmps160 fun B hB=>?_
  repeat' (first | refine jR ?_ | (refine jo ?_;refine ad F F F cx_ix F ?_) | refine ae F F ?_ | (refine ak (ar (id:=3) _ (fun _ h=>h) aj ?_);refine jW 0 [0,1,2,3,4,5,6,7,8,9,10,11] (aa 12 4095) ?_;refine jQ ?_))
  all_goals refine jY (vs:=[_,_,_]) ?_
  all_goals (rfl)
theorem ot {s : abu} {c : UInt8} (h : s.length ≤ 9000000000000000000) : aI abt 120 [S s,S [c]] G (· = Tu [S (aB c.toNat s).1,S (aB c.toNat s).2.1,Bo (aB c.toNat s).2.2]):=by
 refine jE [(0,_),(1,_)] Tryz.func120 Tryz.ntmps120 fun B hB=>?_
 repeat' (first | refine jR ?_ | (refine jo ?_;refine ad F F F (zC oM) F ?_))
 all_goals refine jY (vs:=[_,_,_]) ?_
 all_goals rfl
theorem tR {s : abu} {c : UInt8} : aI abt 161 [S s,S [c]] G (· = Bo (decide (0 ≤ eS c.toNat s))):=by
 refine jE [(0,_),(1,_)] Tryz.func161 Tryz.ntmps161 fun B hB=>?_
 repeat' (first | refine jR ?_ | (refine jo ?_;refine ad F F F sF F ?_))
 all_goals refine jY (vs:=[_]) ?_
 all_goals rfl
def eU (k : Nat) (s : abu) : Prop:=∀ c ∈ s,c.toNat ≠ k
def aV (c : UInt8) : List abu → abu
 | []=>[]
 | [x]=>x
 | x :: y :: r=>x ++ c :: aV c (y :: r)
theorem tu (c : UInt8) (x : abu) {xs : List abu} (h : xs ≠ []) : aV c (x :: xs) = x ++ c :: aV c xs:=by
 cases xs with
 | nil=>exact absurd F h
 | cons y r=>rfl
theorem jm {c : UInt8} : ∀ {s acc : abu},eU c.toNat acc → aV c (dx c.toNat acc s) = acc ++ s ∧ ∀ x ∈ dx c.toNat acc s,eU c.toNat x
 | [],acc,h=>by simp [dx,aV];exact h
 | d :: r,acc,h=>by
  unfold dx
  split
  ·rename_i hd
   have hd : d = c:=UInt8.toNat_inj.1 hd
   subst hd
   have ih:=jm (c:=d) (s:=r) (acc:=[]) (by intro x hx;cases hx)
   have hp : dx d.toNat [] r ≠ []:=fun e=>by have:=nn (k:=d.toNat) (s:=r) (acc:=[]);rw [e] at this;simp at this
   refine ⟨by rw [tu d acc hp,ih.1];rfl,fun x hx=>?_⟩
   rcases List.mem_cons.1 hx with rfl | hx
   ·exact h
   ·exact ih.2 x hx
  ·rename_i hd
   have ih:=jm (c:=c) (s:=r) (acc:=acc ++ [d]) (by
    intro x hx
    rcases List.mem_append.1 hx with hx | hx
    ·exact h x hx
    ·simp only [List.mem_singleton] at hx;subst hx;exact hd)
   exact ⟨by rw [ih.1];simp,ih.2⟩
theorem ni (c : UInt8) (s : abu) : aV c (aY c.toNat s) = s:=by have:=(jm (c:=c) (s:=s) (acc:=[]) (by intro x hx;cases hx)).1;simpa [aY] using this
theorem xC {c : UInt8} {s x : abu} (h : x ∈ aY c.toNat s) : eU c.toNat x:=(jm (c:=c) (s:=s) (acc:=[]) (by intro x hx;cases hx)).2 x h
theorem nk {k : Nat} : ∀ {s acc t : abu},eU k s → dx k acc (s ++ t) = dx k (acc ++ s) t
 | [],acc,t,_=>by simp
 | d :: r,acc,t,h=>by
  rw [List.cons_append,dx,if_neg (h d (by simp)),nk (fun c hc=>h c (by simp [hc]))];simp
theorem n6 {k : Nat} {s : abu} (h : eU k s) : aY k s = [s]:=by
 have:=nk (k:=k) (s:=s) (acc:=[]) (t:=[]) h
 simpa [aY,dx] using this
theorem oS {k : Nat} {s t : abu} {c : UInt8} (h : eU k s) (hc : c.toNat = k) : aY k (s ++ c :: t) = s :: aY k t:=by
 unfold aY
 rw [nk h,dx,if_pos hc];rfl
theorem m8 {c : UInt8} : ∀ {xs : List abu},xs ≠ [] → (∀ x ∈ xs,eU c.toNat x) → aY c.toNat (aV c xs) = xs
 | [],h,_=>absurd rfl h
 | [x],_,h=>n6 (h x (by simp))
 | x :: y :: r,_,h=>by
  rw [aV,oS (h x (by simp)) rfl,m8 (by simp) fun z hz=>h z (by simp at hz ⊢;exact .inr hz)]
theorem vY {k : Nat} {s t : abu} {c : UInt8} (h : eU k s) (hc : c.toNat = k) : aB k (s ++ c :: t) = (s,t,true):=by
 induction s with
 | nil=>rw [List.nil_append,aB,if_pos hc]
 | cons d r ih=>rw [List.cons_append,aB,if_neg (h d (by simp)),ih fun x hx=>h x (by simp [hx])]
theorem qQ {k : Nat} {s : abu} (h : eU k s) : aB k s = (s,[],false):=by
 induction s with
 | nil=>rfl
 | cons d r ih=>rw [aB,if_neg (h d (by simp)),ih fun x hx=>h x (by simp [hx])]
theorem np {k : Nat} : ∀ {s : abu},eU k (aB k s).1
 | []=>by intro c hc;cases hc
 | d :: r=>by
  unfold aB
  split
  ·intro c hc;cases hc
  ·rename_i hd
   intro c hc
   rcases List.mem_cons.1 hc with rfl | hc
   ·exact hd
   ·exact np c hc
theorem kY {k : Nat} (s : abu) : aY k s = if (aB k s).2.2 = true then (aB k s).1 :: aY k (aB k s).2.1 else [s]:=by
 cases h : (aB k s).2.2 with
 | false =>
  rw [if_neg (by simp)]
  have h1:=eG h
  refine n6 ?_
  have:=np (k:=k) (s:=s)
  rwa [h1] at this
 | true =>
  rw [if_pos rfl]
  obtain ⟨c,hc,e⟩:=ge (k:=k) (s:=s) (a:=(aB k s).1) (b:=(aB k s).2.1) (by rw [← h])
  conv=>{ lhs;rw [e] }
  exact oS np hc
theorem kP {s : abu} {k : Nat} (h : bQ s = true) (hk : k < 97) : eU k s:=by
 intro c hc
 simp only [bQ,Bool.and_eq_true,List.all_eq_true] at h
 have:=h.1 c hc
 simp only [jg,decide_eq_true_eq] at this
 omega
theorem qN {n m : Int} : ∀ {s : abu},cN n s = some m → ∀ c ∈ s,48 ≤ c.toNat ∧ c.toNat ≤ 57
 | [],_,c,hc=>by cases hc
 | d :: r,h,c,hc=>by
  unfold cN at h
  split at h
  ·rename_i hd
   rcases List.mem_cons.1 hc with rfl | hc
   ·exact hd
   ·exact qN h c hc
  ·cases h
theorem pe {s : abu} {top n : Int} (h : aR s top = some n) : ∀ c ∈ s,48 ≤ c.toNat ∧ c.toNat ≤ 57:=by
 unfold aR at h
 split at h
 ·split at h
  ·rename_i hd;exact qN hd
  ·cases h
 ·cases h
theorem lH {s : abu} {top n : Int} {k : Nat} (h : aR s top = some n) (hk : 57 < k) : eU k s:=fun c hc=>by
 have:=pe h c hc;omega
theorem uD {s : abu} (h : dn s = true) {c : UInt8} (hc : c ∈ s) : c.toNat = 39 ∨ ia c.toNat:=by
 unfold dn at h
 simp only [decide_eq_true_eq] at h
 obtain ⟨h1,h2,h3,h4⟩:=h
 obtain ⟨i,hi,rfl⟩:=List.mem_iff_getElem.1 hc
 have e : bt s i = (s[i]).toNat:=by simp [bt,List.getD,List.getElem?_eq_getElem hi]
 rw [← e]
 rcases Nat.lt_or_ge i (s.length - 1) with h5 | h5
 ·rcases h4 i h5 with h6 | h6
  ·subst h6;exact .inl h2
  ·exact .inr h6
 ·have : i = s.length - 1:=oM
  subst this;exact .inl h3
theorem mA {d v : abu} {k : Nat} (h : bx d v = true) (hk : k = 58 ∨ k = 61) : eU k v:=by
 intro c hc
 unfold bx at h
 split at h
 ·simp only [Bool.and_eq_true] at h
  obtain ⟨n,hn⟩:=Option.isSome_iff_exists.1 h.1
  have:=pe hn c hc;omega
 ·split at h
  ·simp only [Bool.and_eq_true] at h
   have:=uD h.1 hc
   unfold ia at this;omega
  ·split at h
   ·simp only [decide_eq_true_eq] at h
    subst h
    simp only [List.mem_cons,List.not_mem_nil,or_false] at hc
    rcases hc with rfl | rfl | rfl <;> (rcases hk with rfl | rfl <;> decide)
   ·cases h
theorem k3 : ∀ s : abu,(aG s).length ≤ s.length
 | []=>Nat.le_refl _
 | c :: r=>by
  unfold aG
  split
  ·have:=k3 r;simp;omega
  ·exact Nat.le_refl _
def sg (s : abu) : abu:=s.take (s.length - (aG s).length)
def mR : abu → abu
 | []=>[]
 | c :: r=>if c.toNat = 64 then [64] else c :: r
def bs (s : abu) : abu:=mR (aG s)
def nm (s : abu) : abu:=(bc (aG s)).getD []
theorem r4 {k : Nat} (hk : k = 58 ∨ k = 61) : ∀ {s : abu},eN s = true → eU k s
 | [],h=>by cases h
 | c :: r,h=>by
  unfold eN at h
  split at h
  ·rename_i hc
   intro d hd
   rcases List.mem_cons.1 hd with rfl | hd
   ·omega
   ·exact r4 hk h d hd
  ·split at h
   ·rename_i hc
    simp only [Bool.and_eq_true,decide_eq_true_eq] at h
    intro d hd
    rcases List.mem_cons.1 hd with rfl | hd
    ·omega
    ·obtain ⟨i,hi,rfl⟩:=List.mem_iff_getElem.1 hd
     rcases Nat.lt_or_ge i (r.length - 1) with h5 | h5
     ·refine kP h.2 oM _ ?_
      exact List.mem_iff_getElem.2 ⟨i,by simp;omega,by simp⟩
     ·have h1 : bt (c :: r) r.length = 59:=oM
      have e : i = r.length - 1:=oM
      obtain ⟨m,hm⟩ : ∃ m,r.length = m + 1:=⟨r.length - 1,oM⟩
      rw [hm,d9] at h1
      have : bt r m = (r[m]'oM).toNat:=by simp [bt,List.getD,List.getElem?_eq_getElem (show m < r.length by omega)]
      have e2 : i = m:=oM
      subst e2
      omega
   ·simp only [Bool.and_eq_true,Bool.or_eq_true,decide_eq_true_eq] at h
    intro d hd
    obtain ⟨rfl,h⟩:=h
    simp only [List.mem_singleton] at hd
    subst hd;omega
theorem gq {k : Nat} (hk : k = 58 ∨ k = 61) {s : abu} (h : bn s = true) : eU k s:=by
 unfold bn at h;simp only [Bool.and_eq_true] at h;exact r4 hk h.2
def lN (s : abu) (k : Nat) : Option Fld :=
 match aY 58 (aB 61 s).1 with
 | [a,b]=>if k = 69 ∧ (aB 61 s).2.2 = false then
   match aR a 200 with
   | some n=>if 1 ≤ n ∧ bQ b = true then some ⟨n,b,[],[]⟩ else none
   | none=>none
  else none
 | [a,b,c]=>if k = 69 then none else
   match aR a 200 with
   | some n=>if (1 ≤ n ∧ bQ b = true) ∧ bn c = true ∧ ((aB 61 s).2.2 = true → k = 82 ∧ bx c (aB 61 s).2.1 = true) then some ⟨n,b,c,(aB 61 s).2.1⟩ else none
   | none=>none
 | _=>none
theorem fE {k : Nat} {a b : abu} : eU k (a ++ b) ↔ eU k a ∧ eU k b:=by
 constructor
 ·intro h;exact ⟨fun c hc=>h c (by simp [hc]),fun c hc=>h c (by simp [hc])⟩
 ·intro h c hc
  rcases List.mem_append.1 hc with hc | hc
  ·exact h.1 c hc
  ·exact h.2 c hc
theorem gG {k : Nat} {c : UInt8} {b : abu} : eU k (c :: b) ↔ c.toNat ≠ k ∧ eU k b:=by
 constructor
 ·intro h;exact ⟨h c (by simp),fun d hd=>h d (by simp [hd])⟩
 ·intro h d hd
  rcases List.mem_cons.1 hd with rfl | hd
  ·exact h.1
  ·exact h.2 d hd
theorem tJ {s : abu} {xs : List abu} (h : aY 58 s = xs) : s = aV 58 xs ∧ ∀ x ∈ xs,eU 58 x:=by
 subst h
 exact ⟨(ni 58 s).symm,fun x hx=>xC (c:=58) hx⟩
theorem oO (s : abu) (k : Nat) : lN s k = bI s k:=by
 apply Option.ext
 intro f
 constructor
 ·intro h
  unfold lN at h
  split at h
  ·rename_i a b e
   split at h
   ·rename_i hk
    have hs:=eG hk.2
    rw [hs] at e
    unfold bI
    rw [e]
    simp only [hk.1,if_true]
    exact h
   ·cases h
  ·rename_i a b c e
   split at h
   ·cases h
   ·rename_i hk
    split at h
    ·rename_i n hn
     split at h
     ·rename_i hg
      simp only [Option.some.injEq] at h;subst h
      cases ht : (aB 61 s).2.2 with
      | false =>
       have hs:=eG ht
       rw [hs] at e ⊢
       have hc61 : aY 61 c = [c]:=n6 (gq (.inr rfl) hg.2.1)
       unfold bI
       rw [e]
       simp [hk,hn,hg.1.1,hg.1.2,hc61,hg.2.1]
      | true =>
       have hst:=hg.2.2 ht
       obtain ⟨d,hd,es⟩:=ge (k:=61) (s:=s) (a:=(aB 61 s).1) (b:=(aB 61 s).2.1) (by rw [← ht])
       generalize (aB 61 s).1 = hd1 at *
       generalize (aB 61 s).2.1 = v at *
       have hd : d = 61:=UInt8.toNat_inj.1 hd
       subst hd
       obtain ⟨e1,e2⟩:=tJ e
       have e3 : s = aV 58 [a,b,c ++ 61 :: v]:=by rw [es,e1];simp [aV]
       have e4 : aY 58 s = [a,b,c ++ 61 :: v]:=by
        rw [e3]
        refine m8 (c:=58) (by simp) fun x hx=>?_
        simp only [List.mem_cons,List.not_mem_nil,or_false] at hx
        rcases hx with rfl | rfl | rfl
        ·exact e2 _ (by simp)
        ·exact e2 _ (by simp)
        ·exact fE.2 ⟨e2 _ (by simp),gG.2 ⟨by decide,mA hst.2 (.inl F)⟩⟩
       have e5 : aY 61 (c ++ 61 :: v) = [c,v]:=by
        rw [oS (k:=61) (gq (.inr rfl) hg.2.1) rfl,n6 (mA hst.2 (.inr rfl))]
       unfold bI
       rw [e4]
       simp [hk,hn,hg.1.1,hg.1.2,e5,hst.1,hst.2]
     ·cases h
    ·cases h
  ·cases h
 ·intro h
  unfold bI at h
  split at h
  ·rename_i a b e
   split at h
   ·rename_i hk
    split at h
    ·rename_i n hn
     split at h
     ·rename_i hg
      obtain ⟨e1,e2⟩:=tJ e
      have hno : eU 61 s:=by rw [e1];simp only [aV];exact fE.2 ⟨lH hn oM,gG.2 ⟨by decide,kP hg.2 oM⟩⟩
      unfold lN
      rw [qQ hno,e]
      simp only [hk,hn,hg,and_self,if_true]
      exact h
     ·cases h
    ·cases h
   ·cases h
  ·rename_i a b c e
   split at h
   ·cases h
   ·rename_i hk
    split at h
    ·rename_i n hn
     split at h
     ·rename_i hg
      obtain ⟨e1,e2⟩:=tJ e
      split at h
      ·rename_i d e3
       split at h
       ·rename_i hd
        simp only [Option.some.injEq] at h;subst h
        have e4 : c = d:=by have:=ni 61 c;rw [show (61 : UInt8).toNat = 61 from rfl,e3] at this;exact this.symm
        subst e4
        have hno : eU 61 s:=by rw [e1];simp only [aV];exact fE.2 ⟨lH hn oM,gG.2 ⟨by decide,fE.2 ⟨kP hg.2 oM,gG.2 ⟨by decide,gq (.inr F) hd⟩⟩⟩⟩
        unfold lN
        rw [qQ hno,e]
        simp [hk,hn,hg.1,hg.2,hd]
       ·cases h
      ·rename_i d v e3
       split at h
       ·rename_i hd
        simp only [Option.some.injEq] at h;subst h
        have e4 : c = d ++ 61 :: v:=by have:=ni 61 c;rw [show (61 : UInt8).toNat = 61 from rfl,e3] at this;exact this.symm
        subst e4
        have hkd:=lv hd.2
        have es : s = aV 58 [a,b,d] ++ 61 :: v:=by rw [e1];simp [aV]
        have hno : eU 61 (aV 58 [a,b,d]):=by simp only [aV];exact fE.2 ⟨lH hn oM,gG.2 ⟨by decide,fE.2 ⟨kP hg.2 oM,gG.2 ⟨by decide,gq (.inr F) hkd⟩⟩⟩⟩
        have e5 : aY 58 (aV 58 [a,b,d]) = [a,b,d]:=by
         refine m8 (c:=58) (by simp) fun x hx=>?_
         simp only [List.mem_cons,List.not_mem_nil,or_false] at hx
         rcases hx with rfl | rfl | rfl
         ·exact e2 _ (by simp)
         ·exact e2 _ (by simp)
         ·exact gq (.inl F) hkd
        unfold lN
        rw [es,vY (k:=61) hno rfl,e5]
        simp [hn,hg.1,hg.2,hkd,hd.1,hd.2]
       ·cases h
      ·cases h
     ·cases h
    ·cases h
  ·cases h
def tag0 (t : Ty) : Int:=(t.fields.headD default).tag
def b5 (ts : List Ty) : Nat → abu → abu
 | 0,_=>[]
 | _ + 1,[]=>[]
 | n + 1,c :: r=>if c.toNat = 91 then [91,93] else if c.toNat = 63 then [45] else
   match aL ts (c :: r) with
   | none=>fC (c :: r)
   | some t=>if t.sort = 82 then [123,125] else if t.sort = 69 then 35 :: a8 (tag0 t) else 60 :: (a8 (tag0 t) ++ 61 :: (b5 ts n (eV t) ++ [62]))
def lx (ts : List Ty) (k : abu) : abu:=b5 ts (ts.length + 2) k
def cx (ts : List Ty) (f : Fld) : abu:=if f.stand = [] then lx ts f.kind else f.stand
def bZ (fs : List Fld) (tag : Int) : Option Fld:=fs.find? fun f=>decide (f.tag = tag)
def fw (ts us : List Ty) (kk : abu → abu → List Pr → Bool × List Pr) (t u : Ty) : List Fld → List Pr → Bool × List Pr
 | [],m=>(true,m)
 | g :: gs,m=>match bZ t.fields g.tag with
  | none=>if u.sort = 82 then fw ts us kk t u gs m else (false,m)
  | some f=>if u.sort = 69 then fw ts us kk t u gs m
    else if (kk f.kind g.kind m).1 = false then (false,(kk f.kind g.kind m).2)
    else if u.sort = 82 ∧ cx ts f ≠ cx us g then (false,(kk f.kind g.kind m).2)
    else fw ts us kk t u gs (kk f.kind g.kind m).2
def lQ (ts us : List Ty) (kk : abu → abu → List Pr → Bool × List Pr) (t u : Ty) (m : List Pr) : Bool × List Pr :=
 if t.sort ≠ u.sort then (false,m) else fw ts us kk t u u.fields m
def iL (ts us : List Ty) (kk : abu → abu → List Pr → Bool × List Pr) (t u : Ty) (m : List Pr) : Bool × List Pr :=
 if (t.name,u.name) ∈ m then (true,m) else lQ ts us kk t u (m ++ [(t.name,u.name)])
def dw (ts us : List Ty) : Nat → abu → abu → List Pr → Bool × List Pr
 | 0,_,_,m=>(false,m)
 | n + 1,k1,k2,m=>if sg k1 ≠ sg k2 then (false,m)
  else match aL ts (aG k1),aL us (aG k2) with
   | some t,some u=>iL ts us (dw ts us n) t u m
   | _,_=>(decide (aG k1 = aG k2),m)
structure AskW (ts us : List Ty) (m : List Pr) : Prop where
 nd : m.Nodup
 mem : ∀ p ∈ m,(∃ t ∈ ts,t.name = p.1) ∧ ∃ u ∈ us,u.name = p.2
theorem AskW.nil {ts us : List Ty} : AskW ts us []:=⟨List.nodup_nil,by simp⟩
theorem AskW.snoc {ts us : List Ty} {m : List Pr} {t u : Ty} (h : AskW ts us m) (ht : t ∈ ts) (hu : u ∈ us) (hn : (t.name,u.name) ∉ m) : AskW ts us (m ++ [(t.name,u.name)]) :=
 ⟨List.nodup_append.2 ⟨h.nd,by simp,fun a ha b hb e=>by simp only [List.mem_singleton] at hb;subst hb;subst e;exact hn ha⟩,fun p hp=>by
  rcases List.mem_append.1 hp with hp | hp
  ·exact h.mem p hp
  ·simp only [List.mem_singleton] at hp;subst hp;exact ⟨⟨t,ht,F⟩,u,hu,F⟩⟩
theorem qn {α : Type} [DecidableEq α] : ∀ {l l' : List α},l.Nodup → (∀ x ∈ l,x ∈ l') → l.length ≤ l'.length
 | [],_,_,_=>Nat.zero_le _
 | a :: l,l',hn,hs=>by
  rw [List.nodup_cons] at hn
  have ha:=hs a (.head _)
  have:=qn (l:=l) (l':=l'.erase a) hn.2 fun x hx=>by
   have hx':=hs x (.tail _ hx)
   exact (List.mem_erase_of_ne (fun e=>hn.1 (by rw [← e];exact hx))).2 hx'
  rw [List.length_erase_of_mem ha] at this
  have hp : 0 < l'.length:=List.length_pos_of_mem ha
  simp only [List.length_cons];omega
theorem AskW.len {ts us : List Ty} {m : List Pr} (h : AskW ts us m) : m.length ≤ ts.length * us.length:=by
 have h1 : m.length ≤ (ts.flatMap fun t=>us.map fun u=>(t.name,u.name)).length:=qn h.nd fun p hp=>by
  obtain ⟨⟨t,ht,e1⟩,u,hu,e2⟩:=h.mem p hp
  exact List.mem_flatMap.2 ⟨t,ht,List.mem_map.2 ⟨u,hu,by rw [e1,e2]⟩⟩
 have h2 : ∀ ts : List Ty,(ts.flatMap fun t=>us.map fun u=>(t.name,u.name)).length = ts.length * us.length:=fun ts=>by
  induction ts with
  | nil=>simp
  | cons t ts ih=>rw [List.flatMap_cons,List.length_append,ih,List.length_map,List.length_cons,Nat.succ_mul,Nat.add_comm]
 rw [h2] at h1;exact h1
def oz (ts us : List Ty) (m m' : List Pr) : Prop:=AskW ts us m' ∧ m.length ≤ m'.length
theorem ij {ts us : List Ty} {kk : abu → abu → List Pr → Bool × List Pr} {t u : Ty} (hk : ∀ (f g : Fld) (m : List Pr),AskW ts us m → oz ts us m (kk f.kind g.kind m).2) :
  ∀ (gs : List Fld) (m : List Pr),AskW ts us m → oz ts us m (fw ts us kk t u gs m).2
 | [],m,h=>⟨h,Nat.le_refl _⟩
 | g :: gs,m,h=>by
  unfold fw
  split
  ·split
   ·exact ij hk gs m h
   ·exact ⟨h,Nat.le_refl _⟩
  ·rename_i f _
   have h1:=hk f g m h
   split
   ·exact ij hk gs m h
   ·split
    ·exact h1
    ·split
     ·exact h1
     ·have h2:=ij (t:=t) (u:=u) hk gs _ h1.1
      exact ⟨h2.1,Nat.le_trans h1.2 h2.2⟩
theorem tG {ts us : List Ty} {kk : abu → abu → List Pr → Bool × List Pr} {t u : Ty} (hk : ∀ (f g : Fld) (m : List Pr),AskW ts us m → oz ts us m (kk f.kind g.kind m).2) (ht : t ∈ ts) (hu : u ∈ us) (m : List Pr) (h : AskW ts us m) : oz ts us m (iL ts us kk t u m).2:=by
 unfold iL
 split
 ·exact ⟨h,Nat.le_refl _⟩
 ·rename_i hn
  have h1:=h.snoc ht hu hn
  unfold lQ
  split
  ·exact ⟨h1,by simp⟩
  ·have h2:=ij (t:=t) (u:=u) hk u.fields _ h1
   exact ⟨h2.1,by have:=h2.2;simp at this ⊢;omega⟩
theorem kT {ts us : List Ty} : ∀ (n : Nat) (k1 k2 : abu) (m : List Pr),AskW ts us m → oz ts us m (dw ts us n k1 k2 m).2
 | 0,_,_,m,h=>⟨h,Nat.le_refl _⟩
 | n + 1,k1,k2,m,h=>by
  unfold dw
  split
  ·exact ⟨h,Nat.le_refl _⟩
  ·split
   ·rename_i t u ht hu
    exact tG (fun f g m h=>kT n f.kind g.kind m h) (bM ht) (bM hu) m h
   ·exact ⟨h,Nat.le_refl _⟩
def bY (s k r l : abu) : Bool:=match ax s,ax r with
 | some ts,some us=>(aJ ts k && aJ us l) && (dw ts us (ts.length * us.length + 1) k l []).1
 | _,_=>false
theorem f8 {ts : List Ty} {k : abu} (h : aJ ts k = true) (hr : (bc (aG k)).isSome = true) : ∃ t,aL ts (aG k) = some t:=by
 unfold aJ d7 at h
 unfold aL
 cases hc : bc (aG k) with
 | none=>rw [hc] at hr;cases hr
 | some n =>
  rw [hc] at h
  simp only [Bool.and_eq_true] at h
  obtain ⟨_,h⟩:=h
  exact Option.isSome_iff_exists.1 h
inductive V where
 | nd (what : Nat) (text : abu) (tag : Int) (kids : List V)
instance : Inhabited V:=⟨.nd 0 [] 0 []⟩
def V.what : V → Nat | .nd w _ _ _=>w
def V.text : V → abu | .nd _ x _ _=>x
def V.tag : V → Int | .nd _ _ t _=>t
def d6 (w : Nat) (x : abu) (t : Int) (e : Bool) (j : abu) : abu :=
 if w = 116 then 39 :: (x ++ [39]) else if w = 91 then 91 :: (j ++ [93]) else if w = 63 then (if e = true then [45] else 43 :: j)
 else if w = 61 then a8 t ++ 61 :: j else if w = 82 then 123 :: (j ++ [125]) else if w = 85 then 60 :: (a8 t ++ 61 :: (j ++ [62])) else if w = 69 then 35 :: a8 t else x
mutual
def V.out : V → abu
 | .nd w x t ks=>d6 w x t ks.isEmpty (aV 44 (V.outs ks))
def V.outs : List V → List abu
 | []=>[]
 | v :: r=>V.out v :: V.outs r
end
mutual
def V.deep : V → Nat
 | .nd w _ _ ks=>if w = 61 then V.deeps ks else V.deeps ks + 1
def V.deeps : List V → Nat
 | []=>0
 | v :: r=>max (V.deep v) (V.deeps r)
end
def zX (w : Nat) (e : Bool) : Bool:=(decide (w = 110) || decide (w = 116) || decide (w = 102) || decide (w = 69)) || (decide (w = 63) && e)
mutual
def V.size : V → Nat
 | .nd w _ _ ks=>if zX w ks.isEmpty = true then 1 else V.sizes ks
def V.sizes : List V → Nat
 | []=>0
 | v :: r=>V.size v + V.sizes r
end
theorem V.outs_map : ∀ ks : List V,V.outs ks = ks.map V.out
 | []=>rfl
 | v :: r=>by rw [V.outs,V.outs_map r];rfl
def br (c : UInt8) : Bool:=decide (48 ≤ c.toNat ∧ c.toNat ≤ 57)
def cC (top : Int) (s : abu) : Option (Int × abu):=(aR (s.takeWhile br) top).map fun n=>(n,s.dropWhile br)
def bi (f : abu → Option (V × abu)) : Nat → abu → List V → Option (List V × abu)
 | 0,_,_=>none
 | m + 1,s,acc=>match f s with
  | none=>none
  | some (v,r)=>match r with
   | []=>none
   | c :: r'=>if c.toNat = 44 then bi f m r' (acc ++ [v]) else if c.toNat = 93 then some (acc ++ [v],r') else none
def a5 (f : abu → abu → Option (V × abu)) (t : Ty) (s : abu) : Option ((Fld × V) × abu) :=
 match cC 200 s with
 | none=>none
 | some (n,r)=>match bZ t.fields n with
  | none=>none
  | some d=>match r with
   | []=>none
   | c :: r'=>if c.toNat = 61 then (f d.kind r').map fun x=>((d,x.1),x.2) else none
def bX (ts : List Ty) (f : abu → abu → Option (V × abu)) (t : Ty) : Nat → Int → abu → List V → Option (List V × abu)
 | 0,_,_,_=>none
 | m + 1,last,s,acc=>match a5 f t s with
  | none=>none
  | some ((d,v),r)=>if d.tag ≤ last ∨ v.out = cx ts d then none else match r with
   | []=>none
   | c :: r'=>if c.toNat = 44 then bX ts f t m d.tag r' (acc ++ [.nd 61 [] d.tag [v]]) else if c.toNat = 125 then some (acc ++ [.nd 61 [] d.tag [v]],r') else none
def bL (ts : List Ty) (f : abu → abu → Option (V × abu)) (t : Ty) : abu → Option (V × abu)
 | []=>none
 | c :: s=>if t.sort = 82 then
   (if c.toNat = 123 then (match s with
    | []=>none
    | c' :: r=>if c'.toNat = 125 then some (.nd 82 [] 0 [],r) else (bX ts f t (s.length + 1) 0 s []).map fun x=>(.nd 82 [] 0 x.1,x.2)) else none)
  else if t.sort = 69 then
   (if c.toNat = 35 then (match cC 200 s with
    | none=>none
    | some (n,r)=>if (bZ t.fields n).isSome = true then some (.nd 69 [] n [],r) else none) else none)
  else if c.toNat = 60 then (match a5 f t s with
    | none=>none
    | some ((d,v),r)=>match r with
     | []=>none
     | c' :: r'=>if c'.toNat = 62 then some (.nd 85 [] d.tag [v],r') else none)
   else none
def dI : abu → Option (V × abu)
 | []=>none
 | c :: s=>if c.toNat = 39 then (match aB 39 s with
   | (x,r,true)=>if dn (39 :: (x ++ [39])) = true then some (.nd 116 x 0 [],r) else none
   | _=>none) else none
def fg (s : abu) : Option (V × abu) :=
 if [121,101,115].isPrefixOf s = true then some (.nd 102 [121,101,115] 0 [],s.drop 3) else if [110,111].isPrefixOf s = true then some (.nd 102 [110,111] 0 [],s.drop 2) else none
def eT (ts : List Ty) (f : abu → abu → Option (V × abu)) : abu → abu → Option (V × abu)
 | [],_=>none
 | c :: k,s =>
  if c.toNat = 91 then (match s with
   | []=>none
   | d :: s'=>if d.toNat = 91 then (match s' with
     | []=>none
     | e :: r=>if e.toNat = 93 then some (.nd 91 [] 0 [],r) else (bi (f k) 20 s' []).map fun x=>(.nd 91 [] 0 x.1,x.2)) else none)
  else if c.toNat = 63 then (match s with
   | []=>none
   | d :: s'=>if d.toNat = 45 then some (.nd 63 [] 0 [],s') else if d.toNat = 43 then (f k s').map fun x=>(.nd 63 [] 0 [x.1],x.2) else none)
  else match aL ts (c :: k) with
   | some t=>bL ts f t s
   | none=>if c.toNat = 110 then (cC 999999 s).map fun x=>(.nd 110 (a8 x.1) 0 [],x.2) else if c.toNat = 116 then dI s else if c.toNat = 102 then fg s else none
def rd (ts : List Ty) : Nat → abu → abu → Option (V × abu)
 | 0,_,_=>none
 | n + 1,k,s=>eT ts (rd ts n) k s
def dp (ts : List Ty) (k s : abu) : Option V:=if s.length ≤ 400 then (match rd ts 12 k s with
 | some (v,[])=>some v
 | _=>none) else none
theorem lD {f g : abu → Option (V × abu)} (h : ∀ s x,f s = some x → g s = some x) : ∀ (m : Nat) (s : abu) (acc : List V) {x : List V × abu},bi f m s acc = some x → bi g m s acc = some x
 | 0,_,_,_,e=>by cases e
 | m + 1,s,acc,x,e=>by
  unfold bi at e ⊢
  cases hf : f s with
  | none=>rw [hf] at e;cases e
  | some y =>
   rw [hf] at e
   rw [h s y hf]
   obtain ⟨v,r⟩:=y
   cases r with
   | nil=>exact e
   | cons c r =>
    dsimp only at e ⊢
    split at e
    ·rename_i hc;rw [if_pos hc];exact lD h m r _ e
    ·rename_i hc;rw [if_neg hc];exact e
theorem lE {f g : abu → abu → Option (V × abu)} (h : ∀ k s x,f k s = some x → g k s = some x) (t : Ty) (s : abu) {x : (Fld × V) × abu} (e : a5 f t s = some x) : a5 g t s = some x:=by
 unfold a5 at e ⊢
 cases hn : cC 200 s with
 | none=>rw [hn] at e;cases e
 | some y =>
  rw [hn] at e
  obtain ⟨n,r⟩:=y
  dsimp only at e ⊢
  cases hd : bZ t.fields n with
  | none=>rw [hd] at e;cases e
  | some d =>
   rw [hd] at e
   cases r with
   | nil=>cases e
   | cons c r' =>
    dsimp only at e ⊢
    by_cases hc : c.toNat = 61
    ·rw [if_pos hc] at e ⊢
     cases hf : f d.kind r' with
     | none=>rw [hf] at e;cases e
     | some y=>rw [hf] at e;rw [h _ _ y hf];exact e
    ·rw [if_neg hc] at e;cases e
theorem mF {ts : List Ty} {f g : abu → abu → Option (V × abu)} (h : ∀ k s x,f k s = some x → g k s = some x) (t : Ty) : ∀ (m : Nat) (last : Int) (s : abu) (acc : List V) {x : List V × abu},bX ts f t m last s acc = some x → bX ts g t m last s acc = some x
 | 0,_,_,_,_,e=>by cases e
 | m + 1,last,s,acc,x,e=>by
  unfold bX at e ⊢
  cases hf : a5 f t s with
  | none=>rw [hf] at e;cases e
  | some y =>
   rw [hf] at e
   rw [lE h t s hf]
   obtain ⟨⟨d,v⟩,r⟩:=y
   dsimp only at e ⊢
   split at e
   ·cases e
   ·rename_i hd
    rw [if_neg hd]
    cases r with
    | nil=>exact e
    | cons c r =>
     dsimp only at e ⊢
     split at e
     ·rename_i hc;rw [if_pos hc];exact mF h t m _ r _ e
     ·rename_i hc;rw [if_neg hc];exact e
theorem qc {ts : List Ty} {f g : abu → abu → Option (V × abu)} (h : ∀ k s x,f k s = some x → g k s = some x) (t : Ty) : ∀ (s : abu) {x : V × abu},bL ts f t s = some x → bL ts g t s = some x
 | [],_,e=>by cases e
 | c :: s,x,e=>by
  unfold bL at e ⊢
  dsimp only at e ⊢
  by_cases h82 : t.sort = 82
  ·rw [if_pos h82] at e ⊢
   by_cases hc : c.toNat = 123
   ·rw [if_pos hc] at e ⊢
    cases s with
    | nil=>exact e
    | cons c' r =>
     dsimp only at e ⊢
     by_cases hc' : c'.toNat = 125
     ·rw [if_pos hc'] at e ⊢;exact e
     ·rw [if_neg hc'] at e ⊢
      cases hf : bX ts f t ((c' :: r).length + 1) 0 (c' :: r) [] with
      | none=>rw [hf] at e;cases e
      | some y=>rw [hf] at e;rw [mF h t _ _ _ _ hf];exact e
   ·rw [if_neg hc] at e;cases e
  ·rw [if_neg h82] at e ⊢
   by_cases h69 : t.sort = 69
   ·rw [if_pos h69] at e ⊢;exact e
   ·rw [if_neg h69] at e ⊢
    by_cases hc : c.toNat = 60
    ·rw [if_pos hc] at e ⊢
     cases hf : a5 f t s with
     | none=>rw [hf] at e;cases e
     | some y=>rw [hf] at e;rw [lE h t s hf];exact e
    ·rw [if_neg hc] at e;cases e
theorem vE {ts : List Ty} {f g : abu → abu → Option (V × abu)} (ih : ∀ k s x,f k s = some x → g k s = some x) : ∀ (k s : abu) {x : V × abu},eT ts f k s = some x → eT ts g k s = some x
 | [],_,_,e=>by cases e
 | c :: k,s,x,e=>by
  unfold eT at e ⊢
  dsimp only at e ⊢
  by_cases h91 : c.toNat = 91
  ·rw [if_pos h91] at e ⊢
   cases s with
   | nil=>exact e
   | cons d s' =>
    dsimp only at e ⊢
    by_cases hd : d.toNat = 91
    ·rw [if_pos hd] at e ⊢
     cases s' with
     | nil=>exact e
     | cons e' r =>
      dsimp only at e ⊢
      by_cases he : e'.toNat = 93
      ·rw [if_pos he] at e ⊢;exact e
      ·rw [if_neg he] at e ⊢
       cases hf : bi (f k) 20 (e' :: r) [] with
       | none=>rw [hf] at e;cases e
       | some y=>rw [hf] at e;rw [lD (ih k) _ _ _ hf];exact e
    ·rw [if_neg hd] at e;cases e
  ·rw [if_neg h91] at e ⊢
   by_cases h63 : c.toNat = 63
   ·rw [if_pos h63] at e ⊢
    cases s with
    | nil=>exact e
    | cons d s' =>
     dsimp only at e ⊢
     by_cases hd : d.toNat = 45
     ·rw [if_pos hd] at e ⊢;exact e
     ·rw [if_neg hd] at e ⊢
      by_cases hd2 : d.toNat = 43
      ·rw [if_pos hd2] at e ⊢
       cases hf : f k s' with
       | none=>rw [hf] at e;cases e
       | some y=>rw [hf] at e;rw [ih k s' y hf];exact e
      ·rw [if_neg hd2] at e;cases e
   ·rw [if_neg h63] at e ⊢
    cases hr : aL ts (c :: k) with
    | none=>rw [hr] at e;exact e
    | some t=>rw [hr] at e;exact qc ih t s e
theorem rS {ts : List Ty} : ∀ (n : Nat) (k s : abu) {x : V × abu},rd ts n k s = some x → rd ts (n + 1) k s = some x
 | 0,_,_,_,e=>by cases e
 | n + 1,k,s,_,e=>vE (fun k s _ e=>rS n k s e) k s e
theorem wv {ts : List Ty} {n m : Nat} (h : n ≤ m) {k s : abu} {x : V × abu} (e : rd ts n k s = some x) : rd ts m k s = some x:=by
  induction m with
  | zero => have : n = 0 := oM
            subst this;exact e
  | succ m ih =>
    by_cases hn : n = m + 1
    · subst hn;exact e
    · exact rS m k s (ih oM)
theorem V.deep_mem : ∀ {ks : List V} {v : V},v ∈ ks → V.deep v ≤ V.deeps ks
 | [],_,h=>by cases h
 | u :: ks,v,h=>by
  rw [V.deeps]
  rcases List.mem_cons.1 h with rfl | h
  ·exact Nat.le_max_left _ _
  ·exact Nat.le_trans (V.deep_mem h) (Nat.le_max_right _ _)
theorem V.deeps_le : ∀ {ks : List V} {n : Nat},(∀ v ∈ ks,V.deep v ≤ n) → V.deeps ks ≤ n
 | [],_,_=>by rw [V.deeps];exact Nat.zero_le _
 | u :: ks,n,h=>by
  rw [V.deeps]
  exact Nat.max_le.2 ⟨h u (.head _),V.deeps_le fun v hv=>h v (.tail _ hv)⟩
theorem cj {w : Nat} {x : abu} {t : Int} {ks : List V} (h : ¬ w = 61) : V.deep (.nd w x t ks) = V.deeps ks + 1:=by rw [V.deep,if_neg h]
theorem ng {t : Int} {v : V} : V.deep (.nd 61 [] t [v]) = V.deep v:=by rw [V.deep,if_pos rfl,V.deeps,V.deeps,Nat.max_zero]
theorem jv {f : abu → Option (V × abu)} {p : V → Prop} (h : ∀ s x,f s = some x → p x.1) : ∀ (m : Nat) (s : abu) (acc : List V) {x : List V × abu},bi f m s acc = some x → (∀ v ∈ acc,p v) → ∀ v ∈ x.1,p v
 | 0,_,_,_,e,_=>by cases e
 | m + 1,s,acc,x,e,ha=>by
  unfold bi at e
  cases hf : f s with
  | none=>rw [hf] at e;cases e
  | some y =>
   rw [hf] at e
   have hy:=h s y hf
   obtain ⟨v,r⟩:=y
   have ha' : ∀ u ∈ acc ++ [v],p u:=fun u hu=>by
    rcases List.mem_append.1 hu with hu | hu
    ·exact ha u hu
    ·simp only [List.mem_singleton] at hu;subst hu;exact hy
   cases r with
   | nil=>cases e
   | cons c r =>
    dsimp only at e
    split at e
    ·exact jv h m r _ e ha'
    ·split at e
     ·simp only [Option.some.injEq] at e;subst e;exact ha'
     ·cases e
theorem mD {f g : abu → Option (V × abu)} : ∀ (m : Nat) (s : abu) (acc : List V) {x : List V × abu},bi f m s acc = some x → (∀ s y,f s = some y → y.1 ∈ x.1 → g s = some y) → bi g m s acc = some x ∧ ∀ v ∈ acc,v ∈ x.1
 | 0,_,_,_,e,_=>by cases e
 | m + 1,s,acc,x,e,h=>by
  unfold bi at e ⊢
  cases hf : f s with
  | none=>rw [hf] at e;cases e
  | some y =>
   rw [hf] at e
   have hy:=h s y hf
   obtain ⟨v,r⟩:=y
   cases r with
   | nil=>cases e
   | cons c r =>
    dsimp only at e hy
    split at e
    ·rename_i hc
     obtain ⟨h1,h2⟩:=mD m r _ e h
     rw [hy (h2 v (by simp))]
     dsimp only
     rw [if_pos hc]
     exact ⟨h1,fun u hu=>h2 u (List.mem_append_left _ hu)⟩
    ·rename_i hc
     split at e
     ·rename_i hc2
      simp only [Option.some.injEq] at e;subst e
      rw [hy (by simp)]
      dsimp only
      rw [if_neg hc,if_pos hc2]
      exact ⟨F,fun u hu=>List.mem_append_left _ hu⟩
     ·cases e
theorem gT {f : abu → abu → Option (V × abu)} {t : Ty} {s : abu} {x : (Fld × V) × abu} (e : a5 f t s = some x) : x.1.1 ∈ t.fields ∧ ∃ s',f x.1.1.kind s' = some (x.1.2,x.2):=by
 unfold a5 at e
 cases hn : cC 200 s with
 | none=>rw [hn] at e;cases e
 | some y =>
  rw [hn] at e
  obtain ⟨n,r⟩:=y
  dsimp only at e
  cases hd : bZ t.fields n with
  | none=>rw [hd] at e;cases e
  | some d =>
   rw [hd] at e
   cases r with
   | nil=>cases e
   | cons c r' =>
    dsimp only at e
    by_cases hc : c.toNat = 61
    ·rw [if_pos hc] at e
     cases hf : f d.kind r' with
     | none=>rw [hf] at e;cases e
     | some y =>
      rw [hf] at e
      simp only [Option.map_some,Option.some.injEq] at e
      subst e
      exact ⟨List.mem_of_find?_eq_some hd,r',hf⟩
    ·rw [if_neg hc] at e;cases e
theorem jw {f g : abu → abu → Option (V × abu)} {t : Ty} {s : abu} {x : (Fld × V) × abu} (e : a5 f t s = some x) (h : ∀ k s y,f k s = some y → y.1 = x.1.2 → g k s = some y) : a5 g t s = some x:=by
 unfold a5 at e ⊢
 cases hn : cC 200 s with
 | none=>rw [hn] at e;cases e
 | some y =>
  rw [hn] at e
  obtain ⟨n,r⟩:=y
  dsimp only at e ⊢
  cases hd : bZ t.fields n with
  | none=>rw [hd] at e;cases e
  | some d =>
   rw [hd] at e
   cases r with
   | nil=>cases e
   | cons c r' =>
    dsimp only at e ⊢
    by_cases hc : c.toNat = 61
    ·rw [if_pos hc] at e ⊢
     cases hf : f d.kind r' with
     | none=>rw [hf] at e;cases e
     | some y =>
      rw [hf] at e
      simp only [Option.map_some,Option.some.injEq] at e
      subst e
      rw [h _ _ _ hf rfl];rfl
    ·rw [if_neg hc] at e;cases e
theorem nM {ts : List Ty} {f : abu → abu → Option (V × abu)} {t : Ty} {p : V → Prop} (h : ∀ k s x,f k s = some x → ∀ n,p (.nd 61 [] n [x.1])) : ∀ (m : Nat) (last : Int) (s : abu) (acc : List V) {x : List V × abu},bX ts f t m last s acc = some x → (∀ v ∈ acc,p v) → ∀ v ∈ x.1,p v
 | 0,_,_,_,_,e,_=>by cases e
 | m + 1,last,s,acc,x,e,ha=>by
  unfold bX at e
  cases hf : a5 f t s with
  | none=>rw [hf] at e;cases e
  | some y =>
   rw [hf] at e
   obtain ⟨_,s',hs'⟩:=gT hf
   have hy:=h _ s' _ hs'
   obtain ⟨⟨d,v⟩,r⟩:=y
   dsimp only at e hy
   have ha' : ∀ u ∈ acc ++ [V.nd 61 [] d.tag [v]],p u:=fun u hu=>by
    rcases List.mem_append.1 hu with hu | hu
    ·exact ha u hu
    ·simp only [List.mem_singleton] at hu;subst hu;exact hy d.tag
   split at e
   ·cases e
   ·cases r with
    | nil=>cases e
    | cons c r =>
     dsimp only at e
     split at e
     ·exact nM h m _ r _ e ha'
     ·split at e
      ·simp only [Option.some.injEq] at e;subst e;exact ha'
      ·cases e
theorem nL {ts : List Ty} {f g : abu → abu → Option (V × abu)} {t : Ty} : ∀ (m : Nat) (last : Int) (s : abu) (acc : List V) {x : List V × abu},bX ts f t m last s acc = some x → (∀ k s y,f k s = some y → (∃ n,V.nd 61 [] n [y.1] ∈ x.1) → g k s = some y) → bX ts g t m last s acc = some x ∧ ∀ v ∈ acc,v ∈ x.1
 | 0,_,_,_,_,e,_=>by cases e
 | m + 1,last,s,acc,x,e,h=>by
  unfold bX at e ⊢
  cases hf : a5 f t s with
  | none=>rw [hf] at e;cases e
  | some y =>
   rw [hf] at e
   obtain ⟨⟨d,v⟩,r⟩:=y
   dsimp only at e
   split at e
   ·cases e
   ·rename_i hd
    cases r with
    | nil=>cases e
    | cons c r =>
     dsimp only at e
     split at e
     ·rename_i hc
      obtain ⟨h1,h2⟩:=nL m _ r _ e h
      have hg:=jw (g:=g) hf (fun k s y hy e2=>h k s y hy ⟨d.tag,by rw [e2];exact h2 _ (by simp)⟩)
      rw [hg]
      dsimp only
      rw [if_neg hd,if_pos hc]
      exact ⟨h1,fun u hu=>h2 u (List.mem_append_left _ hu)⟩
     ·rename_i hc
      split at e
      ·rename_i hc2
       simp only [Option.some.injEq] at e;subst e
       have hg:=jw (g:=g) hf (fun k s y hy e2=>h k s y hy ⟨d.tag,by rw [e2];simp⟩)
       rw [hg]
       dsimp only
       rw [if_neg hd,if_neg hc,if_pos hc2]
       exact ⟨F,fun u hu=>List.mem_append_left _ hu⟩
      ·cases e
theorem rT {ts : List Ty} {f g : abu → abu → Option (V × abu)} : ∀ (k s : abu) {x : V × abu},eT ts f k s = some x → ∃ w tx tg ks,x.1 = .nd w tx tg ks ∧ ¬ w = 61 ∧ ((∀ k s y,f k s = some y → V.deep y.1 ≤ V.deeps ks → g k s = some y) → eT ts g k s = some x) ∧ ∀ n,(∀ k s y,f k s = some y → V.deep y.1 ≤ n) → V.deeps ks ≤ n
 | [],_,_,e=>by cases e
 | c :: k,s,x,e=>by
  unfold eT at e ⊢
  dsimp only at e ⊢
  have leaf : ∀ {w : Nat} {tx : abu} {tg : Int} {q : Prop},x.1 = .nd w tx tg [] → ¬ w = 61 → q → ∃ w tx tg ks,x.1 = .nd w tx tg ks ∧ ¬ w = 61 ∧ ((∀ k s y,f k s = some y → V.deep y.1 ≤ V.deeps ks → g k s = some y) → q) ∧ ∀ n,(∀ k s y,f k s = some y → V.deep y.1 ≤ n) → V.deeps ks ≤ n :=
   fun h1 h2 h3=>⟨_,_,_,[],h1,h2,fun _=>h3,fun n _=>by rw [V.deeps];exact Nat.zero_le n⟩
  by_cases h91 : c.toNat = 91
  ·simp only [if_pos h91] at e ⊢
   cases s with
   | nil=>cases e
   | cons d s' =>
    dsimp only at e ⊢
    by_cases hd : d.toNat = 91
    ·simp only [if_pos hd] at e ⊢
     cases s' with
     | nil=>cases e
     | cons e' r =>
      dsimp only at e ⊢
      by_cases he : e'.toNat = 93
      ·simp only [if_pos he] at e ⊢
       have e2:=e
       simp only [Option.some.injEq] at e2;subst e2
       exact leaf F dC F
      ·simp only [if_neg he] at e ⊢
       cases hf : bi (f k) 20 (e' :: r) [] with
       | none=>rw [hf] at e;cases e
       | some y =>
        rw [hf] at e
        simp only [Option.map_some,Option.some.injEq] at e;subst e
        refine ⟨91,[],0,y.1,F,by decide,fun h=>?_,fun n h=>?_⟩
        ·rw [(mD (g:=g k) _ _ _ hf fun s u hu hm=>h k s u hu (V.deep_mem hm)).1];rfl
        ·exact V.deeps_le fun v hv=>jv (p:=fun v=>V.deep v ≤ n) (fun s u hu=>h k s u hu) _ _ _ hf (by simp) v hv
    ·simp only [if_neg hd] at e;cases e
  ·simp only [if_neg h91] at e ⊢
   by_cases h63 : c.toNat = 63
   ·simp only [if_pos h63] at e ⊢
    cases s with
    | nil=>cases e
    | cons d s' =>
     dsimp only at e ⊢
     by_cases hd : d.toNat = 45
     ·simp only [if_pos hd] at e ⊢
      have e2:=e
      simp only [Option.some.injEq] at e2;subst e2
      exact leaf F dC F
     ·simp only [if_neg hd] at e ⊢
      by_cases hd2 : d.toNat = 43
      ·simp only [if_pos hd2] at e ⊢
       cases hf : f k s' with
       | none=>rw [hf] at e;cases e
       | some y =>
        rw [hf] at e
        simp only [Option.map_some,Option.some.injEq] at e;subst e
        refine ⟨63,[],0,[y.1],F,by decide,fun h=>?_,fun n h=>?_⟩
        ·rw [h k s' y hf (V.deep_mem (by simp))];rfl
        ·exact V.deeps_le fun v hv=>by simp only [List.mem_singleton] at hv;subst hv;exact h k s' y hf
      ·simp only [if_neg hd2] at e;cases e
   ·simp only [if_neg h63] at e ⊢
    cases hr : aL ts (c :: k) with
    | none =>
     rw [hr] at e
     dsimp only at e ⊢
     by_cases h1 : c.toNat = 110
     ·simp only [if_pos h1] at e ⊢
      cases hn : cC 999999 s with
      | none=>rw [hn] at e;cases e
      | some y =>
       rw [hn] at e
       have e2:=e
       simp only [Option.map_some,Option.some.injEq] at e2;subst e2
       exact leaf F dC F
     ·simp only [if_neg h1] at e ⊢
      by_cases h2 : c.toNat = 116
      ·simp only [if_pos h2] at e ⊢
       refine leaf (w:=116) (tx:=x.1.text) (tg:=0) ?_ dC e
       unfold dI at e
       split at e
       ·cases e
       ·split at e
        ·split at e
         ·split at e
          ·simp only [Option.some.injEq] at e;subst e;rfl
          ·cases e
         ·cases e
        ·cases e
      ·simp only [if_neg h2] at e ⊢
       by_cases h3 : c.toNat = 102
       ·simp only [if_pos h3] at e ⊢
        refine leaf (w:=102) (tx:=x.1.text) (tg:=0) ?_ dC e
        unfold fg at e
        split at e
        ·simp only [Option.some.injEq] at e;subst e;rfl
        ·split at e
         ·simp only [Option.some.injEq] at e;subst e;rfl
         ·cases e
       ·simp only [if_neg h3] at e;cases e
    | some t =>
     rw [hr] at e
     dsimp only at e ⊢
     unfold bL at e ⊢
     cases s with
     | nil=>cases e
     | cons d s =>
      dsimp only at e ⊢
      by_cases h82 : t.sort = 82
      ·simp only [if_pos h82] at e ⊢
       by_cases hd : d.toNat = 123
       ·simp only [if_pos hd] at e ⊢
        cases s with
        | nil=>cases e
        | cons d' r =>
         dsimp only at e ⊢
         by_cases hd' : d'.toNat = 125
         ·simp only [if_pos hd'] at e ⊢
          have e2:=e
          simp only [Option.some.injEq] at e2;subst e2
          exact leaf F dC F
         ·simp only [if_neg hd'] at e ⊢
          cases hf : bX ts f t ((d' :: r).length + 1) 0 (d' :: r) [] with
          | none=>rw [hf] at e;cases e
          | some y =>
           rw [hf] at e
           simp only [Option.map_some,Option.some.injEq] at e;subst e
           refine ⟨82,[],0,y.1,F,by decide,fun h=>?_,fun n h=>?_⟩
           ·rw [(nL (g:=g) _ _ _ _ hf fun k s u hu hm=>h k s u hu (by obtain ⟨n,hm⟩:=hm;have:=V.deep_mem hm;rwa [ng] at this)).1];rfl
           ·exact V.deeps_le fun v hv=>nM (p:=fun v=>V.deep v ≤ n) (fun k s u hu m=>by rw [ng];exact h k s u hu) _ _ _ _ hf (by simp) v hv
       ·simp only [if_neg hd] at e;cases e
      ·simp only [if_neg h82] at e ⊢
       by_cases h69 : t.sort = 69
       ·simp only [if_pos h69] at e ⊢
        refine leaf (w:=69) (tx:=[]) (tg:=x.1.tag) ?_ dC e
        split at e
        ·split at e
         ·cases e
         ·split at e
          ·simp only [Option.some.injEq] at e;subst e;rfl
          ·cases e
        ·cases e
       ·simp only [if_neg h69] at e ⊢
        by_cases hd : d.toNat = 60
        ·simp only [if_pos hd] at e ⊢
         cases hf : a5 f t s with
         | none=>rw [hf] at e;cases e
         | some y =>
          rw [hf] at e
          obtain ⟨⟨fd,v⟩,r⟩:=y
          cases r with
          | nil=>cases e
          | cons c' r =>
           dsimp only at e
           by_cases hc' : c'.toNat = 62
           ·simp only [if_pos hc',Option.some.injEq] at e;subst e
            refine ⟨85,[],fd.tag,[v],F,by decide,fun h=>?_,fun n h=>?_⟩
            ·rw [jw (g:=g) hf fun k s u hu e2=>h k s u hu (by rw [e2];exact V.deep_mem (by simp))]
             dsimp only
             rw [if_pos hc']
            ·obtain ⟨_,s',hs'⟩:=gT hf
             exact V.deeps_le fun u hu=>by simp only [List.mem_singleton] at hu;subst hu;exact h _ _ _ hs'
           ·simp only [if_neg hc'] at e;cases e
        ·simp only [if_neg hd] at e;cases e
theorem nI {ts : List Ty} : ∀ (n : Nat) (k s : abu) (x : V × abu),rd ts n k s = some x → V.deep x.1 ≤ n
 | 0,_,_,_,e=>by cases e
 | n + 1,k,s,x,e=>by
  obtain ⟨w,tx,tg,ks,h1,h2,_,h4⟩:=rT (g:=rd ts n) k s e
  rw [h1,cj h2]
  have:=h4 n fun k s y hy=>nI n k s y hy
  omega
theorem wx {ts : List Ty} : ∀ (n m : Nat) (k s : abu) (x : V × abu),rd ts n k s = some x → V.deep x.1 ≤ m → rd ts m k s = some x
 | 0,_,_,_,_,e,_=>by cases e
 | n + 1,m,k,s,x,e,hm=>by
  obtain ⟨w,tx,tg,ks,h1,h2,h3,_⟩:=rT (g:=rd ts (m - 1)) k s e
  rw [h1,cj h2] at hm
  obtain ⟨m,rfl⟩ : ∃ j,m = j + 1:=⟨m - 1,oM⟩
  exact h3 fun k s y hy hd=>wx n m k s y hy oM
theorem cB {c : UInt8} {n : Nat} (h : c.toNat = n) (hn : n < 256) : c = UInt8.ofNat n:=by
 apply UInt8.toNat_inj.1;rw [h,UInt8.toNat_ofNat'];omega
theorem ul {top : Int} {s r : abu} {n : Int} (h : cC top s = some (n,r)) : s = a8 n ++ r:=by
 unfold cC at h
 cases hn : aR (s.takeWhile br) top with
 | none=>rw [hn] at h;cases h
 | some q =>
  rw [hn] at h
  simp only [Option.map_some,Option.some.injEq,Prod.mk.injEq] at h
  obtain ⟨rfl,rfl⟩:=h
  rw [← (eh hn).2.1,List.takeWhile_append_dropWhile]
theorem kf {t : Int} {v : V} : V.out (.nd 61 [] t [v]) = a8 t ++ 61 :: v.out:=by
 rw [V.out,V.outs,V.outs];simp [d6,aV]
theorem pC {k : Nat} {c : UInt8} (hc : c.toNat = k) : ∀ {s x r : abu},aB k s = (x,r,true) → s = x ++ c :: r
 | [],_,_,h=>by cases h
 | d :: s,x,r,h=>by
  unfold aB at h
  split at h
  ·rename_i hd
   simp only [Prod.mk.injEq,and_true] at h
   obtain ⟨rfl,rfl⟩:=h
   have : d = c:=UInt8.toNat_inj.1 (by rw [hd,hc])
   rw [this];rfl
  ·simp only [Prod.mk.injEq] at h
   obtain ⟨h1,h2,h3⟩:=h
   have ih:=pC hc (s:=s) (x:=(aB k s).1) (r:=(aB k s).2.1) (by rw [← h3])
   rw [← h1,← h2,List.cons_append,← ih]
theorem oF {p s : abu} (h : p.isPrefixOf s = true) : s = p ++ s.drop p.length:=by
 rw [List.isPrefixOf_iff_prefix] at h
 obtain ⟨t,rfl⟩:=h
 simp
theorem rv {s : abu} {x : V × abu} (e : dI s = some x) : s = x.1.out ++ x.2:=by
 unfold dI at e
 cases s with
 | nil=>cases e
 | cons c s =>
  dsimp only at e
  by_cases hc : c.toNat = 39
  ·rw [if_pos hc] at e
   rcases hq : aB 39 s with ⟨y,r,b⟩
   rw [hq] at e
   cases b with
   | false=>cases e
   | true =>
    dsimp only at e
    split at e
    ·simp only [Option.some.injEq] at e;subst e
     have h1:=pC (c:=39) rfl hq
     rw [h1,cB hc dC]
     simp [V.out,d6]
    ·cases e
  ·rw [if_neg hc] at e;cases e
theorem ta {s : abu} {x : V × abu} (e : fg s = some x) : s = x.1.out ++ x.2:=by
 unfold fg at e
 split at e
 ·rename_i h
  simp only [Option.some.injEq] at e;subst e
  have:=oF h
  simpa [V.out,d6] using this
 ·split at e
  ·rename_i h
   simp only [Option.some.injEq] at e;subst e
   have:=oF h
   simpa [V.out,d6] using this
  ·cases e
theorem vK {ks : List V} {r : abu} : V.out (.nd 91 [] 0 ks) ++ r = 91 :: (aV 44 (ks.map V.out) ++ 93 :: r):=by
 rw [V.out,V.outs_map];simp [d6]
theorem w9 {ks : List V} {r : abu} : V.out (.nd 82 [] 0 ks) ++ r = 123 :: (aV 44 (ks.map V.out) ++ 125 :: r):=by
 rw [V.out,V.outs_map];simp [d6]
theorem xa {v : V} {r : abu} : V.out (.nd 63 [] 0 [v]) ++ r = 43 :: (v.out ++ r):=by
 rw [V.out,V.outs_map];simp [d6,aV]
theorem rW {v : V} {n : Int} {r : abu} : V.out (.nd 85 [] n [v]) ++ r = 60 :: (a8 n ++ 61 :: (v.out ++ 62 :: r)):=by
 rw [V.out,V.outs_map];simp [d6,aV]
inductive RdK (ts : List Ty) (f : abu → abu → Option (V × abu)) : abu → abu → V → abu → Prop
 | lst0 (k r : abu) : RdK ts f (91 :: k) (91 :: 93 :: r) (.nd 91 [] 0 []) r
 | lst (k s r : abu) (vs : List V) : bi (f k) 20 s [] = some (vs,r) → RdK ts f (91 :: k) (91 :: s) (.nd 91 [] 0 vs) r
 | non (k r : abu) : RdK ts f (63 :: k) (45 :: r) (.nd 63 [] 0 []) r
 | opt (k s r : abu) (v : V) : f k s = some (v,r) → RdK ts f (63 :: k) (43 :: s) (.nd 63 [] 0 [v]) r
 | num (k s r : abu) (n : Int) : aL ts (110 :: k) = none → cC 999999 s = some (n,r) → RdK ts f (110 :: k) s (.nd 110 (a8 n) 0 []) r
 | txt (k s r : abu) (v : V) : aL ts (116 :: k) = none → dI s = some (v,r) → RdK ts f (116 :: k) s v r
 | flg (k s r : abu) (v : V) : aL ts (102 :: k) = none → fg s = some (v,r) → RdK ts f (102 :: k) s v r
 | recd0 (k r : abu) (t : Ty) : aL ts k = some t → t.sort = 82 → RdK ts f k (123 :: 125 :: r) (.nd 82 [] 0 []) r
 | recd (k s r : abu) (t : Ty) (vs : List V) : aL ts k = some t → t.sort = 82 → bX ts f t (s.length + 1) 0 s [] = some (vs,r) → RdK ts f k (123 :: s) (.nd 82 [] 0 vs) r
 | enm (k s r : abu) (t : Ty) (n : Int) : aL ts k = some t → t.sort = 69 → cC 200 s = some (n,r) → (bZ t.fields n).isSome = true → RdK ts f k (35 :: s) (.nd 69 [] n []) r
 | uni (k s r : abu) (t : Ty) (d : Fld) (v : V) : aL ts k = some t → t.sort ≠ 82 → t.sort ≠ 69 → a5 f t s = some ((d,v),62 :: r) → RdK ts f k (60 :: s) (.nd 85 [] d.tag [v]) r
theorem rU {ts : List Ty} {f : abu → abu → Option (V × abu)} : ∀ (k s : abu) {x : V × abu},eT ts f k s = some x → RdK ts f k s x.1 x.2
 | [],_,_,e=>by cases e
 | c :: k,s,x,e=>by
  unfold eT at e
  dsimp only at e
  by_cases h91 : c.toNat = 91
  ·simp only [if_pos h91] at e
   obtain rfl:=cB h91 dC
   cases s with
   | nil=>cases e
   | cons d s' =>
    dsimp only at e
    by_cases hd : d.toNat = 91
    ·simp only [if_pos hd] at e
     obtain rfl:=cB hd dC
     cases s' with
     | nil=>cases e
     | cons e' r =>
      dsimp only at e
      by_cases he : e'.toNat = 93
      ·simp only [if_pos he,Option.some.injEq] at e;subst e
       obtain rfl:=cB he dC
       exact .lst0 _ _
      ·simp only [if_neg he] at e
       cases hf : bi (f k) 20 (e' :: r) [] with
       | none=>rw [hf] at e;cases e
       | some y =>
        rw [hf] at e
        simp only [Option.map_some,Option.some.injEq] at e;subst e
        exact .lst _ _ _ _ hf
    ·simp only [if_neg hd] at e;cases e
  ·simp only [if_neg h91] at e
   by_cases h63 : c.toNat = 63
   ·simp only [if_pos h63] at e
    obtain rfl:=cB h63 dC
    cases s with
    | nil=>cases e
    | cons d s' =>
     dsimp only at e
     by_cases hd : d.toNat = 45
     ·simp only [if_pos hd,Option.some.injEq] at e;subst e
      obtain rfl:=cB hd dC
      exact .non _ _
     ·simp only [if_neg hd] at e
      by_cases hd2 : d.toNat = 43
      ·simp only [if_pos hd2] at e
       obtain rfl:=cB hd2 dC
       cases hf : f k s' with
       | none=>rw [hf] at e;cases e
       | some y =>
        rw [hf] at e
        simp only [Option.map_some,Option.some.injEq] at e;subst e
        exact .opt _ _ _ _ hf
      ·simp only [if_neg hd2] at e;cases e
   ·simp only [if_neg h63] at e
    cases hr : aL ts (c :: k) with
    | none =>
     rw [hr] at e
     dsimp only at e
     by_cases h1 : c.toNat = 110
     ·simp only [if_pos h1] at e
      obtain rfl:=cB h1 dC
      cases hn : cC 999999 s with
      | none=>rw [hn] at e;cases e
      | some y =>
       rw [hn] at e
       simp only [Option.map_some,Option.some.injEq] at e;subst e
       exact .num _ _ _ _ hr hn
     ·simp only [if_neg h1] at e
      by_cases h2 : c.toNat = 116
      ·simp only [if_pos h2] at e
       obtain rfl:=cB h2 dC
       exact .txt _ _ _ _ hr e
      ·simp only [if_neg h2] at e
       by_cases h3 : c.toNat = 102
       ·simp only [if_pos h3] at e
        obtain rfl:=cB h3 dC
        exact .flg _ _ _ _ hr e
       ·simp only [if_neg h3] at e;cases e
    | some t =>
     rw [hr] at e
     dsimp only at e
     unfold bL at e
     cases s with
     | nil=>cases e
     | cons d s =>
      dsimp only at e
      by_cases h82 : t.sort = 82
      ·simp only [if_pos h82] at e
       by_cases hd : d.toNat = 123
       ·simp only [if_pos hd] at e
        obtain rfl:=cB hd dC
        cases s with
        | nil=>cases e
        | cons d' r =>
         dsimp only at e
         by_cases hd' : d'.toNat = 125
         ·simp only [if_pos hd',Option.some.injEq] at e;subst e
          obtain rfl:=cB hd' dC
          exact .recd0 _ _ t hr h82
         ·simp only [if_neg hd'] at e
          cases hf : bX ts f t ((d' :: r).length + 1) 0 (d' :: r) [] with
          | none=>rw [hf] at e;cases e
          | some y =>
           rw [hf] at e
           simp only [Option.map_some,Option.some.injEq] at e;subst e
           exact .recd _ _ _ t _ hr h82 hf
       ·simp only [if_neg hd] at e;cases e
      ·simp only [if_neg h82] at e
       by_cases h69 : t.sort = 69
       ·simp only [if_pos h69] at e
        by_cases hd : d.toNat = 35
        ·simp only [if_pos hd] at e
         obtain rfl:=cB hd dC
         cases hn : cC 200 s with
         | none=>rw [hn] at e;cases e
         | some y =>
          rw [hn] at e
          obtain ⟨n,r⟩:=y
          dsimp only at e
          split at e
          ·rename_i hs
           simp only [Option.some.injEq] at e;subst e
           exact .enm _ _ _ t _ hr h69 hn hs
          ·cases e
        ·simp only [if_neg hd] at e;cases e
       ·simp only [if_neg h69] at e
        by_cases hd : d.toNat = 60
        ·simp only [if_pos hd] at e
         obtain rfl:=cB hd dC
         cases hf : a5 f t s with
         | none=>rw [hf] at e;cases e
         | some y =>
          rw [hf] at e
          obtain ⟨⟨fd,v⟩,r⟩:=y
          cases r with
          | nil=>cases e
          | cons c' r =>
           dsimp only at e
           by_cases hc' : c'.toNat = 62
           ·simp only [if_pos hc',Option.some.injEq] at e;subst e
            obtain rfl:=cB hc' dC
            exact .uni _ _ _ t _ _ hr h82 h69 hf
           ·simp only [if_neg hc'] at e;cases e
        ·simp only [if_neg hd] at e;cases e
mutual
def V.tot : V → Nat
 | .nd _ x _ ks=>20 + x.length + V.tots ks
def V.tots : List V → Nat
 | []=>0
 | v :: r=>V.tot v + V.tots r
end
theorem fS : ∀ (a b : List V),V.tots (a ++ b) = V.tots a + V.tots b
 | [],b=>by simp [V.tots]
 | v :: a,b=>by simp only [List.cons_append,V.tots,fS a b];omega
theorem im (v : V) : 20 ≤ v.tot:=by obtain ⟨w,x,t,ks⟩:=v;rw [V.tot];omega
theorem pX : ∀ {ks : List V} {v : V},v ∈ ks → V.tot v ≤ V.tots ks
 | u :: ks,v,h=>by
  rw [V.tots]
  rcases List.mem_cons.1 h with rfl | h
  ·omega
  ·have:=pX h;omega
theorem e7 : ∀ (ks : List V),20 * ks.length ≤ V.tots ks
 | []=>by simp [V.tots]
 | u :: ks=>by rw [V.tots,List.length_cons];have:=e7 ks;have:=im u;omega
theorem kV (n : Int) : 1 ≤ (a8 n).length:=by
 by_cases h : n < 10
 ·by_cases h0 : 0 ≤ n
  ·rw [dh h h0];simp
  ·have : n.toNat = (0 : Int).toNat:=oM
   have e : a8 n = a8 0:=by unfold a8;rw [this]
   rw [e,dh dC dC];simp
 ·rw [iw h];simp
theorem lB {top : Int} {s r : abu} {n : Int} (h : cC top s = some (n,r)) : (a8 n).length + r.length = s.length ∧ 1 ≤ (a8 n).length:=by
 have:=ul h
 exact ⟨by rw [this];simp,kV n⟩
theorem mC {f : abu → Option (V × abu)} (h : ∀ s y,f s = some y → y.1.tot + 100 * y.2.length ≤ 100 * s.length) : ∀ (m : Nat) (s : abu) (acc : List V) {x : List V × abu},bi f m s acc = some x → V.tots x.1 + 100 * (x.2.length + 1) ≤ V.tots acc + 100 * s.length
 | 0,_,_,_,e=>by cases e
 | m + 1,s,acc,x,e=>by
  unfold bi at e
  cases hf : f s with
  | none=>rw [hf] at e;cases e
  | some y =>
   rw [hf] at e
   have hy:=h s y hf
   obtain ⟨v,r⟩:=y
   cases r with
   | nil=>cases e
   | cons c r =>
    dsimp only at e hy
    have e2 : V.tots (acc ++ [v]) = V.tots acc + v.tot:=by simp [fS,V.tots]
    rw [List.length_cons] at hy
    split at e
    ·have:=mC h m r _ e
     omega
    ·split at e
     ·simp only [Option.some.injEq] at e;subst e
      dsimp only;omega
     ·cases e
theorem mG {f : abu → abu → Option (V × abu)} (h : ∀ k s y,f k s = some y → y.1.tot + 100 * y.2.length ≤ 100 * s.length) {t : Ty} {s : abu} {x : (Fld × V) × abu} (e : a5 f t s = some x) : x.1.2.tot + 100 * x.2.length + 200 ≤ 100 * s.length:=by
 unfold a5 at e
 cases hn : cC 200 s with
 | none=>rw [hn] at e;cases e
 | some y =>
  rw [hn] at e
  obtain ⟨n,r⟩:=y
  obtain ⟨h1,h2⟩:=lB hn
  dsimp only at e
  cases hd : bZ t.fields n with
  | none=>rw [hd] at e;cases e
  | some d =>
   rw [hd] at e
   cases r with
   | nil=>cases e
   | cons c r' =>
    dsimp only at e
    rw [List.length_cons] at h1
    by_cases hc : c.toNat = 61
    ·rw [if_pos hc] at e
     cases hf : f d.kind r' with
     | none=>rw [hf] at e;cases e
     | some y =>
      rw [hf] at e
      simp only [Option.map_some,Option.some.injEq] at e
      subst e
      have h3:=h _ _ _ hf
      dsimp only
      omega
    ·rw [if_neg hc] at e;cases e
theorem nK {ts : List Ty} {f : abu → abu → Option (V × abu)} (h : ∀ k s y,f k s = some y → y.1.tot + 100 * y.2.length ≤ 100 * s.length) {t : Ty} : ∀ (m : Nat) (last : Int) (s : abu) (acc : List V) {x : List V × abu},bX ts f t m last s acc = some x → V.tots x.1 + 100 * (x.2.length + 1) ≤ V.tots acc + 100 * s.length
 | 0,_,_,_,_,e=>by cases e
 | m + 1,last,s,acc,x,e=>by
  unfold bX at e
  cases hf : a5 f t s with
  | none=>rw [hf] at e;cases e
  | some y =>
   rw [hf] at e
   have hy:=mG h hf
   obtain ⟨⟨d,v⟩,r⟩:=y
   dsimp only at e hy
   split at e
   ·cases e
   ·cases r with
    | nil=>cases e
    | cons c r =>
     dsimp only at e
     have e2 : V.tots (acc ++ [V.nd 61 [] d.tag [v]]) = V.tots acc + (20 + v.tot):=by simp [fS,V.tots,V.tot]
     rw [List.length_cons] at hy
     split at e
     ·have:=nK h m _ r _ e
      omega
     ·split at e
      ·simp only [Option.some.injEq] at e;subst e
       dsimp only;omega
      ·cases e
theorem j9 {ts : List Ty} : ∀ (n : Nat) (k s : abu) (x : V × abu),rd ts n k s = some x → x.1.tot + 100 * x.2.length ≤ 100 * s.length
 | 0,_,_,_,e=>by cases e
 | n + 1,k,s,x,e=>by
  have ih : ∀ k s y,rd ts n k s = some y → y.1.tot + 100 * y.2.length ≤ 100 * s.length:=fun k s y hy=>j9 n k s y hy
  have h:=rU k s (x:=x) e
  obtain ⟨v,r⟩:=x
  dsimp only at h ⊢
  cases h with
  | lst0=>simp only [V.tot,V.tots,List.length_cons,List.length_nil];omega
  | lst k s r vs h =>
   have:=mC (ih k) _ _ _ h
   simp only [V.tot,V.tots,List.length_cons,List.length_nil] at this ⊢;omega
  | non=>simp only [V.tot,V.tots,List.length_cons,List.length_nil];omega
  | opt k s r v h =>
   have:=ih _ _ _ h
   simp only [V.tot,V.tots,List.length_cons,List.length_nil] at this ⊢;omega
  | num k s r n _ h =>
   have:=lB h
   simp only [V.tot,V.tots];omega
  | txt k s r v _ h =>
   have e1:=rv h
   have h2 : v.out.length = 2 + v.text.length ∧ v.tot = 20 + v.text.length:=by
    unfold dI at h
    split at h
    ·cases h
    ·split at h
     ·split at h
      ·split at h
       ·simp only [Option.some.injEq,Prod.mk.injEq] at h
        obtain ⟨rfl,_⟩:=h
        simp [V.out,d6,V.text,V.tot,V.tots];omega
       ·cases h
      ·cases h
     ·cases h
   rw [e1]
   simp only [List.length_append]
   omega
  | flg k s r v _ h =>
   have e1:=ta h
   have h2 : 2 ≤ v.out.length ∧ v.tot ≤ 23:=by
    unfold fg at h
    split at h
    ·simp only [Option.some.injEq,Prod.mk.injEq] at h
     obtain ⟨rfl,_⟩:=h
     simp [V.out,d6,V.tot,V.tots]
    ·split at h
     ·simp only [Option.some.injEq,Prod.mk.injEq] at h
      obtain ⟨rfl,_⟩:=h
      simp [V.out,d6,V.tot,V.tots]
     ·cases h
   rw [e1]
   simp only [List.length_append]
   omega
  | recd0=>simp only [V.tot,V.tots,List.length_cons,List.length_nil];omega
  | recd k s r t vs _ _ h =>
   have:=nK ih _ _ _ _ h
   simp only [V.tot,V.tots,List.length_cons,List.length_nil] at this ⊢;omega
  | enm k s r t n _ _ h _ =>
   have:=lB h
   simp only [V.tot,V.tots,List.length_cons,List.length_nil];omega
  | uni k s r t d v _ _ _ h =>
   have:=mG ih h
   simp only [V.tot,V.tots,List.length_cons,List.length_nil] at this ⊢;omega
abbrev dZ : TypeId:=178
abbrev gn : TypeId:=5
theorem zt {n : Nat} {D : List Deferred} {E : bd} {B : Base} {L : List Own} {K : Act → World → Prop} {Q : Exit → Act → World → Prop} {ty : TypeId} {pos : String} {aft : Array Edge} {gd : Option (Nat × Bool)} {d : Nat} {fo x : Operand} {aQ : Array TypeId} {m : Nat}
  (hf : ev E fo = some (.func (.func 193) #[] #[])) (hx : ev E x = some (I (m : Nat))) (hlt : Nat.blt d n = true) (hm : 0 < m ∧ m ≤ 1000000000)
  (k : ∀ b cap,m ≤ cap + 1 → Nx n D ((d,.slice (some ⟨b,0,none⟩) m (cap + 1)) :: E) B G (.acc (.slice (some ⟨b,0,none⟩) 0 (cap + 1)) gn 1 0 [] :: L) K) : Nx n D E B G L (ow abt ⟨some d,.call ⟨.value fo,[x].toArray,aQ⟩,ty,pos,aft,gd⟩ Q K) :=
 aaC (ps:=#[3]) hf hx hlt Tryz.func193 kR kR kR kR (TI.und (T:=22)) hm k
theorem wR {b : Nat} {v : Value} : b6 abt 172 [Pt b 0] G [.blk b (.cells (List.toArray [.pointer none,v]) dZ (0,0))] (fun r L'=>L' = [.blk b (.cells (List.toArray [Pt b 0,v]) dZ (0,0))]):=by
 have hx : ∀ w,(callFunc 192 [Pt b 0].toArray).run abt w = .ok (.value (Pt b 0)) w:=fun w=>by
  rw [run_callFunc_extern Tryz.func192 kR kR kR (e:=Extern.AbiNoEscape.same) kR]
  rw [Lib.run_noEscape];rfl
 refine jH [(0,_)] Tryz.func172 Tryz.ntmps172 fun B hB hW=>?_
 repeat' (first | refine jR ?_ | (refine jo ?_;first | refine ah F ?_ | refine jV (bD F F) ?_ | refine jV (z7 kR F F F) ?_) | refine ae F F ?_)
 refine tq F (jt (m9 F F F hx) F F ?_)
 repeat' (first | refine jR ?_ | (refine jo ?_;first | refine jV (xn kR F kR) ?_ | refine jD F F F ?_))
 exact m7 (vs:=[]) F trivial F a6 ⟨F,F⟩
theorem aaE {b : Nat} {v : Value} : b6 abt 172 [Pt b 0] G [.blk b (.cells (List.toArray [Pt b 0,v]) dZ (0,0))] (fun r L'=>L' = [.blk b (.cells (List.toArray [Pt b 0,v]) dZ (0,0))]):=by
 refine jH [(0,_)] Tryz.func172 Tryz.ntmps172 fun B hB hW=>?_
 repeat' (first | refine jR ?_ | (refine jo ?_;first | refine ah F ?_ | refine jV (bD F F) ?_ | refine jV (yO F F) ?_) | refine af F F ?_)
 exact m7 (vs:=[]) F trivial F a6 ⟨F,F⟩
theorem xL {b m : Nat} (hm : 0 < m ∧ m ≤ 1000000000) : b6 abt 173 [Pt b 0,I (m : Nat)] G [.blk b (.cells (List.toArray [Pt b 0,aA]) dZ (0,0))] (fun r L'=>∃ b2 c2,L' = [.acc (.slice (some ⟨b2,0,none⟩) 0 (c2 + 1)) gn 1 0 [],.blk b (.cells (List.toArray [Pt b 0,.slice (some ⟨b2,0,none⟩) 0 (c2 + 1)]) dZ (0,0))]):=by
 refine jH [(0,_),(1,_)] Tryz.func173 Tryz.ntmps173 fun B hB hW=>?_
 repeat' (first | refine jR ?_ | (refine jo ?_;first | refine ah F ?_ | refine jV (xr F F) ?_ | refine jD F F F ?_) | (refine ak (ar (id:=0) _ (fun _ h=>h) aj ?_);refine jT 9 [0,1,2,6,9,10,11] (aa 16 3655) ?_;(refine jG (aa 16 3663) 3 F (an F F F) ?_);(refine jG (aa 16 3679) 4 F (wL F) ?_);refine jW 5 [5,7] (aa 16 3839) ?_;(refine jG (aa 16 7935) 12 F (an F F F) ?_);(refine jG (aa 16 16127) 13 F (aq F) ?_);refine jA 8 F ?_;(refine zt F F F oM (fun _ _ _=>?_));refine jS (aa 16 16383) ?_;(refine jG (aa 16 32767) 14 F (qE F F oM) ?_);refine jT 0 [15] (aa 16 65535) ?_;refine jQ ?_))
 exact m7 (vs:=[]) F trivial F (List.Sublist.refl _) ⟨F,_,_,F⟩
theorem xR {b m : Nat} (hm : 0 < m ∧ m ≤ 1000000000) : b6 abt 132 [Pt b 0,I (m : Nat)] G [.blk b (.cells (List.toArray [.pointer none,aA]) dZ (0,0))] (fun r L'=>∃ b2 c2,L' = [.acc (.slice (some ⟨b2,0,none⟩) 0 (c2 + 1)) gn 1 0 [],.blk b (.cells (List.toArray [Pt b 0,.slice (some ⟨b2,0,none⟩) 0 (c2 + 1)]) dZ (0,0))]):=by
 refine jH [(0,_),(1,_)] Tryz.func132 Tryz.ntmps132 fun B hB hW=>?_
 repeat' (first | refine jR ?_ | (refine jo ?_;first | (refine ai F F F wR F ?_;rintro _ _ rfl;dsimp only [zA,fA]) | (refine ai F F F (xL oM) F ?_;rintro _ _ ⟨b2,c2,hb2,rfl⟩;dsimp only [zA,fA])) | refine ae F (aC oM) ?_ | refine af F F ?_ | (refine ak (ar (id:=3) _ (fun _ h=>h) aj ?_);refine jT 6 [0,1,2,5,6,7,11] (aa 13 2279) ?_;(refine jG (aa 13 2287) 3 F (an F F F) ?_);(refine jG (aa 13 2303) 4 F (wL F) ?_);(refine jG (aa 13 2559) 8 F (an F F F) ?_);(refine jG (aa 13 3071) 9 F (aq F) ?_);refine jW 0 [10,12] (aa 13 8191) ?_;refine jQ ?_))
 exact m7 (vs:=[]) F trivial F (List.Sublist.refl _) ⟨F,_,_,F⟩
theorem oc {b b1 c1 m : Nat} {xs : List Value} {l : abu} (hm : m + l.length ≤ 1000000000) : b6 abt 133 [Pt b 0,S l] G [.blk b (.cells (List.toArray [Pt b 0,.slice (some ⟨b1,0,none⟩) m (c1 + 1)]) dZ (0,0)),.acc (.slice (some ⟨b1,0,none⟩) m (c1 + 1)) gn 1 m xs]
  (fun r L'=>∃ b2 c2,r = Tu [I l.length,.nilIface] ∧ L' = [.acc (.slice (some ⟨b2,0,none⟩) (m + l.length) (c2 + 1)) gn 1 (m + l.length) (xs ++ bB l),.blk b (.cells (List.toArray [Pt b 0,.slice (some ⟨b2,0,none⟩) (m + l.length) (c2 + 1)]) dZ (0,0))]):=by
 refine jH [(0,_),(1,_)] Tryz.func133 Tryz.ntmps133 fun B hB hW=>?_
 repeat' (first | refine jR ?_ | (refine jo ?_;first | refine ah F ?_ | refine aaI F F F oM fun _ _=>?_ | refine jD F F F ?_ | (refine ai F F F aaE F ?_;rintro _ _ rfl;dsimp only [zA,fA])))
 exact aN (vs:=[_,_]) F ⟨F,F,trivial⟩ F (List.Sublist.refl _) ⟨F,_,_,F,F⟩
theorem rh {b b1 c1 m : Nat} {l : abu} (hm : m ≤ 1000000000) : b6 abt 134 [Pt b 0] G [.blk b (.cells (List.toArray [Pt b 0,.slice (some ⟨b1,0,none⟩) m (c1 + 1)]) dZ (0,0)),.acc (.slice (some ⟨b1,0,none⟩) m (c1 + 1)) gn 1 m (bB l)]
  (fun r L'=>r = S l ∧ L' = []):=by
 refine jH [(0,_)] Tryz.func134 Tryz.ntmps134 fun B hB hW=>?_
 repeat' (refine jR ?_)
 (refine ak (ar (id:=1) [.blk b (.cells (List.toArray [Pt b 0,.slice (some ⟨b1,0,none⟩) m (c1 + 1)]) dZ (0,0))] (by intro y hy;simp only [List.mem_cons,List.not_mem_nil,or_false] at hy ⊢;simp [hy]) aj ?_);refine jW 6 [0,1,2,5,6,7] (aa 12 231) ?_;(refine jG (aa 12 239) 3 F (an F F F) ?_);(refine jG (aa 12 255) 4 F (yL F F) ?_);(refine jG (aa 12 511) 8 F (an F F F) ?_);(refine jG (aa 12 1023) 9 F (aq F) ?_);refine jA 10 F ?_;(refine zp kR F F F oM ?_);refine jS (aa 12 2047) ?_;refine jT 0 [11] (aa 12 4095) ?_;refine jQ ?_)
 repeat' (refine jR ?_)
 refine jZ (vs:=[_]) F ⟨F,trivial⟩ F ⟨F,F,?_⟩
 rfl
def cD (xs : List abu) : Nat:=(xs.map List.length).sum
theorem nS (xs : List abu) (x : abu) : cD (xs ++ [x]) = cD xs + x.length:=by simp [cD]
theorem dT : ∀ (xs : List abu) (i : Nat),cD (xs.take i) ≤ cD xs
 | [],i=>by simp [cD]
 | x :: xs,0=>by simp [cD]
 | x :: xs,i + 1=>by
  have:=dT xs i
  simp only [cD,List.take_succ_cons,List.map_cons,List.sum_cons] at this ⊢;omega
theorem nT (c : UInt8) (y : abu) : ∀ (xs : List abu),xs ≠ [] → aV c (xs ++ [y]) = aV c xs ++ c :: y
 | [],h=>absurd rfl h
 | [x],_=>by simp [aV]
 | x :: z :: r,_=>by
  have:=nT c y (z :: r) (by simp)
  simp only [List.cons_append,aV] at this ⊢
  rw [this];simp
theorem jf (c : UInt8) : ∀ (xs : List abu),(aV c xs).length ≤ cD xs + xs.length
 | []=>by simp [aV]
 | [x]=>by simp [aV,cD]
 | x :: z :: r=>by
  have:=jf c (z :: r)
  simp only [aV,cD,List.map_cons,List.sum_cons,List.length_append,List.length_cons] at this ⊢;omega
theorem Nx.cast {n : Nat} {D : List Deferred} {E : bd} {B : Base} {L L' : List Own} {K : Act → World → Prop} (e : L = L') (h : Nx n D E B G L' K) : Nx n D E B G L K:=by subst e;exact h
theorem bh.cap {G : Gh} {p : Option Addr} {c sz m : Nat} {xs : List Value} (h : bh G (.slice p m c) sz m xs) : m ≤ c:=by
 obtain ⟨_,⟨h1,h2⟩ | ⟨b,o,cap,e,h1,_⟩⟩:=h
 ·omega
 ·simp only [Value.slice.injEq,true_and] at e;omega
theorem bN.tailS {G : Gh} {b o : Nat} {xs : List abu} (h : bN G b o (ao cr xs)) : bN G b (o + 1) (ao cr (xs.drop 1)):=by
 cases xs with
 | nil=>obtain ⟨cs,h1,_⟩:=h;exact ⟨cs,h1,fun i v hv=>by simp [ao] at hv⟩
 | cons x r =>
  obtain ⟨cs,h1,h2⟩:=h
  refine ⟨cs,h1,fun i v hv=>?_⟩
  have:=h2 (i + 1) v (by simpa [ao,cr] using hv)
  rw [show o + 1 + i = o + (i + 1) by omega];exact this
theorem pf (xs : List abu) (i : Nat) : ac (xs.drop 1) i = ac xs (i + 1):=by
 cases xs with
 | nil=>simp [ac]
 | cons x r=>simp [ac,List.getD]
theorem lJ {xs : List abu} {i : Nat} (h : i < xs.length) : cD (xs.take (i + 1)) = cD (xs.take i) + (ac xs i).length:=by
 rw [fU h,nS]
theorem zB {v : Value} {xs : List abu} {c : UInt8} (hs : bh G v 1 xs.length (ao cr xs)) (hl : cD xs + xs.length ≤ 100000000) : aI abt 94 [v,S [c]] G (· = S (aV c xs)):=by
 by_cases h0 : xs = []
 ·subst h0
  refine jE [(0,_),(1,_)] Tryz.func94 Tryz.ntmps94 fun B hB=>?_
  repeat' (first | refine jR ?_ | (refine jo ?_;refine jV (dc F aS) ?_) | refine ae F F ?_)
  refine jY (vs:=[_]) ?_
  rfl
 have hpos:=List.length_pos_iff.2 h0
 obtain ⟨bv,ov,cv,rfl,hsv⟩:=hs.expl oM
 by_cases h1 : xs.length = 1
 ·obtain ⟨x,rfl⟩:=List.length_eq_one_iff.1 h1
  refine jE [(0,_),(1,_)] Tryz.func94 Tryz.ntmps94 fun B hB=>?_
  repeat' (first | refine jR ?_ | (refine jo ?_;first | refine jV (aq F) ?_ | refine jV (al F F oM) ?_ | refine jV (ay F F aS F F) ?_) | refine ae F F ?_ | refine af F F ?_)
  refine jY (vs:=[_]) ?_
  rfl
 have hcap:=hs.cap
 have hq : ¬ (9223372036854775807 / ((xs.length : Int) - 1) ≤ ((([c] : abu).length : Nat) : Int)):=by
  have : (2 : Int) ≤ 9223372036854775807 / ((xs.length : Int) - 1):=Int.le_ediv_of_mul_le oM oM
  have e : ((([c] : abu).length : Nat) : Int) = 1:=rfl
  omega
 have e1 : ((([c] : abu).length : Nat) : Int) * ((xs.length : Int) - 1) = (xs.length : Int) - 1:=by
  have e : ((([c] : abu).length : Nat) : Int) = 1:=rfl
  rw [e];omega
 have p1 : ((([c] : abu).length : Nat) : Int) * ((xs.length : Int) - 1) ≤ 9223372036854775807:=by rw [e1];omega
 have p2 : -9223372036854775808 ≤ ((([c] : abu).length : Nat) : Int) * ((xs.length : Int) - 1):=by rw [e1];omega
 have p3 : 0 + ((([c] : abu).length : Nat) : Int) * ((xs.length : Int) - 1) ≤ 9223372036854775807:=by rw [e1];omega
 have p4 : -9223372036854775808 ≤ 0 + ((([c] : abu).length : Nat) : Int) * ((xs.length : Int) - 1):=by rw [e1];omega
 refine jE [(0,_),(1,_)] Tryz.func94 Tryz.ntmps94 fun B hB=>?_
 repeat' (first | refine jM ?_ | (refine jo ?_;refine jV (aq F) ?_) | refine ae F F ?_ | (refine af F (by refine decide_eq_false ?_;first | assumption | omega) ?_))
 refine Nx.re (d:=5) (v':=I ((xs.length : Int) - 1 + (cD (xs.take 0) : Nat))) F (congrArg (Value.int .i64) (by rw [e1];simp [cD])) ?_
 refine aU (ι:=Nat) (fun i=>i ≤ xs.length) (fun i=>[(0,.slice (some ⟨bv,ov,none⟩) xs.length cv),(1,S [c]),(39,.slice (some ⟨bv,ov,none⟩) xs.length cv),(40,I xs.length),(41,I i),(5,I ((xs.length : Int) - 1 + (cD (xs.take i) : Nat)))]) (fun _=>G) (fun i=>[]) (fun i=>xs.length - i) 0 ?_ tU F a6 (fun i Hi=>?_)
 ·exact Nat.zero_le _
 have hb1:=dT xs i
 by_cases hi : i < xs.length
 ·have hb2:=lJ hi
  have hb3:=dT xs (i + 1)
  repeat' (first | refine jM ?_ | (refine jo ?_;first | refine jV (al F F oM) ?_ | (refine jV (gt F F aS ?_) ?_;focus omega)) | refine ae F (aC oM) ?_ | refine af F (aF oM) ?_)
  refine Nx.re (d:=5) (v':=I ((xs.length : Int) - 1 + (cD (xs.take (i + 1)) : Nat))) F (congrArg (Value.int .i64) (by rw [hb2];omega)) ?_
  exact aT (i + 1) oM oM tU F a6
 have hin : i = xs.length:=oM
 subst hin
 rw [List.take_length] at *
 refine Nx.re (d:=5) (v':=I ((xs.length - 1 + cD xs : Nat) : Int)) F (congrArg (Value.int .i64) oM) ?_
 have hb0 : (ac xs 0).length ≤ cD xs:=by have:=lJ (i:=0) hpos;have:=dT xs (0 + 1);omega
 have hw0 : 0 + (ac xs 0).length ≤ 1000000000:=oM
 have hsv1:=hsv.tailS
 have hdl : (xs.drop 1).length = xs.length - 1:=by rw [List.length_drop]
 have eJ0 : aV c (xs.take (0 + 1)) = ac xs 0:=by rw [fU hpos];rfl
 repeat' (first | refine jR ?_ | (refine jo ?_;first | refine jV (aq F) ?_ | refine jV (al F F oM) ?_ | (refine jV (gt F F aS ?_) ?_;focus omega) | refine jL fun _=>?_ | refine jV (z9 F F oM) ?_ | (refine ai F F F (xR oM) F ?_;rintro _ _ ⟨b2,c2,rfl⟩;dsimp only [zA,fA]) | (refine fI F F F (oc (by (repeat (assumption));done)) rfl ?_;rintro _ _ ⟨b3,c3,rfl,rfl⟩;dsimp only [zA,fA])) | refine af F (aF oM) ?_)
 rename_i x _
 refine Nx.cast (L':=[.acc (.slice (some ⟨b3,0,none⟩) (aV c (xs.take (0 + 1))).length (c3 + 1)) gn 1 (aV c (xs.take (0 + 1))).length (bB (aV c (xs.take (0 + 1)))),.blk x (.cells (List.toArray [Pt x 0,.slice (some ⟨b3,0,none⟩) (aV c (xs.take (0 + 1))).length (c3 + 1)]) dZ (0,0))]) (by rw [eJ0];simp only [Nat.zero_add]) ?_
 refine aU (ι:=Nat × Nat × Nat) (fun q=>q.1 ≤ xs.length - 1) (fun q=>[(1,S [c]),(63,.slice (some ⟨bv,ov + 1,none⟩) (xs.length - 1) (cv - 1)),(64,I (xs.length - 1 : Nat)),(65,I q.1),(8,Pt x 0)]) (fun _=>G) (fun q=>[.acc (.slice (some ⟨q.2.1,0,none⟩) (aV c (xs.take (q.1 + 1))).length (q.2.2 + 1)) gn 1 (aV c (xs.take (q.1 + 1))).length (bB (aV c (xs.take (q.1 + 1)))),.blk x (.cells (List.toArray [Pt x 0,.slice (some ⟨q.2.1,0,none⟩) (aV c (xs.take (q.1 + 1))).length (q.2.2 + 1)]) dZ (0,0))]) (fun q=>xs.length - q.1) (0,b3,c3) ?_ tU F a6 (fun q Hq=>?_)
 ·exact Nat.zero_le _
 obtain ⟨i,b4,c4⟩:=q
 dsimp only at Hq ⊢
 have hj1:=jf c (xs.take (i + 1))
 have hj2:=dT xs (i + 1)
 have hj3 : (xs.take (i + 1)).length ≤ xs.length:=by rw [List.length_take];omega
 by_cases hi2 : i < xs.length - 1
 ·have hwA : (aV c (xs.take (i + 1))).length + ([c] : abu).length ≤ 1000000000:=by rw [List.length_singleton];omega
  have hy1:=lJ (xs:=xs) (i:=i + 1) oM
  have hy2:=dT xs (i + 1 + 1)
  have hwB : (aV c (xs.take (i + 1))).length + ([c] : abu).length + (ac (xs.drop 1) i).length ≤ 1000000000:=by rw [pf,List.length_singleton];omega
  have ej : aV c (xs.take (i + 1 + 1)) = aV c (xs.take (i + 1)) ++ c :: ac (xs.drop 1) i:=by
   rw [fU oM,nT c _ _ (by rw [ne_eq,List.take_eq_nil_iff];simp [h0]),pf]
  repeat' (first | refine jM ?_ | (refine jo ?_;first | refine jV (al F F oM) ?_ | (refine jV (gt F F aS ?_) ?_;focus omega) | (refine fI F F F (oc (by (repeat (assumption));done)) rfl ?_;rintro _ _ ⟨b3,c3,rfl,rfl⟩;dsimp only [zA,fA])) | refine ae F (aC oM) ?_)
  refine Nx.cast (L':=[.acc (.slice (some ⟨b3,0,none⟩) (aV c (xs.take (i + 1 + 1))).length (c3 + 1)) gn 1 (aV c (xs.take (i + 1 + 1))).length (bB (aV c (xs.take (i + 1 + 1)))),.blk x (.cells (List.toArray [Pt x 0,.slice (some ⟨b3,0,none⟩) (aV c (xs.take (i + 1 + 1))).length (c3 + 1)]) dZ (0,0))]) (by
   have e2 : (aV c (xs.take (i + 1 + 1))).length = (aV c (xs.take (i + 1))).length + ([c] : abu).length + (ac (xs.drop 1) i).length:=by rw [ej];simp;omega
   have e3 : bB (aV c (xs.take (i + 1 + 1))) = bB (aV c (xs.take (i + 1))) ++ bB [c] ++ bB (ac (xs.drop 1) i):=by rw [ej];simp [bB]
   rw [e2,e3]) ?_
  exact aT (i + 1,b3,c3) (by dsimp only;omega) (by dsimp only;omega) tU rfl a6
 ·have ei : xs.take (i + 1) = xs:=List.take_of_length_le oM
  rw [ei] at hj1 ⊢
  repeat' (first | refine jR ?_ | (refine jo ?_;(refine fI F F F (rh oM) F ?_;rintro _ _ ⟨rfl,rfl⟩;dsimp only [zA,fA])) | refine af F (aF oM) ?_)
  refine jY (vs:=[_]) ?_
  rfl
structure VC where
 what : Nat
 text : abu
 tag : Int
 a : Option Addr
 n : Nat
 c : Nat
instance : Inhabited VC:=⟨⟨0,[],0,none,0,0⟩⟩
abbrev VC.sl (v : VC) : Value:=.slice v.a v.n v.c
def bE (v : VC) : List Value:=[U8 (v.what : Nat),S v.text,I v.tag,v.sl]
instance : RowF bE 4:=⟨fun _=>rfl⟩
mutual
def V.rep (G : Gh) : V → VC → Prop
 | .nd w x t ks,c=>(c.what = w ∧ w ≤ 255) ∧ c.text = x ∧ (c.tag = t ∧ 0 ≤ t ∧ t ≤ 999999) ∧ (c.n = ks.length ∧ (w = 61 → ks.length = 1)) ∧ ∃ cs,bh G c.sl 4 cs.length (ao bE cs) ∧ V.reps G ks cs
def V.reps (G : Gh) : List V → List VC → Prop
 | [],cs=>cs = []
 | v :: r,cs=>∃ c cs',cs = c :: cs' ∧ V.rep G v c ∧ V.reps G r cs'
end
theorem gE {G : Gh} : ∀ {ks : List V} {cs : List VC},V.reps G ks cs → cs.length = ks.length
 | [],cs,h=>by rw [V.reps] at h;subst h;rfl
 | v :: r,cs,h=>by
  rw [V.reps] at h
  obtain ⟨c,cs',rfl,_,h2⟩:=h
  rw [List.length_cons,List.length_cons,gE h2]
theorem iE {G : Gh} : ∀ {ks : List V} {cs : List VC},V.reps G ks cs → ∀ i,i < ks.length → V.rep G (ac ks i) (ac cs i)
 | [],_,_,i,hi=>by simp at hi
 | v :: r,cs,h,i,hi=>by
  rw [V.reps] at h
  obtain ⟨c,cs',rfl,h1,h2⟩:=h
  cases i with
  | zero=>exact h1
  | succ i=>exact iE h2 i (by simpa using hi)
theorem g0 {G : Gh} {v : V} {c : VC} (h2 : V.rep G v c) : ∀ {ks : List V} {cs : List VC},V.reps G ks cs → V.reps G (ks ++ [v]) (cs ++ [c])
 | [],cs,h=>by
  rw [V.reps] at h;subst h
  exact ⟨c,[],F,h2,F⟩
 | u :: r,cs,h=>by
  rw [V.reps] at h
  obtain ⟨d,cs',rfl,h1,h3⟩:=h
  exact ⟨d,cs' ++ [c],F,h1,g0 h2 h3⟩
mutual
theorem eI {G G' : Gh} (hl : Gh.le G G') : ∀ {v : V} {c : VC},V.rep G v c → V.rep G' v c
 | .nd w x t ks,c,h=>by
  rw [V.rep] at h ⊢
  obtain ⟨h1,h2,h3,h4,cs,h5,h6⟩:=h
  exact ⟨h1,h2,h3,h4,cs,h5.mono hl,bV hl h6⟩
theorem bV {G G' : Gh} (hl : Gh.le G G') : ∀ {ks : List V} {cs : List VC},V.reps G ks cs → V.reps G' ks cs
 | [],cs,h=>h
 | v :: r,cs,h=>by
  rw [V.reps] at h ⊢
  obtain ⟨c,cs',e,h1,h2⟩:=h
  exact ⟨c,cs',e,eI hl h1,bV hl h2⟩
end
theorem ip {G : Gh} {w : Nat} {x : abu} {t : Int} {ks : List V} {c : VC} (h : V.rep G (.nd w x t ks) c) : ∃ (a : Option Addr) (k : Nat) (cs : List VC),c = ⟨w,x,t,a,ks.length,k⟩ ∧ w ≤ 255 ∧ (0 ≤ t ∧ t ≤ 999999) ∧ (w = 61 → ks.length = 1) ∧ cs.length = ks.length ∧ bh G (.slice a ks.length k) 4 cs.length (ao bE cs) ∧ V.reps G ks cs:=by
 rw [V.rep] at h
 obtain ⟨⟨h1,h1'⟩,h2,⟨h3,h3'⟩,⟨h4,h4'⟩,cs,h5,h6⟩:=h
 obtain ⟨w',x',t',a,n,k⟩:=c
 dsimp only at h1 h2 h3 h4 h5
 subst h1;subst h2;subst h3;subst h4
 exact ⟨a,k,cs,F,h1',h3',h4',gE h6,h5,h6⟩
theorem cH {G : Gh} {w : Nat} {x : abu} {t : Int} {ks : List V} {a : Option Addr} {k m : Nat} {cs : List VC} (hw : w ≤ 255) (ht : 0 ≤ t ∧ t ≤ 999999) (h61 : w = 61 → ks.length = 1) (hm : m = ks.length) (hs : bh G (.slice a m k) 4 cs.length (ao bE cs)) (hk : V.reps G ks cs) : V.rep G (.nd w x t ks) ⟨w,x,t,a,m,k⟩:=by
 rw [V.rep];exact ⟨⟨F,hw⟩,F,⟨F,ht⟩,⟨hm,h61⟩,cs,hs,hk⟩
theorem wZ {G : Gh} : bh G aA 4 ([] : List VC).length (ao bE []):=⟨rfl,.inl ⟨rfl,rfl⟩⟩
theorem be {G : Gh} {w : Nat} {x : abu} {t : Int} (hw : w ≤ 255 ∧ w ≠ 61) (ht : 0 ≤ t ∧ t ≤ 999999) : V.rep G (.nd w x t []) ⟨w,x,t,none,0,0⟩:=cH hw.1 ht (fun h=>absurd h hw.2) rfl wZ rfl
theorem qk : ∀ {ks : List V} {i : Nat},i < ks.length → ac (V.outs ks) i = (ac ks i).out
 | [],i,h=>by simp at h
 | v :: r,0,_=>rfl
 | v :: r,i + 1,h=>by
  have:=qk (ks:=r) (i:=i) (by simpa using h)
  simpa [V.outs,ac] using this
theorem qj (ks : List V) : (V.outs ks).length = ks.length:=by rw [V.outs_map];simp
theorem mg {ks : List V} {i : Nat} (h : i < ks.length) : V.tot (ac ks i) ≤ V.tots ks:=by
 rw [ck h];exact pX (List.getElem_mem h)
theorem kW {t : Int} (h : t ≤ 999999) : (a8 t).length ≤ 19:=gL oM
theorem vM {w : Nat} {x : abu} {t : Int} {e : Bool} {j : abu} (ht : t ≤ 999999) : (d6 w x t e j).length ≤ 25 + x.length + j.length:=by
 have hd:=kW ht
 unfold d6
 split
 ·simp;omega
 split
 ·simp;omega
 split
 ·split
  ·simp;omega
  ·simp;omega
 split
 ·simp;omega
 split
 ·simp;omega
 split
 ·simp;omega
 split
 ·simp;omega
 ·omega
mutual
theorem oG {G : Gh} : ∀ {v : V} {c : VC},V.rep G v c → v.out.length + 1 ≤ 2 * v.tot
 | .nd w x t ks,c,h=>by
  rw [V.rep] at h
  obtain ⟨_,_,⟨_,h3⟩,_,cs,_,h6⟩:=h
  have h1:=m0 h6
  have h2:=jf 44 (V.outs ks)
  rw [qj] at h2
  have h4:=vM (w:=w) (x:=x) (e:=ks.isEmpty) (j:=aV 44 (V.outs ks)) h3.2
  have h5:=e7 ks
  rw [V.out,V.tot]
  omega
theorem m0 {G : Gh} : ∀ {ks : List V} {cs : List VC},V.reps G ks cs → cD (V.outs ks) + ks.length ≤ 2 * V.tots ks
 | [],cs,h=>by simp [V.outs,cD]
 | v :: r,cs,h=>by
  rw [V.reps] at h
  obtain ⟨c,cs',_,h1,h2⟩:=h
  have h3:=oG h1
  have h4:=m0 h2
  simp only [V.outs,cD,List.map_cons,List.sum_cons,V.tots,List.length_cons] at *
  omega
end
end Go.E
