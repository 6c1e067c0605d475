/- Contracts and plain laws that the statement rests on, part 2. Conditions: as each says. -/
import Derived.Test.YtlkjjgmfhafnaabGreatDoorU1
set_option linter.unusedVariables false
set_option linter.unusedSimpArgs false
namespace Go.E
section
variable {P : Program} {n : Nat} {D : List Deferred} {E : a8} {M : World → Prop} {d : Option Nat} {ty : TypeId} {pos : String} {aft : Array Edge} {gd : Option (Nat × Bool)}
theorem tJ {x : Operand} {T el : TypeId} {size bytes : Nat} {zero : Value} {p : Option Addr} {len cap : Nat} [TI P T (.slice el) size bytes zero] (hx : ev E x = some (.slice p len cap)) : Gives P n D E M ⟨d,.call ⟨.builtin .cap,[x].toArray,[T].toArray⟩,ty,pos,aft,gd⟩ (I cap):=Gives.mk fun a w hs _=>by
 simp [execOp,resolve,hs.ev hx,invoke,builtin,Builtin.cap_,bG (T:=T) (desc:=.slice el) (size:=size) (bytes:=bytes) (zero:=zero),goInt]
theorem wG {T el : TypeId} {x lo : Operand} {desc' : TypeDesc} {size bytes size' bytes' : Nat} {zero zero' : Value} {k : IntKind} {m : Int} {b o len cap : Nat} [TI P T (.slice el) size bytes zero] [TI P el desc' size' bytes' zero']
  (hx : ev E x = some (.slice (some ⟨b,o,none⟩) len cap)) (hl : ev E lo = some (.int k m)) (h0 : 0 ≤ m ∧ m ≤ len ∧ m < cap) :
  Gives P n D E M ⟨d,.slice T x (some lo) none none,ty,pos,aft,gd⟩ (.slice (some ⟨b,o + m.toNat * size',none⟩) (len - m.toNat) (cap - m.toNat)):=by
 obtain ⟨o',h1,h2⟩:=sI (P:=P) (n:=n) (D:=D) (M:=M) (d:=d) (ty:=ty) (pos:=pos) (aft:=aft) (gd:=gd) (T:=T) (el:=el) (desc':=desc') (size':=size') (bytes':=bytes') (zero':=zero') (size:=size) (bytes:=bytes) (zero:=zero) hx hl ⟨h0.1,h0.2.1⟩
 rw [← h1 h0.2.2];exact h2
theorem ng {S : World → Prop} {G0 : Gh} {L0 : List Own} [k : Kn S G0 L0] {b : Nat} {cs : List Value} {T0 : TypeId} {fr : Nat × Nat} (hm : Own.blk b (.cells cs.toArray T0 fr) ∈ L0) {w : World} (hw : S w) : w.shape? b = some (T0,cs.length):=by
 obtain ⟨B,G,L,_,hL,hst⟩:=k.kn w hw
 have h : w.heap[b]? = some (.cells cs.toArray T0 fr):=hst.own _ (hL _ hm)
 simp [World.shape?,h]
theorem wE {T T' t T0 : TypeId} {x : Operand} {b s1 b1 js jb : Nat} {z1 jz : Value} {jd : TypeDesc} {G0 : Gh} {L0 : List Own} {cs : List Value} {fr : Nat × Nat} [t1 : TI P T (.pointer t) s1 b1 z1] [t2 : TI P t jd js jb jz] [Kn M G0 L0] [h : BlkI L0 b cs T0 fr]
  (hd : P.underlying T' = some .unsafePointer) (hx : ev E x = some (Pt b 0)) (hj : Nat.beq js 0 = false) (hc : cs.isEmpty = false) : Gives P n D E M ⟨d,.convert T T' x,ty,pos,aft,gd⟩ (Pt b 0):=Gives.mk fun a w hs hw=>by
 obtain ⟨j,hj1,hj2,_,_⟩:=t2.inf
 have hl : 0 < cs.length:=by cases cs with | nil=>cases hc | cons=>simp
 have:=Lib.run_to_unsafe (P:=P) w (src:=T) (dst:=T') (t:=t) (j:=j) ⟨b,0,none⟩ t1.und hd hj1 (by rw [hj2];intro e;subst e;simp at hj) (ng (S:=M) h.mem hw) hl
 simp only [execOp,hs.ev hx,Sem.run_bind,this,Result.andThen_ok,Sem.run_pure]
theorem uk {T T' t T0 : TypeId} {x : Operand} {b s1 b1 js jb : Nat} {z1 jz : Value} {jd : TypeDesc} {G0 : Gh} {L0 : List Own} {cs : List Value} {fr : Nat × Nat} [t1 : TI P T' (.pointer t) s1 b1 z1] [t2 : TI P t jd js jb jz] [Kn M G0 L0] [h : BlkI L0 b cs T0 fr]
  (hd : P.underlying T = some .unsafePointer) (hx : ev E x = some (Pt b 0)) (hl : liesAt P P.depth T0 (cs.length / P.cellsOf T0) 0 t 1 = true) : Gives P n D E M ⟨d,.convert T T' x,ty,pos,aft,gd⟩ (Pt b 0):=Gives.mk fun a w hs hw=>by
 obtain ⟨j,hj1,_,_,_⟩:=t2.inf
 have:=Lib.run_from_unsafe (P:=P) w (src:=T) (dst:=T') (u:=t) (j:=j) ⟨b,0,none⟩ hd t1.und hj1 (ng (S:=M) h.mem hw) hl
 simp only [execOp,hs.ev hx,Sem.run_bind,this,Result.andThen_ok,Sem.run_pure]
theorem vy {T T' el : TypeId} {x y : Operand} {size bytes js jb : Nat} {zero jz : Value} {jd : TypeDesc} {p : Addr} [t1 : TI P T (.pointer el) size bytes zero] [t2 : TI P el jd js jb jz] (hx : ev E x = some (.pointer (some p))) (hy : ev E y = some (.pointer (some p))) : Gives P n D E M ⟨d,.binOp .neq T x y T',ty,pos,aft,gd⟩ (Bo false):=cB hx hy rfl fun w=>by
 obtain ⟨j,hj1,_,_,_⟩:=t2.inf
 exact Lib.run_neq_ptr_same w p t1.und hj1
theorem un {T T' el : TypeId} {x y : Operand} {s1 b1 js jb : Nat} {z1 jz : Value} {jd : TypeDesc} {b o m c : Nat} [t1 : TI P T (.slice el) s1 b1 z1] [t2 : TI P el jd js jb jz] (hx : ev E x = some (.slice (some ⟨b,o,none⟩) m c)) (hy : ev E y = some ax) :
  Gives P n D E M ⟨d,.call ⟨.builtin .copy,[x,y].toArray,[T,T'].toArray⟩,ty,pos,aft,gd⟩ (I (0 : Nat)):=Gives.mk fun a w hs _=>by
 obtain ⟨j,hj1,_,_,_⟩:=t2.inf
 have h1:=run_copy_nil (P:=P) w T T' ty el ⟨b,o,none⟩ m c t1.und (by rw [hj1];rfl)
 have e1 : ([x,y].toArray.map a.eval) = #[.slice (some ⟨b,o,none⟩) m c,ax]:=by simp [hs.ev hx,hs.ev hy]
 simp only [execOp,resolve,e1,Sem.run_bind,Sem.run_pure,Result.andThen_ok,invoke,builtin,h1]
 rfl
theorem vw {T : TypeId} {x : Operand} {b o m c : Nat} (hx : ev E x = some (.slice (some ⟨b,o,none⟩) m c)) (hc : Nat.beq c 0 = false) : Gives P n D E M ⟨d,.call ⟨.builtin .unsafeSliceData,[x].toArray,[T].toArray⟩,ty,pos,aft,gd⟩ (Pt b o):=Gives.mk fun a w hs _=>by
 have h1:=Lib.run_unsafeSliceData_row (P:=P) w #[T] ty ⟨b,o,none⟩ m c (by rintro rfl;simp at hc)
 have e1 : ([x].toArray.map a.eval) = #[.slice (some ⟨b,o,none⟩) m c]:=by simp [hs.ev hx]
 simp only [execOp,resolve,e1,Sem.run_bind,Sem.run_pure,Result.andThen_ok,invoke,builtin,h1]
end
section
variable {P : Program} {n : Nat} {D : List Deferred} {E : a8} {B : Base} {G : Gh} {L : List Own} {K : Act → World → Prop} {Q : Exit → Act → World → Prop} {ty : TypeId} {pos : String} {aft : Array Edge} {gd : Option (Nat × Bool)} {d : Nat}
theorem St.freeze {w : World} {b m cap : Nat} {T : TypeId} {xs : List Value} (h : St B G (.acc (.slice (some ⟨b,0,none⟩) m cap) T 1 m xs :: L) w) (k : Nat) : St B G L (w.freeze ⟨b,0,none⟩ k):=by
 obtain ⟨h1,⟨h2,_⟩ | ⟨b',cap',rest,e,hc,hl,hb⟩⟩ : gm w _ T 1 m xs:=h.own _ List.mem_cons_self
 ·cases h2
 simp only [Value.slice.injEq,Option.some.injEq,Addr.mk.injEq,and_true,true_and] at e
 obtain ⟨rfl,rfl⟩:=e
 unfold World.freeze
 by_cases hk : k = 0
 ·rw [if_pos hk];exact h.weaken (List.sublist_cons_self _ _)
 ·rw [if_neg hk]
  have h2:=h.upd (y:=.blk b (.cells (xs ++ rest).toArray T (0,k))) (w':={ w with heap:=w.heap.modify b fun | .cells c elem (lo,hi)=>.cells c elem (if lo == hi then (0,0 + k) else (min lo 0,max hi (0 + k))) | o=>o }) (b:=b) rfl rfl (by
   show (w.heap.modify b _)[b]? = _
   rw [Array.getElem?_modify,if_pos rfl,hb]
   simp) (fun c hc=>by
    show (w.heap.modify b _)[c]? = _
    rw [Array.getElem?_modify,if_neg (fun e=>hc e.symm)]) rfl rfl rfl (by simp)
  exact h2.weaken (List.sublist_cons_self _ _)
class AccD (L : List Own) (b : Nat) (m cap : outParam Nat) (T : outParam TypeId) (sz : outParam Nat) (xs : outParam (List Value)) (L' : outParam (List Own)) : Prop where
 del : Del (.acc (.slice (some ⟨b,0,none⟩) m cap) T sz m xs) L L'
instance {b m cap : Nat} {T : TypeId} {sz : Nat} {xs : List Value} {r : List Own} : AccD (.acc (.slice (some ⟨b,0,none⟩) m cap) T sz m xs :: r) b m cap T sz xs r:=⟨.here⟩
instance {b m cap : Nat} {T : TypeId} {sz : Nat} {xs : List Value} {z : Own} {r r' : List Own} [h : AccD r b m cap T sz xs r'] : AccD (z :: r) b m cap T sz xs (z :: r'):=⟨.there h.del⟩
theorem v4 {T T' el : TypeId} {x y : Operand} {b m cap s1 b1 s2 b2 : Nat} {z1 z2 : Value} {l : ye} {L' : List Own} [t1 : TI P T (.pointer el) s1 b1 z1] [t2 : TI P el (.int .u8) s2 b2 z2] [ha : AccD L b m cap el 1 (bD l) L']
  (hc1 : P.cellsOf el = 1) (hx : ev E x = some (Pt b 0)) (hy : ev E y = some (I (m : Nat))) (hlt : Nat.blt d n = true) (hm : m ≤ 9223372036854775807)
  (k : Nx n D ((d,S l) :: E) B G L' K) : Nx n D E B G L (ow P ⟨some d,.call ⟨.builtin .unsafeString,[x,y].toArray,[T,T'].toArray⟩,ty,pos,aft,gd⟩ Q K):=Nx.mk fun a w hs hw=>by
 have hw1:=hw.perm ha.del.perm
 have hat : gm w (.slice (some ⟨b,0,none⟩) m cap) el 1 m (bD l):=hw1.own _ List.mem_cons_self
 obtain ⟨h1,⟨h2,_⟩ | ⟨b',cap',rest,e,hc,hl,hb⟩⟩:=hat
 ·cases h2
 simp only [Value.slice.injEq,Option.some.injEq,Addr.mk.injEq,and_true,true_and] at e
 obtain ⟨rfl,rfl⟩:=e
 have hlm : l.length = m:=by simpa [bD] using h1
 have e1 : ([x,y].toArray.map a.eval) = #[.pointer (some ⟨b,0,none⟩),.int .i64 (m : Nat)]:=by simp [hs.ev hx,hs.ev hy]
 unfold ow Oper.wp
 by_cases h0 : l = []
 ·subst h0
  have hm0 : m = 0:=by simpa using hlm.symm
  subst hm0
  have hr:=Lib.run_unsafeString_none (P:=P) w T T' ty (some ⟨b,0,none⟩)
  have : (execOp a.eval ⟨some d,.call ⟨.builtin .unsafeString,[x,y].toArray,[T,T'].toArray⟩,ty,pos,aft,gd⟩).run P w = .ok (.value (S [])) w:=by
   simp only [execOp,resolve,e1,Sem.run_bind,Sem.run_pure,Result.andThen_ok,invoke,builtin]
   have hr' : (Builtin.unsafeString_ [T,T'].toArray ty #[.pointer (some ⟨b,0,none⟩),.int .i64 ((0 : Nat) : Int)]).run P w = .ok (.string .empty) w:=hr
   rw [hr'];rfl
  rw [this,Oper.upon_value]
  exact k.go _ w (hs.put (by simpa using hlt)) (hw1.weaken (List.sublist_cons_self _ _))
 ·have hcell : ∀ j x,l[j]? = some x → w.cell? ((⟨b,0,none⟩ : Addr).add j) = some (.int .u8 x.toNat):=fun j x hj=>by
   have hv : (bD l)[j]? = some (.int .u8 x.toNat):=by simp [bD,hj]
   rw [jp]
   exact ((fe (S:=St B G (.acc (.slice (some ⟨b,0,none⟩) m cap) el 1 m (bD l) :: L')) (m:=m) (cap:=cap) (T:=el) (sz:=1) (xs:=bD l) List.mem_cons_self).go j _ hv).go w hw1
  have hsh : w.shape? b = some (el,(bD l ++ rest).length):=by simp [World.shape?,hb]
  have hr:=Lib.run_unsafeString_row (P:=P) w T T' ty el t1.und hc1 b _ hsh l h0 (by simp [bD]) oM hcell
  have : (execOp a.eval ⟨some d,.call ⟨.builtin .unsafeString,[x,y].toArray,[T,T'].toArray⟩,ty,pos,aft,gd⟩).run P w = .ok (.value (S l)) (w.freeze ⟨b,0,none⟩ l.length):=by
   simp only [execOp,resolve,e1,Sem.run_bind,Sem.run_pure,Result.andThen_ok,invoke,builtin]
   have hr' : (Builtin.unsafeString_ [T,T'].toArray ty #[.pointer (some ⟨b,0,none⟩),.int .i64 (m : Nat)]).run P w = .ok (S l) (w.freeze ⟨b,0,none⟩ l.length):=by rw [← hlm];exact hr
   rw [hr'];rfl
  rw [this,Oper.upon_value]
  exact k.go _ _ (hs.put (by simpa using hlt)) (hw1.freeze _)
theorem jI (l : ye) : Lib.strCells ⟨l.toArray⟩ = bD l:=by simp [Lib.strCells,bD]
theorem t5 {v : Value} {m : Nat} {T T2 el : TypeId} {s1 b1 s2 b2 : Nat} {z1 z2 : Value} {xs : List Value} {l : ye} {w : World} {R : List Own} [h1' : TI P T (.slice el) s1 b1 z1] [h2' : TI P T2 .string s2 b2 z2] [he : TI P el (.int .u8) 1 1 (.int .u8 0)]
  (hb : m + l.length ≤ 1000000000) (hw : St B G (.acc v el 1 m xs :: R) w) :
  ∃ v' w',(Builtin.append_ #[T,T2] ty #[v,S l]).run P w = .ok v' w' ∧ St B G (.acc v' el 1 (m + l.length) (xs ++ bD l) :: R) w' ∧ (v = ax → l = [] → v' = ax) ∧ ((v ≠ ax ∨ l ≠ []) → ∃ b cap,v' = .slice (some ⟨b,0,none⟩) (m + l.length) cap ∧ ((∀ p q,v ≠ .slice p q 0) ∨ l ≠ [] → 0 < cap)):=by
 obtain ⟨hxl,hacc⟩ : gm w v el 1 m xs:=hw.own _ List.mem_cons_self
 obtain ⟨ie,hi,hsz,hby,hze⟩:=he.inf
 have ht:=h1'.und
 have hu:=h2'.und
 have hss : (⟨l.toArray⟩ : ByteArray).size = l.length:=ld l
 have hul : (bD l).length = l.length:=by simp [bD]
 have mk : ∀ nc,m + l.length ≤ nc →
   St B G (.acc (.slice (some ⟨w.heap.size,0,none⟩) (m + l.length) nc) el 1 (m + l.length) (xs ++ bD l) :: R) (w.drew.alloc (.cells (xs ++ bD l ++ bx [.int .u8 0] (nc - (m + l.length))).toArray el)):=by
  intro nc hnc
  have h2:=hw.drew.alloc (.cells (xs ++ bD l ++ bx [.int .u8 0] (nc - (m + l.length))).toArray el)
  have h3 : St B G (.blk w.drew.heap.size (.cells (xs ++ bD l ++ bx [.int .u8 0] (nc - (m + l.length))).toArray el) :: R) _:=h2.weaken (.cons_cons _ (List.sublist_cons_self _ _))
  refine h3.conv F ⟨by simp [hxl,hul],.inr ⟨_,nc,bx [.int .u8 0] (nc - (m + l.length)),F,hnc,?_,h3.own _ List.mem_cons_self⟩⟩
  simp only [List.length_append,hxl,hul,eM,List.length_cons,List.length_nil]
  omega
 have ez : (Builtin.zeroCells (Value.int .u8 0).cells) = fun k=>(bx [.int .u8 0] k).toArray:=by
  funext k;rw [← gv];rfl
 rcases hacc with ⟨rfl,rfl⟩ | ⟨b,cap,rest,rfl,hmc,hrl,hblk⟩
 ·have hx0 : xs = []:=by simpa using hxl
  subst hx0
  by_cases hk : l = []
  ·subst hk
   refine ⟨ax,w,?_,by simpa [bD] using hw,fun _ _=>rfl,fun h=>by rcases h with h | h <;> exact absurd F h⟩
   have hf : (Builtin.firstCells 1 0 (S [])).run P w = .ok #[] w:=by
    have:=Lib.run_firstCells_string (P:=P) w 1 ⟨([] : ye).toArray⟩
    rw [ld] at this;simpa [Lib.strCells] using this
   simp [Builtin.append_,run_underlying ht,run_underlying hu,sizeOf,typeInfo,hi,hsz,Builtin.lenOf,ld,hf]
  ·have hpos : 0 < l.length:=List.length_pos_iff.2 hk
   have hr:=run_append_nil_string (P:=P) w T T2 ty el ie (.int .u8 0) ht hu hi hze ⟨l.toArray⟩ (by rw [hss];exact hpos) (by rw [hss];omega) (by rw [hss,hby];omega)
   rw [hss] at hr
   have hg:=grownCap_ge w l.length 0 el
   have:=mk (grownCap w l.length 0 el) (by simpa using hg)
   have e1 : (⟨l.toArray⟩ : ByteArray).data.map (fun b=>Value.int .u8 b.toNat) ++ Builtin.zeroCells (Value.int .u8 0).cells (grownCap w l.length 0 el - l.length) = (bD l ++ bx [.int .u8 0] (grownCap w l.length 0 el - l.length)).toArray:=by
    rw [ez];simp [bD]
   rw [e1] at hr
   simp only [Nat.zero_add,List.nil_append] at this ⊢
   exact ⟨_,_,hr,this,fun _ h=>absurd h hk,fun _=>⟨_,_,F,fun _=>by omega⟩⟩
 ·by_cases hfit : m + l.length ≤ cap
  ·have hr:=Lib.run_append_room_string (P:=P) w T T2 ty el ie ht hu hi hsz b m cap (xs ++ rest).toArray hblk ⟨l.toArray⟩ (by rw [hss];exact hfit) (by rw [hss];simp only [List.size_toArray];omega)
   have hcells : (List.take m (xs ++ rest) ++ bD l ++ List.drop (m + l.length) (xs ++ rest)) = xs ++ bD l ++ rest.drop l.length:=by
    have : m = xs.length:=oM
    rw [this];simp [List.drop_append]
   rw [hss,jI] at hr
   simp only [hcells] at hr
   refine ⟨_,_,hr,hw.upd (b:=b) F F ⟨by simp [hxl,hul],.inr ⟨b,cap,rest.drop l.length,F,hfit,?_,setRow_heap w b _ _ el _ hblk⟩⟩ (fun c hc=>setRow_other w b c _ hc) F F F (by simp),fun h=>(by cases h),fun _=>⟨b,cap,F,fun h=>?_⟩⟩
   ·simp only [List.length_append,List.length_drop] at *;omega
   ·rcases h with h | h
    ·rcases Nat.eq_zero_or_pos cap with h0 | h0
     ·subst h0;exact absurd F (h _ _)
     ·exact h0
    ·have:=List.length_pos_iff.2 h;omega
  ·have hnsc:=gS (m + l.length) cap oM
   have hold : ∀ j u,xs[j]? = some u → w.cell? ((⟨b,0,none⟩ : Addr).add j) = some u:=fun j u hj=>by
    rw [jp]
    exact ((fe (S:=St B G (.acc (.slice (some ⟨b,0,none⟩) m cap) el 1 m xs :: R)) (m:=m) (cap:=cap) (T:=el) (sz:=1) (xs:=xs) List.mem_cons_self).go j u hj).go w hw
   have hr:=Lib.run_append_grow_string (P:=P) w T T2 ty el ie (.int .u8 0) ht hu hi hze ⟨b,0,none⟩ m cap xs (by rw [hsz];simpa using hxl) hold ⟨l.toArray⟩ (by rw [hss];omega) (by rw [hss];omega) (by rw [hss,hby];omega)
   rw [hss,jI,ez] at hr
   have hg:=grownCap_ge w (m + l.length) cap el
   have:=mk (grownCap w (m + l.length) cap el) hg
   simp only [List.append_toArray] at hr this ⊢
   exact ⟨_,_,hr,this,fun h=>(by cases h),fun _=>⟨_,_,F,fun _=>by omega⟩⟩
theorem w8 {m b cap : Nat} {s x : Operand} {T T2 el : TypeId} {s1 b1 s2 b2 : Nat} {z1 z2 : Value} {xs : List Value} {l : ye} {L' : List Own} [TI P T (.slice el) s1 b1 z1] [TI P T2 .string s2 b2 z2] [TI P el (.int .u8) 1 1 (.int .u8 0)] [ha : AccI L (.slice (some ⟨b,0,none⟩) m (cap + 1)) el 1 m xs L']
  (hs : ev E s = some (.slice (some ⟨b,0,none⟩) m (cap + 1))) (hx : ev E x = some (S l)) (hlt : Nat.blt d n = true) (hb : m + l.length ≤ 1000000000)
  (kk : ∀ b' cap',Nx n D ((d,.slice (some ⟨b',0,none⟩) (m + l.length) (cap' + 1)) :: E) B G (.acc (.slice (some ⟨b',0,none⟩) (m + l.length) (cap' + 1)) el 1 (m + l.length) (xs ++ bD l) :: L') K) :
  Nx n D E B G L (ow P ⟨some d,.call ⟨.builtin .append,[s,x].toArray,[T,T2].toArray⟩,ty,pos,aft,gd⟩ Q K):=Nx.mk fun a w hsat hw=>by
 obtain ⟨v',w',hr,hst,_,h2⟩:=t5 (P:=P) (ty:=ty) (T:=T) (T2:=T2) (el:=el) (s1:=s1) (b1:=b1) (z1:=z1) (s2:=s2) (b2:=b2) (z2:=z2) hb (hw.perm ha.del.perm)
 obtain ⟨b',cap',rfl,h3⟩:=h2 (.inl (by simp))
 obtain ⟨c,rfl⟩ : ∃ c,cap' = c + 1:=⟨cap' - 1,by have:=h3 (.inl (by simp));omega⟩
 have hrun : (execOp a.eval ⟨some d,.call ⟨.builtin .append,[s,x].toArray,[T,T2].toArray⟩,ty,pos,aft,gd⟩).run P w = .ok (.value (.slice (some ⟨b',0,none⟩) (m + l.length) (c + 1))) w':=by
  have e1 : ([s,x].toArray.map a.eval) = #[.slice (some ⟨b,0,none⟩) m (cap + 1),S l]:=by simp [hsat.ev hs,hsat.ev hx]
  simp only [execOp,resolve,e1,Sem.run_bind,Sem.run_pure,Result.andThen_ok,invoke,builtin,hr]
 unfold ow Oper.wp
 rw [hrun,Oper.upon_value]
 exact (kk b' c).go _ w' (hsat.put (by simpa using hlt)) hst
theorem wZ {fo x : Operand} {aL : Array TypeId} {f : FuncId} {fn : Func} {t el : TypeId} {m : Nat} {ps : Array TypeId}
  (hf : ev E fo = some (.func (.func f) #[] #[])) (hx : ev E x = some (I (m : Nat))) (hlt : Nat.blt d n = true) (hfn : P.funcs[f]? = some fn) (hname : (fn.name == "runtime.NumGoroutine") = false) (hbd : fn.body.isNone = true) (hnx : Extern.findNext fn = none) (he : Extern.find fn = some (Extern.BytealgMakeNoZero.makeNoZero ps #[t])) (ht : P.underlying t = some (.slice el)) (hm : 0 < m ∧ m ≤ 1000000000)
  (k : ∀ b cap,m ≤ cap + 1 → Nx n D ((d,.slice (some ⟨b,0,none⟩) m (cap + 1)) :: E) B G (.acc (.slice (some ⟨b,0,none⟩) 0 (cap + 1)) el 1 0 [] :: L) K) : Nx n D E B G L (ow P ⟨some d,.call ⟨.value fo,[x].toArray,aL⟩,ty,pos,aft,gd⟩ Q K):=Nx.mk fun a w hs hw=>by
 obtain ⟨cs,hr,hcs,_⟩:=Lib.run_makeNoZero (P:=P) w ps t el ht m oM
 have e1 : ([x].toArray.map a.eval) = #[.int .i64 (m : Nat)]:=by simp [hs.ev hx]
 have hrun : (execOp a.eval ⟨some d,.call ⟨.value fo,[x].toArray,aL⟩,ty,pos,aft,gd⟩).run P w = .ok (.value (.slice (some ⟨w.heap.size,0,none⟩) m cs.size)) (w.drew.drew.alloc (.cells cs el)):=by
  simp only [execOp,resolve,hs.ev hf,e1,Deferred.ofValue,Sem.run_bind,Sem.run_pure,Result.andThen_ok,invoke]
  rw [show (#[] ++ #[Value.int .i64 (m : Nat)] ++ #[] : Array Value) = #[Value.int .i64 (m : Nat)] from rfl,run_callFunc_extern hfn hname hbd hnx he,hr]
  rfl
 unfold ow Oper.wp
 rw [hrun,Oper.upon_value]
 have h1:=hw.drew.drew.alloc (.cells cs el)
 obtain ⟨c,hc⟩ : ∃ c,cs.size = c + 1:=⟨cs.size - 1,oM⟩
 have h2 : St B G (.acc (.slice (some ⟨w.heap.size,0,none⟩) 0 (c + 1)) el 1 0 [] :: L) (w.drew.drew.alloc (.cells cs el)):=h1.conv rfl ⟨rfl,.inr ⟨w.heap.size,c + 1,cs.toList,rfl,Nat.zero_le _,by simp [hc],h1.own _ List.mem_cons_self⟩⟩
 rw [hc]
 exact (k w.heap.size c oM).go _ _ (hs.put (by simpa using hlt)) h2
end
def ec (P : Program) (f : FuncId) (args : List Value) (G : Gh) (L : List Own) (R : Value → Gh → List Own → Prop) : Prop:=Fn P f args G L (fun v G' L'=>Gh.le G G' ∧ R v G' L')
section
variable {P : Program} {n : Nat} {D : List Deferred} {E : a8} {B : Base} {G : Gh} {L : List Own} {K : Act → World → Prop} {Q : Exit → Act → World → Prop}
theorem d7 {fo : Operand} {l : List Operand} {aL : Array TypeId} {d : Nat} {ty : TypeId} {pos : String} {aft : Array Edge} {g : Option (Nat × Bool)} {f : FuncId} {fi ca az vs : List Value} {b : Nat} {cs : List Value} {T : TypeId} {R : List Own} {Post : Value → Gh → List Own → Prop}
  [hd : DelB L b cs T R] (hf : ev E fo = some (.func (.func f) fi.toArray ca.toArray)) (ha : evs E l = some az) (hv : fi ++ az ++ ca = vs) (hc : ec P f vs G [.blk b (.cells cs.toArray T (0,0))] Post) (hlt : Nat.blt d n = true)
  (k : ∀ v G' L',Gh.le G G' → Post v G' L' → Nx n D ((d,v) :: E) B G' (L' ++ R) K) : Nx n D E B G L (ow P ⟨some d,.call ⟨.value fo,l.toArray,aL⟩,ty,pos,aft,g⟩ Q K) :=
 v7 hf ha hv hc hlt fun v G' L' h=>k v G' L' h.1 h.2
theorem bS {f : FuncId} {fn : Func} {c : Code} {args : List Value} {R : Value → Gh → List Own → Prop} (E0 : a8) (hf : P.funcs[f]? = some fn) (hok : dp P f = true) (hn : fn.ntmps = n) (hb : fn.body = some c)
  (hlen : Nat.ble args.length n = true) (hE : fE E0 (params 0 args))
  (h : ∀ B,B.G = G → B.W = bO L → Nx n [] E0 B G L (cu P (.code c) [] (bp P fn (dt B (fun v G' L'=>Gh.le G G' ∧ R v G' L'))))) : ec P f args G L R:=pZ E0 hf hok hn hb hlen hE h
end
def u7 (n : Nat) (cs : List Value) : Bool:=cs.all fun v=>match v with | .string b=>Nat.ble b.size n | _=>false
section
variable {P : Program} {n : Nat} {D : List Deferred} {E : a8} {B : Base} {G : Gh} {L : List Own} {K : Act → World → Prop} {Q : Exit → Act → World → Prop}
theorem fy (m : Nat) {T T0 : TypeId} {x : Operand} {desc : TypeDesc} {size bytes : Nat} {zero : Value} {b o d : Nat} {cs : List Value} {fr : Nat × Nat} {ty : TypeId} {pos : String} {aft : Array Edge} {g : Option (Nat × Bool)} [TI P T desc size bytes zero] [h : BlkI L b cs T0 fr] (hx : ev E x = some (Pt b o)) (ha : cD desc = false) (hlt : Nat.blt d n = true) (ho : o < cs.length) (hs : u7 m cs = true)
  (k : ∀ l : ye,l.length ≤ m → Nx n D ((d,S l) :: E) B G L K) : Nx n D E B G L (ow P ⟨some d,.load T x,ty,pos,aft,g⟩ Q K) :=
 w3 hx ha hlt ho fun v hv=>by
  have h1:=List.all_eq_true.1 hs v hv
  split at h1
  ·rename_i b
   have e : Value.string b = S b.data.toList:=by simp [S]
   rw [e]
   exact k _ (by rw [Array.length_toList];exact Nat.le_of_ble_eq_true h1)
  ·cases h1
end
theorem PutsR.len {cs vs cs' : List Value} {o : Nat} (h : PutsR cs o vs cs') : cs'.length = cs.length:=by
 induction h with
 | nil=>rfl
 | here _ ih=>simp [ih]
 | there _ ih=>simp [ih]
class UpdA (b : Nat) (xs' : List Value) (L : List Own) (m cap : outParam Nat) (T0 : outParam TypeId) (sz : outParam Nat) (xs : outParam (List Value)) (L' : outParam (List Own)) : Prop where
 upd : UpdO (.acc (.slice (some ⟨b,0,none⟩) m cap) T0 sz m xs) (.acc (.slice (some ⟨b,0,none⟩) m cap) T0 sz m xs') L L'
instance {b m cap : Nat} {T0 : TypeId} {sz : Nat} {xs xs' : List Value} {r : List Own} : UpdA b xs' (.acc (.slice (some ⟨b,0,none⟩) m cap) T0 sz m xs :: r) m cap T0 sz xs (.acc (.slice (some ⟨b,0,none⟩) m cap) T0 sz m xs' :: r):=⟨.here⟩
instance {b m cap : Nat} {T0 : TypeId} {sz : Nat} {xs xs' : List Value} {z : Own} {r r' : List Own} [h : UpdA b xs' r m cap T0 sz xs r'] : UpdA b xs' (z :: r) m cap T0 sz xs (z :: r'):=⟨.there h.upd⟩
section
variable {P : Program} {n : Nat} {D : List Deferred} {E : a8} {B : Base} {G : Gh} {L : List Own} {K : Act → World → Prop} {Q : Exit → Act → World → Prop} {ty : TypeId} {pos : String} {aft : Array Edge} {gd : Option (Nat × Bool)} {dd : Nat}
end
section
variable {P : Program} {n : Nat} {D : List Deferred} {E : a8} {B : Base} {G : Gh} {L : List Own} {K : Act → World → Prop} {Q : Exit → Act → World → Prop} {ty : TypeId} {pos : String} {aft : Array Edge} {gd : Option (Nat × Bool)} {dd : Nat}
end
def xv (P : Program) (fn : Func) (R : Ending → World → Prop) : Exit → Act → World → Prop
 | .normal,a,w | .ret,a,w=>Leaves P fn a.tmps R a.defers .returning w
 | .outgrown,_,w=>R .outgrown w
 | _,_,_=>False
instance {P : Program} {fn : Func} {R : Ending → World → Prop} : PQ (xv P fn R):=⟨fun _ _ _ _ _ h=>h⟩
structure FnD (P : Program) (f : FuncId) (args : List Value) (G : Gh) (L : List Own) (Post : Value → Gh → List Own → Prop) : Prop where
 ok : dp P f = true
 go : ∀ w,St ⟨w,G,bO L⟩ G L w → CallsD P f args.toArray .returning w fun e u w'=>u = .returning ∧ dt ⟨w,G,bO L⟩ Post e w'
section
variable {P : Program} {n : Nat} {D : List Deferred} {E : a8} {B : Base} {G : Gh} {L : List Own} {K : Act → World → Prop} {Q : Exit → Act → World → Prop}
end
attribute [irreducible] xv
section
variable {P : Program} {n : Nat} {D : List Deferred} {E : a8} {B : Base} {G : Gh} {L : List Own} {K : Act → World → Prop} {Q : Exit → Act → World → Prop} {ty : TypeId} {pos : String} {aft : Array Edge} {gd : Option (Nat × Bool)}
end
open Go.Proofs
abbrev bF : Value:=.bool false
abbrev u0 : Value:=.int .u8 0
noncomputable abbrev yd : Program:=Tryz.prog
instance ti2 : TI yd 2 (.int .i64) 1 8 (.int .i64 0):=TI.mk' kR kR kR
instance ti3 : TI yd 3 (.int .i64) 1 8 (.int .i64 0):=TI.mk' kR kR kR
instance ti4 : TI yd 4 .bool 1 1 (.bool false):=TI.mk' kR kR kR
instance ti5 : TI yd 5 (.int .u8) 1 1 (.int .u8 0):=TI.mk' kR kR kR
instance ti6 : TI yd 6 (.int .u8) 1 1 (.int .u8 0):=TI.mk' kR kR kR
instance ti7 : TI yd 7 (.struct (bg yd 7)) 4 24 (Ag [(.int .i64 0),(.int .i64 0),(.bool false),(.int .u8 0)]):=TI.mk' kR kR kR
instance ti8 : TI yd 8 (.struct (bg yd 8)) 4 24 (Ag [(.int .i64 0),(.int .i64 0),(.bool false),(.int .u8 0)]):=TI.mk' kR kR kR
instance ti9 : TI yd 9 .string 1 16 (S []):=TI.mk' kR kR kR
instance ti12 : TI yd 12 (.int .u64) 1 8 (.int .u64 0):=TI.mk' kR kR kR
instance ti13 : TI yd 13 (.struct (bg yd 13)) 2 24 (Ag [(S []),(.int .u64 0)]):=TI.mk' kR kR kR
instance ti14 : TI yd 14 (.struct (bg yd 14)) 2 24 (Ag [(S []),(.int .u64 0)]):=TI.mk' kR kR kR
instance ti17 : TI yd 17 (.pointer 263) 1 8 (.pointer none):=TI.mk' kR kR kR
instance ti18 : TI yd 18 (.struct (bg yd 18)) 1 8 (Ag [(.pointer none)]):=TI.mk' kR kR kR
instance ti19 : TI yd 19 (.struct (bg yd 19)) 1 8 (Ag [(.pointer none)]):=TI.mk' kR kR kR
instance ti22 : TI yd 22 (.slice 5) 1 24 ax:=TI.mk' kR kR kR
instance ti23 : TI yd 23 (.slice 42) 1 24 ax:=TI.mk' kR kR kR
instance ti24 : TI yd 24 (.struct (bg yd 24)) 2 40 (Ag [(S []),ax]):=TI.mk' kR kR kR
instance ti25 : TI yd 25 (.struct (bg yd 25)) 2 40 (Ag [(S []),ax]):=TI.mk' kR kR kR
instance ti41 : TI yd 41 (.struct (bg yd 41)) 3 48 (Ag [(S []),(S []),(S [])]):=TI.mk' kR kR kR
instance ti42 : TI yd 42 (.struct (bg yd 42)) 3 48 (Ag [(S []),(S []),(S [])]):=TI.mk' kR kR kR
instance ti46 : TI yd 46 (.pointer 93) 1 8 (.pointer none):=TI.mk' kR kR kR
instance ti49 : TI yd 49 (.slice 9) 1 24 ax:=TI.mk' kR kR kR
instance ti53 : TI yd 53 (.slice 3) 1 24 ax:=TI.mk' kR kR kR
instance ti63 : TI yd 63 (.pointer 129) 1 8 (.pointer none):=TI.mk' kR kR kR
instance ti64 : TI yd 64 (.struct (bg yd 64)) 5 64 (Ag [(.pointer none),(S []),(.bool false),ax,(.int .i64 0)]):=TI.mk' kR kR kR
instance ti65 : TI yd 65 (.struct (bg yd 65)) 5 64 (Ag [(.pointer none),(S []),(.bool false),ax,(.int .i64 0)]):=TI.mk' kR kR kR
instance ti76 : TI yd 76 (.struct (bg yd 76)) 3 48 (Ag [(S []),(S []),(S [])]):=TI.mk' kR kR kR
instance ti77 : TI yd 77 (.struct (bg yd 77)) 3 48 (Ag [(S []),(S []),(S [])]):=TI.mk' kR kR kR
instance ti81 : TI yd 81 (.slice 83) 1 24 ax:=TI.mk' kR kR kR
instance ti82 : TI yd 82 (.struct (bg yd 82)) 4 56 (Ag [(.int .u8 0),(S []),(.int .i64 0),ax]):=TI.mk' kR kR kR
instance ti83 : TI yd 83 (.struct (bg yd 83)) 4 56 (Ag [(.int .u8 0),(S []),(.int .i64 0),ax]):=TI.mk' kR kR kR
instance ti92 : TI yd 92 (.struct (bg yd 92)) 2 32 (Ag [ax,(.int .i64 0)]):=TI.mk' kR kR kR
instance ti93 : TI yd 93 (.struct (bg yd 93)) 2 32 (Ag [ax,(.int .i64 0)]):=TI.mk' kR kR kR
instance ti97 : TI yd 97 (.slice 110) 1 24 ax:=TI.mk' kR kR kR
instance ti108 : TI yd 108 (.slice 112) 1 24 ax:=TI.mk' kR kR kR
instance ti109 : TI yd 109 (.struct (bg yd 109)) 3 48 (Ag [(.int .u8 0),(S []),ax]):=TI.mk' kR kR kR
instance ti110 : TI yd 110 (.struct (bg yd 110)) 3 48 (Ag [(.int .u8 0),(S []),ax]):=TI.mk' kR kR kR
instance ti111 : TI yd 111 (.struct (bg yd 111)) 4 56 (Ag [(.int .i64 0),(S []),(S []),(S [])]):=TI.mk' kR kR kR
instance ti112 : TI yd 112 (.struct (bg yd 112)) 4 56 (Ag [(.int .i64 0),(S []),(S []),(S [])]):=TI.mk' kR kR kR
instance ti114 : TI yd 114 (.pointer 138) 1 8 (.pointer none):=TI.mk' kR kR kR
instance ti125 : TI yd 125 (.pointer 132) 1 8 (.pointer none):=TI.mk' kR kR kR
instance ti126 : TI yd 126 (.slice 125) 1 24 ax:=TI.mk' kR kR kR
instance ti127 : TI yd 127 (.map 9 125) 1 8 (.map none):=TI.mk' kR kR kR
instance ti128 : TI yd 128 (.struct (bg yd 128)) 2 32 (Ag [ax,(.map none)]):=TI.mk' kR kR kR
instance ti129 : TI yd 129 (.struct (bg yd 129)) 2 32 (Ag [ax,(.map none)]):=TI.mk' kR kR kR
instance ti130 : TI yd 130 (.slice 134) 1 24 ax:=TI.mk' kR kR kR
instance ti131 : TI yd 131 (.struct (bg yd 131)) 4 64 (Ag [(.int .u8 0),(S []),ax,(S [])]):=TI.mk' kR kR kR
instance ti132 : TI yd 132 (.struct (bg yd 132)) 4 64 (Ag [(.int .u8 0),(S []),ax,(S [])]):=TI.mk' kR kR kR
instance ti133 : TI yd 133 (.struct (bg yd 133)) 6 88 (Ag [(.int .i64 0),(S []),(S []),(S []),(S []),(S [])]):=TI.mk' kR kR kR
instance ti134 : TI yd 134 (.struct (bg yd 134)) 6 88 (Ag [(.int .i64 0),(S []),(S []),(S []),(S []),(S [])]):=TI.mk' kR kR kR
instance ti136 : TI yd 136 (.map 225 4) 1 8 (.map none):=TI.mk' kR kR kR
instance ti137 : TI yd 137 (.struct (bg yd 137)) 3 24 (Ag [(.pointer none),(.pointer none),(.map none)]):=TI.mk' kR kR kR
instance ti138 : TI yd 138 (.struct (bg yd 138)) 3 24 (Ag [(.pointer none),(.pointer none),(.map none)]):=TI.mk' kR kR kR
instance ti145 : TI yd 145 (.slice 100) 1 24 ax:=TI.mk' kR kR kR
instance ti146 : TI yd 146 (.struct (bg yd 146)) 4 80 (Ag [(S []),(S []),ax,ax]):=TI.mk' kR kR kR
instance ti147 : TI yd 147 (.struct (bg yd 147)) 4 80 (Ag [(S []),(S []),ax,ax]):=TI.mk' kR kR kR
instance ti158 : TI yd 158 (.pointer 161) 1 8 (.pointer none):=TI.mk' kR kR kR
instance ti159 : TI yd 159 (.slice 211) 1 24 ax:=TI.mk' kR kR kR
instance ti160 : TI yd 160 (.struct (bg yd 160)) 3 72 (Ag [ax,ax,ax]):=TI.mk' kR kR kR
instance ti161 : TI yd 161 (.struct (bg yd 161)) 3 72 (Ag [ax,ax,ax]):=TI.mk' kR kR kR
instance ti168 : TI yd 168 (.pointer 170) 1 8 (.pointer none):=TI.mk' kR kR kR
instance ti169 : TI yd 169 (.struct (bg yd 169)) 3 32 (Ag [(.pointer none),(S []),(.bool false)]):=TI.mk' kR kR kR
instance ti170 : TI yd 170 (.struct (bg yd 170)) 3 32 (Ag [(.pointer none),(S []),(.bool false)]):=TI.mk' kR kR kR
instance ti173 : TI yd 173 (.pointer 134) 1 8 (.pointer none):=TI.mk' kR kR kR
instance ti176 : TI yd 176 (.pointer 178) 1 8 (.pointer none):=TI.mk' kR kR kR
instance ti177 : TI yd 177 (.struct (bg yd 177)) 2 32 (Ag [(.pointer none),ax]):=TI.mk' kR kR kR
instance ti178 : TI yd 178 (.struct (bg yd 178)) 2 32 (Ag [(.pointer none),ax]):=TI.mk' kR kR kR
instance ti192 : TI yd 192 (.array 256 4) 256 256 (Ag [bF,bF,bF,bF,bF,bF,bF,bF,bF,bF,bF,bF,bF,bF,bF,bF,bF,bF,bF,bF,bF,bF,bF,bF,bF,bF,bF,bF,bF,bF,bF,bF,bF,bF,bF,bF,bF,bF,bF,bF,bF,bF,bF,bF,bF,bF,bF,bF,bF,bF,bF,bF,bF,bF,bF,bF,bF,bF,bF,bF,bF,bF,bF,bF,bF,bF,bF,bF,bF,bF,bF,bF,bF,bF,bF,bF,bF,bF,bF,bF,bF,bF,bF,bF,bF,bF,bF,bF,bF,bF,bF,bF,bF,bF,bF,bF,bF,bF,bF,bF,bF,bF,bF,bF,bF,bF,bF,bF,bF,bF,bF,bF,bF,bF,bF,bF,bF,bF,bF,bF,bF,bF,bF,bF,bF,bF,bF,bF,bF,bF,bF,bF,bF,bF,bF,bF,bF,bF,bF,bF,bF,bF,bF,bF,bF,bF,bF,bF,bF,bF,bF,bF,bF,bF,bF,bF,bF,bF,bF,bF,bF,bF,bF,bF,bF,bF,bF,bF,bF,bF,bF,bF,bF,bF,bF,bF,bF,bF,bF,bF,bF,bF,bF,bF,bF,bF,bF,bF,bF,bF,bF,bF,bF,bF,bF,bF,bF,bF,bF,bF,bF,bF,bF,bF,bF,bF,bF,bF,bF,bF,bF,bF,bF,bF,bF,bF,bF,bF,bF,bF,bF,bF,bF,bF,bF,bF,bF,bF,bF,bF,bF,bF,bF,bF,bF,bF,bF,bF,bF,bF,bF,bF,bF,bF,bF,bF,bF,bF,bF,bF,bF,bF,bF,bF,bF,(.bool false)]):=TI.mk' kR kR kR
instance ti196 : TI yd 196 (.pointer 192) 1 8 (.pointer none):=TI.mk' kR kR kR
instance ti198 : TI yd 198 (.struct (bg yd 198)) 1 24 (Ag [ax]):=TI.mk' kR kR kR
instance ti199 : TI yd 199 (.struct (bg yd 199)) 1 24 (Ag [ax]):=TI.mk' kR kR kR
instance ti210 : TI yd 210 (.struct (bg yd 210)) 2 32 (Ag [(S []),(S [])]):=TI.mk' kR kR kR
instance ti211 : TI yd 211 (.struct (bg yd 211)) 2 32 (Ag [(S []),(S [])]):=TI.mk' kR kR kR
instance ti217 : TI yd 217 (.pointer 5) 1 8 (.pointer none):=TI.mk' kR kR kR
instance ti224 : TI yd 224 (.struct (bg yd 224)) 2 32 (Ag [(S []),(S [])]):=TI.mk' kR kR kR
instance ti225 : TI yd 225 (.struct (bg yd 225)) 2 32 (Ag [(S []),(S [])]):=TI.mk' kR kR kR
instance ti245 : TI yd 245 (.struct (bg yd 245)) 2 2 (Ag [(.int .u8 0),(.int .u8 0)]):=TI.mk' kR kR kR
instance ti246 : TI yd 246 (.struct (bg yd 246)) 2 2 (Ag [(.int .u8 0),(.int .u8 0)]):=TI.mk' kR kR kR
instance ti252 : TI yd 252 (.struct (bg yd 252)) 4 40 (Ag [(.pointer none),(.pointer none),(.pointer none),(S [])]):=TI.mk' kR kR kR
instance ti253 : TI yd 253 (.struct (bg yd 253)) 4 40 (Ag [(.pointer none),(.pointer none),(.pointer none),(S [])]):=TI.mk' kR kR kR
instance fa7_0 : FA yd 7 0 0:=FA.mk' kR ti2 rfl
instance fv7_0 : FV yd 7 0 false 0 1:=FV.mk' kR ti2 rfl
instance fa7_1 : FA yd 7 1 1:=FA.mk' kR ti3 rfl
instance fv7_1 : FV yd 7 1 false 1 1:=FV.mk' kR ti3 rfl
instance fa7_2 : FA yd 7 2 2:=FA.mk' kR ti4 rfl
instance fv7_2 : FV yd 7 2 false 2 1:=FV.mk' kR ti4 rfl
instance fa7_3 : FA yd 7 3 3:=FA.mk' kR ti6 rfl
instance fv7_3 : FV yd 7 3 false 3 1:=FV.mk' kR ti6 rfl
instance fa8_0 : FA yd 8 0 0:=FA.mk' kR ti2 rfl
instance fv8_0 : FV yd 8 0 false 0 1:=FV.mk' kR ti2 rfl
instance fa8_1 : FA yd 8 1 1:=FA.mk' kR ti3 rfl
instance fv8_1 : FV yd 8 1 false 1 1:=FV.mk' kR ti3 rfl
instance fa8_2 : FA yd 8 2 2:=FA.mk' kR ti4 rfl
instance fv8_2 : FV yd 8 2 false 2 1:=FV.mk' kR ti4 rfl
instance fa8_3 : FA yd 8 3 3:=FA.mk' kR ti6 rfl
instance fv8_3 : FV yd 8 3 false 3 1:=FV.mk' kR ti6 rfl
instance fa13_0 : FA yd 13 0 0:=FA.mk' kR ti9 rfl
instance fv13_0 : FV yd 13 0 false 0 1:=FV.mk' kR ti9 rfl
instance fa13_1 : FA yd 13 1 1:=FA.mk' kR ti12 rfl
instance fv13_1 : FV yd 13 1 false 1 1:=FV.mk' kR ti12 rfl
instance fa14_0 : FA yd 14 0 0:=FA.mk' kR ti9 rfl
instance fv14_0 : FV yd 14 0 false 0 1:=FV.mk' kR ti9 rfl
instance fa14_1 : FA yd 14 1 1:=FA.mk' kR ti12 rfl
instance fv14_1 : FV yd 14 1 false 1 1:=FV.mk' kR ti12 rfl
instance fa18_0 : FA yd 18 0 0:=FA.mk' kR ti17 rfl
instance fv18_0 : FV yd 18 0 false 0 1:=FV.mk' kR ti17 rfl
instance fa19_0 : FA yd 19 0 0:=FA.mk' kR ti17 rfl
instance fv19_0 : FV yd 19 0 false 0 1:=FV.mk' kR ti17 rfl
instance fa24_0 : FA yd 24 0 0:=FA.mk' kR ti9 rfl
instance fv24_0 : FV yd 24 0 false 0 1:=FV.mk' kR ti9 rfl
instance fa24_1 : FA yd 24 1 1:=FA.mk' kR ti23 rfl
instance fv24_1 : FV yd 24 1 false 1 1:=FV.mk' kR ti23 rfl
instance fa25_0 : FA yd 25 0 0:=FA.mk' kR ti9 rfl
instance fv25_0 : FV yd 25 0 false 0 1:=FV.mk' kR ti9 rfl
instance fa25_1 : FA yd 25 1 1:=FA.mk' kR ti23 rfl
instance fv25_1 : FV yd 25 1 false 1 1:=FV.mk' kR ti23 rfl
instance : BT yd 25 [(0,1),(1,1)] [(S []),ax]:=BT.mk' [(9,0,1),(23,1,1)] rfl kR kR rfl
instance fa41_0 : FA yd 41 0 0:=FA.mk' kR ti9 rfl
instance fv41_0 : FV yd 41 0 false 0 1:=FV.mk' kR ti9 rfl
instance fa41_1 : FA yd 41 1 1:=FA.mk' kR ti9 rfl
instance fv41_1 : FV yd 41 1 false 1 1:=FV.mk' kR ti9 rfl
instance fa41_2 : FA yd 41 2 2:=FA.mk' kR ti9 rfl
instance fv41_2 : FV yd 41 2 false 2 1:=FV.mk' kR ti9 rfl
instance fa42_0 : FA yd 42 0 0:=FA.mk' kR ti9 rfl
instance fv42_0 : FV yd 42 0 false 0 1:=FV.mk' kR ti9 rfl
instance fa42_1 : FA yd 42 1 1:=FA.mk' kR ti9 rfl
instance fv42_1 : FV yd 42 1 false 1 1:=FV.mk' kR ti9 rfl
instance fa42_2 : FA yd 42 2 2:=FA.mk' kR ti9 rfl
instance fv42_2 : FV yd 42 2 false 2 1:=FV.mk' kR ti9 rfl
instance : BT yd 42 [(0,1),(1,1),(2,1)] [(S []),(S []),(S [])]:=BT.mk' [(9,0,1),(9,1,1),(9,2,1)] rfl kR kR rfl
instance fa64_0 : FA yd 64 0 0:=FA.mk' kR ti63 rfl
instance fv64_0 : FV yd 64 0 false 0 1:=FV.mk' kR ti63 rfl
instance fa64_1 : FA yd 64 1 1:=FA.mk' kR ti9 rfl
instance fv64_1 : FV yd 64 1 false 1 1:=FV.mk' kR ti9 rfl
instance fa64_2 : FA yd 64 2 2:=FA.mk' kR ti4 rfl
instance fv64_2 : FV yd 64 2 false 2 1:=FV.mk' kR ti4 rfl
instance fa64_3 : FA yd 64 3 3:=FA.mk' kR ti53 rfl
instance fv64_3 : FV yd 64 3 false 3 1:=FV.mk' kR ti53 rfl
instance fa64_4 : FA yd 64 4 4:=FA.mk' kR ti3 rfl
instance fv64_4 : FV yd 64 4 false 4 1:=FV.mk' kR ti3 rfl
instance fa65_0 : FA yd 65 0 0:=FA.mk' kR ti63 rfl
instance fv65_0 : FV yd 65 0 false 0 1:=FV.mk' kR ti63 rfl
instance fa65_1 : FA yd 65 1 1:=FA.mk' kR ti9 rfl
instance fv65_1 : FV yd 65 1 false 1 1:=FV.mk' kR ti9 rfl
instance fa65_2 : FA yd 65 2 2:=FA.mk' kR ti4 rfl
instance fv65_2 : FV yd 65 2 false 2 1:=FV.mk' kR ti4 rfl
instance fa65_3 : FA yd 65 3 3:=FA.mk' kR ti53 rfl
instance fv65_3 : FV yd 65 3 false 3 1:=FV.mk' kR ti53 rfl
instance fa65_4 : FA yd 65 4 4:=FA.mk' kR ti3 rfl
instance fv65_4 : FV yd 65 4 false 4 1:=FV.mk' kR ti3 rfl
instance fa76_0 : FA yd 76 0 0:=FA.mk' kR ti9 rfl
instance fv76_0 : FV yd 76 0 false 0 1:=FV.mk' kR ti9 rfl
instance fa76_1 : FA yd 76 1 1:=FA.mk' kR ti9 rfl
instance fv76_1 : FV yd 76 1 false 1 1:=FV.mk' kR ti9 rfl
instance fa76_2 : FA yd 76 2 2:=FA.mk' kR ti9 rfl
instance fv76_2 : FV yd 76 2 false 2 1:=FV.mk' kR ti9 rfl
instance fa77_0 : FA yd 77 0 0:=FA.mk' kR ti9 rfl
instance fv77_0 : FV yd 77 0 false 0 1:=FV.mk' kR ti9 rfl
instance fa77_1 : FA yd 77 1 1:=FA.mk' kR ti9 rfl
instance fv77_1 : FV yd 77 1 false 1 1:=FV.mk' kR ti9 rfl
instance fa77_2 : FA yd 77 2 2:=FA.mk' kR ti9 rfl
instance fv77_2 : FV yd 77 2 false 2 1:=FV.mk' kR ti9 rfl
instance : BT yd 77 [(0,1),(1,1),(2,1)] [(S []),(S []),(S [])]:=BT.mk' [(9,0,1),(9,1,1),(9,2,1)] rfl kR kR rfl
instance fa82_0 : FA yd 82 0 0:=FA.mk' kR ti5 rfl
instance fv82_0 : FV yd 82 0 false 0 1:=FV.mk' kR ti5 rfl
instance fa82_1 : FA yd 82 1 1:=FA.mk' kR ti9 rfl
instance fv82_1 : FV yd 82 1 false 1 1:=FV.mk' kR ti9 rfl
instance fa82_2 : FA yd 82 2 2:=FA.mk' kR ti3 rfl
instance fv82_2 : FV yd 82 2 false 2 1:=FV.mk' kR ti3 rfl
instance fa82_3 : FA yd 82 3 3:=FA.mk' kR ti81 rfl
instance fv82_3 : FV yd 82 3 false 3 1:=FV.mk' kR ti81 rfl
instance fa83_0 : FA yd 83 0 0:=FA.mk' kR ti5 rfl
instance fv83_0 : FV yd 83 0 false 0 1:=FV.mk' kR ti5 rfl
instance fa83_1 : FA yd 83 1 1:=FA.mk' kR ti9 rfl
instance fv83_1 : FV yd 83 1 false 1 1:=FV.mk' kR ti9 rfl
instance fa83_2 : FA yd 83 2 2:=FA.mk' kR ti3 rfl
instance fv83_2 : FV yd 83 2 false 2 1:=FV.mk' kR ti3 rfl
instance fa83_3 : FA yd 83 3 3:=FA.mk' kR ti81 rfl
instance fv83_3 : FV yd 83 3 false 3 1:=FV.mk' kR ti81 rfl
instance : BT yd 83 [(0,1),(1,1),(2,1),(3,1)] [(.int .u8 0),(S []),(.int .i64 0),ax]:=BT.mk' [(5,0,1),(9,1,1),(3,2,1),(81,3,1)] rfl kR kR rfl
instance fa92_0 : FA yd 92 0 0:=FA.mk' kR ti22 rfl
instance fv92_0 : FV yd 92 0 false 0 1:=FV.mk' kR ti22 rfl
instance fa92_1 : FA yd 92 1 1:=FA.mk' kR ti3 rfl
instance fv92_1 : FV yd 92 1 false 1 1:=FV.mk' kR ti3 rfl
instance fa93_0 : FA yd 93 0 0:=FA.mk' kR ti22 rfl
instance fv93_0 : FV yd 93 0 false 0 1:=FV.mk' kR ti22 rfl
instance fa93_1 : FA yd 93 1 1:=FA.mk' kR ti3 rfl
instance fv93_1 : FV yd 93 1 false 1 1:=FV.mk' kR ti3 rfl
instance : BT yd 93 [(0,1),(1,1)] [ax,(.int .i64 0)]:=BT.mk' [(22,0,1),(3,1,1)] rfl kR kR rfl
instance fa109_0 : FA yd 109 0 0:=FA.mk' kR ti5 rfl
instance fv109_0 : FV yd 109 0 false 0 1:=FV.mk' kR ti5 rfl
instance fa109_1 : FA yd 109 1 1:=FA.mk' kR ti9 rfl
instance fv109_1 : FV yd 109 1 false 1 1:=FV.mk' kR ti9 rfl
instance fa109_2 : FA yd 109 2 2:=FA.mk' kR ti108 rfl
instance fv109_2 : FV yd 109 2 false 2 1:=FV.mk' kR ti108 rfl
instance fa110_0 : FA yd 110 0 0:=FA.mk' kR ti5 rfl
instance fv110_0 : FV yd 110 0 false 0 1:=FV.mk' kR ti5 rfl
instance fa110_1 : FA yd 110 1 1:=FA.mk' kR ti9 rfl
instance fv110_1 : FV yd 110 1 false 1 1:=FV.mk' kR ti9 rfl
instance fa110_2 : FA yd 110 2 2:=FA.mk' kR ti108 rfl
instance fv110_2 : FV yd 110 2 false 2 1:=FV.mk' kR ti108 rfl
instance : BT yd 110 [(0,1),(1,1),(2,1)] [(.int .u8 0),(S []),ax]:=BT.mk' [(5,0,1),(9,1,1),(108,2,1)] rfl kR kR rfl
instance fa111_0 : FA yd 111 0 0:=FA.mk' kR ti3 rfl
instance fv111_0 : FV yd 111 0 false 0 1:=FV.mk' kR ti3 rfl
instance fa111_1 : FA yd 111 1 1:=FA.mk' kR ti9 rfl
instance fv111_1 : FV yd 111 1 false 1 1:=FV.mk' kR ti9 rfl
instance fa111_2 : FA yd 111 2 2:=FA.mk' kR ti9 rfl
instance fv111_2 : FV yd 111 2 false 2 1:=FV.mk' kR ti9 rfl
instance fa111_3 : FA yd 111 3 3:=FA.mk' kR ti9 rfl
instance fv111_3 : FV yd 111 3 false 3 1:=FV.mk' kR ti9 rfl
instance fa112_0 : FA yd 112 0 0:=FA.mk' kR ti3 rfl
instance fv112_0 : FV yd 112 0 false 0 1:=FV.mk' kR ti3 rfl
instance fa112_1 : FA yd 112 1 1:=FA.mk' kR ti9 rfl
instance fv112_1 : FV yd 112 1 false 1 1:=FV.mk' kR ti9 rfl
instance fa112_2 : FA yd 112 2 2:=FA.mk' kR ti9 rfl
instance fv112_2 : FV yd 112 2 false 2 1:=FV.mk' kR ti9 rfl
instance fa112_3 : FA yd 112 3 3:=FA.mk' kR ti9 rfl
instance fv112_3 : FV yd 112 3 false 3 1:=FV.mk' kR ti9 rfl
instance : BT yd 112 [(0,1),(1,1),(2,1),(3,1)] [(.int .i64 0),(S []),(S []),(S [])]:=BT.mk' [(3,0,1),(9,1,1),(9,2,1),(9,3,1)] rfl kR kR rfl
instance fa128_0 : FA yd 128 0 0:=FA.mk' kR ti126 rfl
instance fv128_0 : FV yd 128 0 false 0 1:=FV.mk' kR ti126 rfl
instance fa128_1 : FA yd 128 1 1:=FA.mk' kR ti127 rfl
instance fv128_1 : FV yd 128 1 false 1 1:=FV.mk' kR ti127 rfl
instance fa129_0 : FA yd 129 0 0:=FA.mk' kR ti126 rfl
instance fv129_0 : FV yd 129 0 false 0 1:=FV.mk' kR ti126 rfl
instance fa129_1 : FA yd 129 1 1:=FA.mk' kR ti127 rfl
instance fv129_1 : FV yd 129 1 false 1 1:=FV.mk' kR ti127 rfl
instance : BT yd 129 [(0,1),(1,1)] [ax,(.map none)]:=BT.mk' [(126,0,1),(127,1,1)] rfl kR kR rfl
instance fa131_0 : FA yd 131 0 0:=FA.mk' kR ti5 rfl
instance fv131_0 : FV yd 131 0 false 0 1:=FV.mk' kR ti5 rfl
instance fa131_1 : FA yd 131 1 1:=FA.mk' kR ti9 rfl
instance fv131_1 : FV yd 131 1 false 1 1:=FV.mk' kR ti9 rfl
instance fa131_2 : FA yd 131 2 2:=FA.mk' kR ti130 rfl
instance fv131_2 : FV yd 131 2 false 2 1:=FV.mk' kR ti130 rfl
instance fa131_3 : FA yd 131 3 3:=FA.mk' kR ti9 rfl
instance fv131_3 : FV yd 131 3 false 3 1:=FV.mk' kR ti9 rfl
instance fa132_0 : FA yd 132 0 0:=FA.mk' kR ti5 rfl
instance fv132_0 : FV yd 132 0 false 0 1:=FV.mk' kR ti5 rfl
instance fa132_1 : FA yd 132 1 1:=FA.mk' kR ti9 rfl
instance fv132_1 : FV yd 132 1 false 1 1:=FV.mk' kR ti9 rfl
instance fa132_2 : FA yd 132 2 2:=FA.mk' kR ti130 rfl
instance fv132_2 : FV yd 132 2 false 2 1:=FV.mk' kR ti130 rfl
instance fa132_3 : FA yd 132 3 3:=FA.mk' kR ti9 rfl
instance fv132_3 : FV yd 132 3 false 3 1:=FV.mk' kR ti9 rfl
instance : BT yd 132 [(0,1),(1,1),(2,1),(3,1)] [(.int .u8 0),(S []),ax,(S [])]:=BT.mk' [(5,0,1),(9,1,1),(130,2,1),(9,3,1)] rfl kR kR rfl
instance fa133_0 : FA yd 133 0 0:=FA.mk' kR ti3 rfl
instance fv133_0 : FV yd 133 0 false 0 1:=FV.mk' kR ti3 rfl
instance fa133_1 : FA yd 133 1 1:=FA.mk' kR ti9 rfl
instance fv133_1 : FV yd 133 1 false 1 1:=FV.mk' kR ti9 rfl
instance fa133_2 : FA yd 133 2 2:=FA.mk' kR ti77 rfl
instance fv133_2 : FV yd 133 2 true 2 3:=FV.mk' kR ti77 rfl
instance fa133_3 : FA yd 133 3 5:=FA.mk' kR ti9 rfl
instance fv133_3 : FV yd 133 3 false 5 1:=FV.mk' kR ti9 rfl
instance fa134_0 : FA yd 134 0 0:=FA.mk' kR ti3 rfl
instance fv134_0 : FV yd 134 0 false 0 1:=FV.mk' kR ti3 rfl
instance fa134_1 : FA yd 134 1 1:=FA.mk' kR ti9 rfl
instance fv134_1 : FV yd 134 1 false 1 1:=FV.mk' kR ti9 rfl
instance fa134_2 : FA yd 134 2 2:=FA.mk' kR ti77 rfl
instance fv134_2 : FV yd 134 2 true 2 3:=FV.mk' kR ti77 rfl
instance fa134_3 : FA yd 134 3 5:=FA.mk' kR ti9 rfl
instance fv134_3 : FV yd 134 3 false 5 1:=FV.mk' kR ti9 rfl
instance : BT yd 134 [(0,1),(1,1),(2,3),(5,1)] [(.int .i64 0),(S []),(S []),(S []),(S []),(S [])]:=BT.mk' [(3,0,1),(9,1,1),(77,2,3),(9,5,1)] rfl kR kR rfl
instance fa137_0 : FA yd 137 0 0:=FA.mk' kR ti63 rfl
instance fv137_0 : FV yd 137 0 false 0 1:=FV.mk' kR ti63 rfl
instance fa137_1 : FA yd 137 1 1:=FA.mk' kR ti63 rfl
instance fv137_1 : FV yd 137 1 false 1 1:=FV.mk' kR ti63 rfl
instance fa137_2 : FA yd 137 2 2:=FA.mk' kR ti136 rfl
instance fv137_2 : FV yd 137 2 false 2 1:=FV.mk' kR ti136 rfl
instance fa138_0 : FA yd 138 0 0:=FA.mk' kR ti63 rfl
instance fv138_0 : FV yd 138 0 false 0 1:=FV.mk' kR ti63 rfl
instance fa138_1 : FA yd 138 1 1:=FA.mk' kR ti63 rfl
instance fv138_1 : FV yd 138 1 false 1 1:=FV.mk' kR ti63 rfl
instance fa138_2 : FA yd 138 2 2:=FA.mk' kR ti136 rfl
instance fv138_2 : FV yd 138 2 false 2 1:=FV.mk' kR ti136 rfl
instance : BT yd 138 [(0,1),(1,1),(2,1)] [(.pointer none),(.pointer none),(.map none)]:=BT.mk' [(63,0,1),(63,1,1),(136,2,1)] rfl kR kR rfl
instance fa146_0 : FA yd 146 0 0:=FA.mk' kR ti9 rfl
instance fv146_0 : FV yd 146 0 false 0 1:=FV.mk' kR ti9 rfl
instance fa146_1 : FA yd 146 1 1:=FA.mk' kR ti9 rfl
instance fv146_1 : FV yd 146 1 false 1 1:=FV.mk' kR ti9 rfl
instance fa146_2 : FA yd 146 2 2:=FA.mk' kR ti53 rfl
instance fv146_2 : FV yd 146 2 false 2 1:=FV.mk' kR ti53 rfl
instance fa146_3 : FA yd 146 3 3:=FA.mk' kR ti145 rfl
instance fv146_3 : FV yd 146 3 false 3 1:=FV.mk' kR ti145 rfl
instance fa147_0 : FA yd 147 0 0:=FA.mk' kR ti9 rfl
instance fv147_0 : FV yd 147 0 false 0 1:=FV.mk' kR ti9 rfl
instance fa147_1 : FA yd 147 1 1:=FA.mk' kR ti9 rfl
instance fv147_1 : FV yd 147 1 false 1 1:=FV.mk' kR ti9 rfl
instance fa147_2 : FA yd 147 2 2:=FA.mk' kR ti53 rfl
instance fv147_2 : FV yd 147 2 false 2 1:=FV.mk' kR ti53 rfl
instance fa147_3 : FA yd 147 3 3:=FA.mk' kR ti145 rfl
instance fv147_3 : FV yd 147 3 false 3 1:=FV.mk' kR ti145 rfl
instance fa160_0 : FA yd 160 0 0:=FA.mk' kR ti97 rfl
instance fv160_0 : FV yd 160 0 false 0 1:=FV.mk' kR ti97 rfl
instance fa160_1 : FA yd 160 1 1:=FA.mk' kR ti97 rfl
instance fv160_1 : FV yd 160 1 false 1 1:=FV.mk' kR ti97 rfl
instance fa160_2 : FA yd 160 2 2:=FA.mk' kR ti159 rfl
instance fv160_2 : FV yd 160 2 false 2 1:=FV.mk' kR ti159 rfl
instance fa161_0 : FA yd 161 0 0:=FA.mk' kR ti97 rfl
instance fv161_0 : FV yd 161 0 false 0 1:=FV.mk' kR ti97 rfl
instance fa161_1 : FA yd 161 1 1:=FA.mk' kR ti97 rfl
instance fv161_1 : FV yd 161 1 false 1 1:=FV.mk' kR ti97 rfl
instance fa161_2 : FA yd 161 2 2:=FA.mk' kR ti159 rfl
instance fv161_2 : FV yd 161 2 false 2 1:=FV.mk' kR ti159 rfl
instance : BT yd 161 [(0,1),(1,1),(2,1)] [ax,ax,ax]:=BT.mk' [(97,0,1),(97,1,1),(159,2,1)] rfl kR kR rfl
instance fa169_0 : FA yd 169 0 0:=FA.mk' kR ti63 rfl
instance fv169_0 : FV yd 169 0 false 0 1:=FV.mk' kR ti63 rfl
instance fa169_1 : FA yd 169 1 1:=FA.mk' kR ti9 rfl
instance fv169_1 : FV yd 169 1 false 1 1:=FV.mk' kR ti9 rfl
instance fa169_2 : FA yd 169 2 2:=FA.mk' kR ti4 rfl
instance fv169_2 : FV yd 169 2 false 2 1:=FV.mk' kR ti4 rfl
instance fa170_0 : FA yd 170 0 0:=FA.mk' kR ti63 rfl
instance fv170_0 : FV yd 170 0 false 0 1:=FV.mk' kR ti63 rfl
instance fa170_1 : FA yd 170 1 1:=FA.mk' kR ti9 rfl
instance fv170_1 : FV yd 170 1 false 1 1:=FV.mk' kR ti9 rfl
instance fa170_2 : FA yd 170 2 2:=FA.mk' kR ti4 rfl
instance fv170_2 : FV yd 170 2 false 2 1:=FV.mk' kR ti4 rfl
instance : BT yd 170 [(0,1),(1,1),(2,1)] [(.pointer none),(S []),(.bool false)]:=BT.mk' [(63,0,1),(9,1,1),(4,2,1)] rfl kR kR rfl
instance fa177_0 : FA yd 177 0 0:=FA.mk' kR ti176 rfl
instance fv177_0 : FV yd 177 0 false 0 1:=FV.mk' kR ti176 rfl
instance fa177_1 : FA yd 177 1 1:=FA.mk' kR ti22 rfl
instance fv177_1 : FV yd 177 1 false 1 1:=FV.mk' kR ti22 rfl
instance fa178_0 : FA yd 178 0 0:=FA.mk' kR ti176 rfl
instance fv178_0 : FV yd 178 0 false 0 1:=FV.mk' kR ti176 rfl
instance fa178_1 : FA yd 178 1 1:=FA.mk' kR ti22 rfl
instance fv178_1 : FV yd 178 1 false 1 1:=FV.mk' kR ti22 rfl
instance : BT yd 178 [(0,1),(1,1)] [(.pointer none),ax]:=BT.mk' [(176,0,1),(22,1,1)] rfl kR kR rfl
instance fa198_0 : FA yd 198 0 0:=FA.mk' kR ti97 rfl
instance fv198_0 : FV yd 198 0 false 0 1:=FV.mk' kR ti97 rfl
instance fa199_0 : FA yd 199 0 0:=FA.mk' kR ti97 rfl
instance fv199_0 : FV yd 199 0 false 0 1:=FV.mk' kR ti97 rfl
instance fa210_0 : FA yd 210 0 0:=FA.mk' kR ti9 rfl
instance fv210_0 : FV yd 210 0 false 0 1:=FV.mk' kR ti9 rfl
instance fa210_1 : FA yd 210 1 1:=FA.mk' kR ti9 rfl
instance fv210_1 : FV yd 210 1 false 1 1:=FV.mk' kR ti9 rfl
instance fa211_0 : FA yd 211 0 0:=FA.mk' kR ti9 rfl
instance fv211_0 : FV yd 211 0 false 0 1:=FV.mk' kR ti9 rfl
instance fa211_1 : FA yd 211 1 1:=FA.mk' kR ti9 rfl
instance fv211_1 : FV yd 211 1 false 1 1:=FV.mk' kR ti9 rfl
instance : BT yd 211 [(0,1),(1,1)] [(S []),(S [])]:=BT.mk' [(9,0,1),(9,1,1)] rfl kR kR rfl
instance fa224_0 : FA yd 224 0 0:=FA.mk' kR ti9 rfl
instance fv224_0 : FV yd 224 0 false 0 1:=FV.mk' kR ti9 rfl
instance fa224_1 : FA yd 224 1 1:=FA.mk' kR ti9 rfl
instance fv224_1 : FV yd 224 1 false 1 1:=FV.mk' kR ti9 rfl
instance fa225_0 : FA yd 225 0 0:=FA.mk' kR ti9 rfl
instance fv225_0 : FV yd 225 0 false 0 1:=FV.mk' kR ti9 rfl
instance fa225_1 : FA yd 225 1 1:=FA.mk' kR ti9 rfl
instance fv225_1 : FV yd 225 1 false 1 1:=FV.mk' kR ti9 rfl
instance : BT yd 225 [(0,1),(1,1)] [(S []),(S [])]:=BT.mk' [(9,0,1),(9,1,1)] rfl kR kR rfl
instance fa245_0 : FA yd 245 0 0:=FA.mk' kR ti5 rfl
instance fv245_0 : FV yd 245 0 false 0 1:=FV.mk' kR ti5 rfl
instance fa245_1 : FA yd 245 1 1:=FA.mk' kR ti5 rfl
instance fv245_1 : FV yd 245 1 false 1 1:=FV.mk' kR ti5 rfl
instance fa246_0 : FA yd 246 0 0:=FA.mk' kR ti5 rfl
instance fv246_0 : FV yd 246 0 false 0 1:=FV.mk' kR ti5 rfl
instance fa246_1 : FA yd 246 1 1:=FA.mk' kR ti5 rfl
instance fv246_1 : FV yd 246 1 false 1 1:=FV.mk' kR ti5 rfl
instance fa252_0 : FA yd 252 0 0:=FA.mk' kR ti17 rfl
instance fv252_0 : FV yd 252 0 false 0 1:=FV.mk' kR ti17 rfl
instance fa252_1 : FA yd 252 1 1:=FA.mk' kR ti17 rfl
instance fv252_1 : FV yd 252 1 false 1 1:=FV.mk' kR ti17 rfl
instance fa252_2 : FA yd 252 2 2:=FA.mk' kR ti17 rfl
instance fv252_2 : FV yd 252 2 false 2 1:=FV.mk' kR ti17 rfl
instance fa252_3 : FA yd 252 3 3:=FA.mk' kR ti9 rfl
instance fv252_3 : FV yd 252 3 false 3 1:=FV.mk' kR ti9 rfl
instance fa253_0 : FA yd 253 0 0:=FA.mk' kR ti17 rfl
instance fv253_0 : FV yd 253 0 false 0 1:=FV.mk' kR ti17 rfl
instance fa253_1 : FA yd 253 1 1:=FA.mk' kR ti17 rfl
instance fv253_1 : FV yd 253 1 false 1 1:=FV.mk' kR ti17 rfl
instance fa253_2 : FA yd 253 2 2:=FA.mk' kR ti17 rfl
instance fv253_2 : FV yd 253 2 false 2 1:=FV.mk' kR ti17 rfl
instance fa253_3 : FA yd 253 3 3:=FA.mk' kR ti9 rfl
instance fv253_3 : FV yd 253 3 false 3 1:=FV.mk' kR ti9 rfl
def tb : Tbl:=⟨12,694752535423897172541425910052127447119619907993843384236745504047478777839712,16,3584,210624683770850267685239975636753813250239785586282791195434516480,[(7,[(false,0,1),(false,1,1),(false,2,1),(false,3,1)]),(8,[(false,0,1),(false,1,1),(false,2,1),(false,3,1)]),(13,[(false,0,1),(false,1,1)]),(14,[(false,0,1),(false,1,1)]),(18,[(false,0,1)]),(19,[(false,0,1)]),(24,[(false,0,1),(false,1,1)]),(25,[(false,0,1),(false,1,1)]),(41,[(false,0,1),(false,1,1),(false,2,1)]),(42,[(false,0,1),(false,1,1),(false,2,1)]),(64,[(false,0,1),(false,1,1),(false,2,1),(false,3,1),(false,4,1)]),(65,[(false,0,1),(false,1,1),(false,2,1),(false,3,1),(false,4,1)]),(76,[(false,0,1),(false,1,1),(false,2,1)]),(77,[(false,0,1),(false,1,1),(false,2,1)]),(82,[(false,0,1),(false,1,1),(false,2,1),(false,3,1)]),(83,[(false,0,1),(false,1,1),(false,2,1),(false,3,1)]),(92,[(false,0,1),(false,1,1)]),(93,[(false,0,1),(false,1,1)]),(109,[(false,0,1),(false,1,1),(false,2,1)]),(110,[(false,0,1),(false,1,1),(false,2,1)]),(111,[(false,0,1),(false,1,1),(false,2,1),(false,3,1)]),(112,[(false,0,1),(false,1,1),(false,2,1),(false,3,1)]),(128,[(false,0,1),(false,1,1)]),(129,[(false,0,1),(false,1,1)]),(131,[(false,0,1),(false,1,1),(false,2,1),(false,3,1)]),(132,[(false,0,1),(false,1,1),(false,2,1),(false,3,1)]),(133,[(false,0,1),(false,1,1),(true,2,3),(false,5,1)]),(134,[(false,0,1),(false,1,1),(true,2,3),(false,5,1)]),(137,[(false,0,1),(false,1,1),(false,2,1)]),(138,[(false,0,1),(false,1,1),(false,2,1)]),(146,[(false,0,1),(false,1,1),(false,2,1),(false,3,1)]),(147,[(false,0,1),(false,1,1),(false,2,1),(false,3,1)]),(160,[(false,0,1),(false,1,1),(false,2,1)]),(161,[(false,0,1),(false,1,1),(false,2,1)]),(169,[(false,0,1),(false,1,1),(false,2,1)]),(170,[(false,0,1),(false,1,1),(false,2,1)]),(177,[(false,0,1),(false,1,1)]),(178,[(false,0,1),(false,1,1)]),(198,[(false,0,1)]),(199,[(false,0,1)]),(210,[(false,0,1),(false,1,1)]),(211,[(false,0,1),(false,1,1)]),(224,[(false,0,1),(false,1,1)]),(225,[(false,0,1),(false,1,1)]),(245,[(false,0,1),(false,1,1)]),(246,[(false,0,1),(false,1,1)]),(252,[(false,0,1),(false,1,1),(false,2,1),(false,3,1)]),(253,[(false,0,1),(false,1,1),(false,2,1),(false,3,1)])]⟩
theorem xD : qD yd tb.fl:=⟨⟨⟨fv7_0,fa7_0⟩,⟨fv7_1,fa7_1⟩,⟨fv7_2,fa7_2⟩,⟨fv7_3,fa7_3⟩,trivial⟩,⟨⟨fv8_0,fa8_0⟩,⟨fv8_1,fa8_1⟩,⟨fv8_2,fa8_2⟩,⟨fv8_3,fa8_3⟩,trivial⟩,⟨⟨fv13_0,fa13_0⟩,⟨fv13_1,fa13_1⟩,trivial⟩,⟨⟨fv14_0,fa14_0⟩,⟨fv14_1,fa14_1⟩,trivial⟩,⟨⟨fv18_0,fa18_0⟩,trivial⟩,⟨⟨fv19_0,fa19_0⟩,trivial⟩,⟨⟨fv24_0,fa24_0⟩,⟨fv24_1,fa24_1⟩,trivial⟩,⟨⟨fv25_0,fa25_0⟩,⟨fv25_1,fa25_1⟩,trivial⟩,⟨⟨fv41_0,fa41_0⟩,⟨fv41_1,fa41_1⟩,⟨fv41_2,fa41_2⟩,trivial⟩,⟨⟨fv42_0,fa42_0⟩,⟨fv42_1,fa42_1⟩,⟨fv42_2,fa42_2⟩,trivial⟩,⟨⟨fv64_0,fa64_0⟩,⟨fv64_1,fa64_1⟩,⟨fv64_2,fa64_2⟩,⟨fv64_3,fa64_3⟩,⟨fv64_4,fa64_4⟩,trivial⟩,⟨⟨fv65_0,fa65_0⟩,⟨fv65_1,fa65_1⟩,⟨fv65_2,fa65_2⟩,⟨fv65_3,fa65_3⟩,⟨fv65_4,fa65_4⟩,trivial⟩,⟨⟨fv76_0,fa76_0⟩,⟨fv76_1,fa76_1⟩,⟨fv76_2,fa76_2⟩,trivial⟩,⟨⟨fv77_0,fa77_0⟩,⟨fv77_1,fa77_1⟩,⟨fv77_2,fa77_2⟩,trivial⟩,⟨⟨fv82_0,fa82_0⟩,⟨fv82_1,fa82_1⟩,⟨fv82_2,fa82_2⟩,⟨fv82_3,fa82_3⟩,trivial⟩,⟨⟨fv83_0,fa83_0⟩,⟨fv83_1,fa83_1⟩,⟨fv83_2,fa83_2⟩,⟨fv83_3,fa83_3⟩,trivial⟩,⟨⟨fv92_0,fa92_0⟩,⟨fv92_1,fa92_1⟩,trivial⟩,⟨⟨fv93_0,fa93_0⟩,⟨fv93_1,fa93_1⟩,trivial⟩,⟨⟨fv109_0,fa109_0⟩,⟨fv109_1,fa109_1⟩,⟨fv109_2,fa109_2⟩,trivial⟩,⟨⟨fv110_0,fa110_0⟩,⟨fv110_1,fa110_1⟩,⟨fv110_2,fa110_2⟩,trivial⟩,⟨⟨fv111_0,fa111_0⟩,⟨fv111_1,fa111_1⟩,⟨fv111_2,fa111_2⟩,⟨fv111_3,fa111_3⟩,trivial⟩,⟨⟨fv112_0,fa112_0⟩,⟨fv112_1,fa112_1⟩,⟨fv112_2,fa112_2⟩,⟨fv112_3,fa112_3⟩,trivial⟩,⟨⟨fv128_0,fa128_0⟩,⟨fv128_1,fa128_1⟩,trivial⟩,⟨⟨fv129_0,fa129_0⟩,⟨fv129_1,fa129_1⟩,trivial⟩,⟨⟨fv131_0,fa131_0⟩,⟨fv131_1,fa131_1⟩,⟨fv131_2,fa131_2⟩,⟨fv131_3,fa131_3⟩,trivial⟩,⟨⟨fv132_0,fa132_0⟩,⟨fv132_1,fa132_1⟩,⟨fv132_2,fa132_2⟩,⟨fv132_3,fa132_3⟩,trivial⟩,⟨⟨fv133_0,fa133_0⟩,⟨fv133_1,fa133_1⟩,⟨fv133_2,fa133_2⟩,⟨fv133_3,fa133_3⟩,trivial⟩,⟨⟨fv134_0,fa134_0⟩,⟨fv134_1,fa134_1⟩,⟨fv134_2,fa134_2⟩,⟨fv134_3,fa134_3⟩,trivial⟩,⟨⟨fv137_0,fa137_0⟩,⟨fv137_1,fa137_1⟩,⟨fv137_2,fa137_2⟩,trivial⟩,⟨⟨fv138_0,fa138_0⟩,⟨fv138_1,fa138_1⟩,⟨fv138_2,fa138_2⟩,trivial⟩,⟨⟨fv146_0,fa146_0⟩,⟨fv146_1,fa146_1⟩,⟨fv146_2,fa146_2⟩,⟨fv146_3,fa146_3⟩,trivial⟩,⟨⟨fv147_0,fa147_0⟩,⟨fv147_1,fa147_1⟩,⟨fv147_2,fa147_2⟩,⟨fv147_3,fa147_3⟩,trivial⟩,⟨⟨fv160_0,fa160_0⟩,⟨fv160_1,fa160_1⟩,⟨fv160_2,fa160_2⟩,trivial⟩,⟨⟨fv161_0,fa161_0⟩,⟨fv161_1,fa161_1⟩,⟨fv161_2,fa161_2⟩,trivial⟩,⟨⟨fv169_0,fa169_0⟩,⟨fv169_1,fa169_1⟩,⟨fv169_2,fa169_2⟩,trivial⟩,⟨⟨fv170_0,fa170_0⟩,⟨fv170_1,fa170_1⟩,⟨fv170_2,fa170_2⟩,trivial⟩,⟨⟨fv177_0,fa177_0⟩,⟨fv177_1,fa177_1⟩,trivial⟩,⟨⟨fv178_0,fa178_0⟩,⟨fv178_1,fa178_1⟩,trivial⟩,⟨⟨fv198_0,fa198_0⟩,trivial⟩,⟨⟨fv199_0,fa199_0⟩,trivial⟩,⟨⟨fv210_0,fa210_0⟩,⟨fv210_1,fa210_1⟩,trivial⟩,⟨⟨fv211_0,fa211_0⟩,⟨fv211_1,fa211_1⟩,trivial⟩,⟨⟨fv224_0,fa224_0⟩,⟨fv224_1,fa224_1⟩,trivial⟩,⟨⟨fv225_0,fa225_0⟩,⟨fv225_1,fa225_1⟩,trivial⟩,⟨⟨fv245_0,fa245_0⟩,⟨fv245_1,fa245_1⟩,trivial⟩,⟨⟨fv246_0,fa246_0⟩,⟨fv246_1,fa246_1⟩,trivial⟩,⟨⟨fv252_0,fa252_0⟩,⟨fv252_1,fa252_1⟩,⟨fv252_2,fa252_2⟩,⟨fv252_3,fa252_3⟩,trivial⟩,⟨⟨fv253_0,fa253_0⟩,⟨fv253_1,fa253_1⟩,⟨fv253_2,fa253_2⟩,⟨fv253_3,fa253_3⟩,trivial⟩,trivial⟩
instance : Tab yd tb:=Tab.mk' 264 kR kR kR kR kR xD
theorem ak : yd.follows .mixedOrders = true:=by kernel_rfl
section
variable {n : Nat} {D : List Deferred} {E : a8} {B : Base} {G : Gh} {L : List Own} {k : List Fr} {Q : Exit → Act → World → Prop} {K : Act → World → Prop}
theorem jT [PQ Q] {ops : List Oper} {G0 : Gh} {L0 : List Own} (fuel : Nat) (is : List Nat) {E' : a8} {p' : List Prop} {fuel' : Nat} {listed : Array Bool} (listed' : Array Bool) (hn : Nx n D E' B G L (xA yd ops.toArray Q (bB B G0 L0) fuel listed'))
    (hf : Nat.beq (fuel + is.length) fuel' = true:=by exact F) (h : fT tb n ops is E [] = some (E',p'):=by exact F) (hsel : Region.noSelect ops.toArray = true:=by kernel_rfl) (hb : jv ops.toArray is listed listed' = true:=by kernel_rfl)
    (hG : Gh.le G0 G:=by first | exact Gh.le.refl _ | assumption) (hL : L0.Sublist L:=by repeat (first | exact List.Sublist.refl _ | exact List.nil_sublist _ | apply List.Sublist.cons_cons | apply List.Sublist.cons)) (hp : fS p':=by exact trivial) : Nx n D E B G L (xA yd ops.toArray Q (bB B G0 L0) fuel' listed):=qd is listed' hsel hb hf h hG hL hp hn
theorem jU [PQ Q] {ops : List Oper} {G0 : Gh} {L0 : List Own} (fuel : Nat) (is : List Nat) {E' : a8} {p' : List Prop} {fuel' : Nat} {listed : Array Bool} (listed' : Array Bool) (hp : fS p') (hn : Nx n D E' B G L (xA yd ops.toArray Q (bB B G0 L0) fuel listed'))
    (hf : Nat.beq (fuel + is.length) fuel' = true:=by exact F) (h : fT tb n ops is E [] = some (E',p'):=by exact F) (hsel : Region.noSelect ops.toArray = true:=by kernel_rfl) (hb : jv ops.toArray is listed listed' = true:=by kernel_rfl)
    (hG : Gh.le G0 G:=by first | exact Gh.le.refl _ | assumption) (hL : L0.Sublist L:=by repeat (first | exact List.Sublist.refl _ | exact List.nil_sublist _ | apply List.Sublist.cons_cons | apply List.Sublist.cons)) : Nx n D E B G L (xA yd ops.toArray Q (bB B G0 L0) fuel' listed):=qd is listed' hsel hb hf h hG hL hp hn
theorem jN {ops : List Oper} {G0 : Gh} {L0 : List Own} {fuel : Nat} {listed : Array Bool} (listed' : Array Bool) [PQ Q] (i : Nat) {o : Oper} {d : Nat} (hi : ops.toArray[i]? = some o)
    (k : Nx n D ((d,undef) :: E) B G L (xA yd ops.toArray Q (bB B G0 L0) fuel listed')) (hb : kT ops.toArray listed i listed' = true:=by kernel_rfl) (hgu : oC E ops o = some false:=by exact F) (hG : Gh.le G0 G:=by first | exact Gh.le.refl _ | assumption) (hL : L0.Sublist L:=by repeat (first | exact List.Sublist.refl _ | exact List.nil_sublist _ | apply List.Sublist.cons_cons | apply List.Sublist.cons)) (hd : o.dst = some d:=by exact F) (hlt : Nat.blt d n = true:=by exact F) :
    Nx n D E B G L (xA yd ops.toArray Q (bB B G0 L0) (fuel + 1) listed):=tj listed' i hi hb hgu hG hL hd hlt k
theorem jG {ops : List Oper} {G0 : Gh} {L0 : List Own} {fuel : Nat} {listed : Array Bool} (listed' : Array Bool) [PQ Q] (i : Nat) {o : Oper} {d : Nat} {v : Value} (hi : ops.toArray[i]? = some o) (hg : Gives yd n D E (bB B G0 L0) o v)
    (k : Nx n D ((d,v) :: E) B G L (xA yd ops.toArray Q (bB B G0 L0) fuel listed')) (hb : kT ops.toArray listed i listed' = true:=by kernel_rfl) (hgu : oC E ops o = some true:=by exact F) (hG : Gh.le G0 G:=by first | exact Gh.le.refl _ | assumption) (hL : L0.Sublist L:=by repeat (first | exact List.Sublist.refl _ | exact List.nil_sublist _ | apply List.Sublist.cons_cons | apply List.Sublist.cons)) (hd : o.dst = some d:=by exact F) (hlt : Nat.blt d n = true:=by exact F) :
    Nx n D E B G L (xA yd ops.toArray Q (bB B G0 L0) (fuel + 1) listed):=qe listed' i hi hb hgu hG hL hg hd hlt k
theorem jV {o : Oper} {d : Nat} {v : Value} (hg : Gives yd n D E (St B G L) o v) (k : Nx n D ((d,v) :: E) B G L K) (hd : o.dst = some d:=by exact F) (hlt : Nat.blt d n = true:=by exact F) : Nx n D E B G L (ow yd o Q K):=hO hg hd hlt k
theorem jR {E' : a8} {c c' : Cu} {k k' : List Fr} {p' : List Prop} (hn : Nx n D E' B G L (cu yd c' k' Q)) (h : nV tb n 400 E c k = some ⟨E',c',k',p'⟩:=by exact F) (hp : fS p':=by exact trivial) : Nx n D E B G L (cu yd c k Q):=run 400 h hp hn
theorem jM {E' : a8} {c c' : Cu} {k k' : List Fr} {p' : List Prop} (hn : Nx n D E' B G L (cu yd c' k' Q)) (h : nV tb n 400 E c k = some ⟨E',c',k',p'⟩:=by exact F) (hp : fS p':=by (repeat' (first | exact trivial | apply And.intro | omega));done) : Nx n D E B G L (cu yd c k Q):=run 400 h hp hn
theorem jE {f : FuncId} {fn : Func} {c : Code} {args : List Value} {R : Value → Prop} (E0 : a8) (hf : yd.funcs[f]? = some fn) (hn : fn.ntmps = n)
    (h : ∀ B,B.W = [] → Nx n [] E0 B G [] (cu yd (.code c) [] (bp yd fn (dt B (fun v G' L'=>G' = G ∧ L' = [] ∧ R v))))) (hb : fn.body = some c:=by exact F) (hok : dp yd f = true:=by kernel_rfl) (hlen : Nat.ble args.length n = true:=by exact F) (hE : fE E0 (params 0 args):=by repeat' constructor) : aI yd f args G R:=t8 E0 hf hok hn hb hlen hE h
theorem jB {f : FuncId} {fn : Func} {c : Code} {args : List Value} {Post : Value → Gh → List Own → Prop} (E0 : a8) (hf : yd.funcs[f]? = some fn) (hn : fn.ntmps = n)
    (h : ∀ B,BOk B → B.G = G → B.W = bO L → Nx n [] E0 B G L (cu yd (.code c) [] (bp yd fn (dt B Post)))) (hb : fn.body = some c:=by exact F) (hok : dp yd f = true:=by kernel_rfl) (hlen : Nat.ble args.length n = true:=by exact F) (hE : fE E0 (params 0 args):=by repeat' constructor) : Fn yd f args G L Post:=uM E0 hf hok hn hb hlen hE h
theorem jH {f : FuncId} {fn : Func} {c : Code} {args : List Value} {R : Value → List Own → Prop} (E0 : a8) (hf : yd.funcs[f]? = some fn) (hn : fn.ntmps = n)
    (h : ∀ B,B.G = G → B.W = bO L → Nx n [] E0 B G L (cu yd (.code c) [] (bp yd fn (dt B (fun v G' L'=>G' = G ∧ R v L'))))) (hb : fn.body = some c:=by exact F) (hok : dp yd f = true:=by kernel_rfl) (hlen : Nat.ble args.length n = true:=by exact F) (hE : fE E0 (params 0 args):=by repeat' constructor) : cg yd f args G L R:=um E0 hf hok hn hb hlen hE h
theorem jK {ops : Array Oper} {G0 : Gh} {L0 : List Own} {fuel : Nat} {listed : Array Bool} (listed' : Array Bool) (h : Nx n D E B G L (xA yd ops Q (bB B G0 L0) fuel listed')) (hG : Gh.le G0 G:=by first | exact Gh.le.refl _ | assumption) (hL : L0.Sublist L:=by repeat (first | exact List.Sublist.refl _ | exact List.nil_sublist _ | apply List.Sublist.cons_cons | apply List.Sublist.cons)) (hl : (listed == listed') = true:=by kernel_rfl) : Nx n D E B G L (xK yd ops Q (bB B G0 L0) fuel listed):=xB hG hL hl h
theorem jS {ops : Array Oper} {G0 : Gh} {L0 : List Own} {fuel : Nat} {listed : Array Bool} (listed' : Array Bool) (h : Nx n D E B G L (xA yd ops Q (bB B G L) fuel listed')) (hG : Gh.le G0 G:=by first | exact Gh.le.refl _ | assumption) (hL : L0.Sublist L:=by repeat (first | exact List.Sublist.refl _ | exact List.nil_sublist _ | apply List.Sublist.cons_cons | apply List.Sublist.cons)) (hl : (listed == listed') = true:=by kernel_rfl) : Nx n D E B G L (xK yd ops Q (bB B G0 L0) fuel listed):=xz hG hL hl h
theorem jA {ops : List Oper} {S : World → Prop} {fuel : Nat} {listed : Array Bool} (i : Nat) {o : Oper} (hi : ops.toArray[i]? = some o) (h : Nx n D E B G L (ow yd o Q (xK yd ops.toArray Q S fuel (listed.setIfInBounds i true)))) (hr : Region.ready .any ops.toArray listed = [i]:=by kernel_rfl) (hgu : oC E ops o = some true:=by exact F) : Nx n D E B G L (xA yd ops.toArray Q S (fuel + 1) listed) :=
  bY [i] hr (by simp) ⟨a5 hi hgu h,trivial⟩
theorem jZ {fn : Func} {rs : List ResultVar} {vs : List Value} {v : Value} {L' : List Own} {Post : Value → Gh → List Own → Prop} (hr : fn.results = rs.toArray) (h : ii yd (St B G L) E rs vs) (hv : eN vs = v) (hP : Post v G L')
    (hL : L'.Sublist L:=by exact List.nil_sublist _) : Nx n [] E B G L (cu yd (.exit .ret) [] (bp yd fn (dt B Post))):=aM hr h hv hL hP
theorem jX {E' : a8} {c c' : Cu} {k k' : List Fr} {p' : List Prop} (hn : Nx n D E' B G L (cu yd c' k' Q)) (h : nV tb n 400 E c k = some ⟨E',c',k',p'⟩:=by exact F) (hp : fS p':=by (repeat' (first | exact trivial | apply And.intro | omega | assumption | (simp only [List.length_append,List.length_cons,List.length_nil,Int.toNat_natCast];omega) | (simp only [List.length_append,List.length_cons,List.length_nil,List.length_take,List.length_drop];omega) | (with_reducible exact (nN _ _).1) | (with_reducible exact (nN _ _).2)));done) : Nx n D E B G L (cu yd c k Q):=run 400 h hp hn
theorem jW [PQ Q] {ops : List Oper} {G0 : Gh} {L0 : List Own} (fuel : Nat) (is : List Nat) {E' : a8} {p' : List Prop} {fuel' : Nat} {listed : Array Bool} (listed' : Array Bool) (hn : Nx n D E' B G L (xA yd ops.toArray Q (bB B G0 L0) fuel listed'))
    (hf : Nat.beq (fuel + is.length) fuel' = true:=by exact F) (h : fT tb n ops is E [] = some (E',p'):=by exact F) (hsel : Region.noSelect ops.toArray = true:=by kernel_rfl) (hb : jv ops.toArray is listed listed' = true:=by kernel_rfl)
    (hG : Gh.le G0 G:=by first | exact Gh.le.refl _ | assumption) (hL : L0.Sublist L:=by repeat (first | exact List.Sublist.refl _ | exact List.nil_sublist _ | apply List.Sublist.cons_cons | apply List.Sublist.cons)) (hp : fS p':=by (repeat' (first | exact trivial | apply And.intro | omega | assumption | (simp only [List.length_append,List.length_cons,List.length_nil,Int.toNat_natCast];omega) | (simp only [List.length_append,List.length_cons,List.length_nil,List.length_take,List.length_drop];omega) | (with_reducible exact (nN _ _).1) | (with_reducible exact (nN _ _).2)));done) : Nx n D E B G L (xA yd ops.toArray Q (bB B G0 L0) fuel' listed):=qd is listed' hsel hb hf h hG hL hp hn
section
variable {d : Nat} {ty : TypeId} {pos : String} {aft : Array Edge} {gd : Option (Nat × Bool)} {K2 : Act → World → Prop}
theorem am {T T0 : TypeId} {x : Operand} {desc : TypeDesc} {size bytes : Nat} {zero : Value} {b o : Nat} {v : Value} {cs : List Value} {fr : Nat × Nat} [TI yd T desc size bytes zero] [BlkI L b cs T0 fr] (hx : ev E x = some (Pt b o)) (k : Nx n D ((d,v) :: E) B G L K)
    (ha : cD desc = false:=by exact F) (hc : cs[o]? = some v:=by exact F) (hlt : Nat.blt d n = true:=by exact F) : Nx n D E B G L (ow yd ⟨some d,.load T x,ty,pos,aft,gd⟩ Q K):=hO (aD hx ha hc) F hlt k
theorem aZ {T T0 : TypeId} {x : Operand} {desc : TypeDesc} {size bytes : Nat} {zero : Value} {b o : Nat} {vs : List Value} {cs : List Value} {fr : Nat × Nat} [TI yd T desc size bytes zero] [BlkI L b cs T0 fr] (hx : ev E x = some (Pt b o)) (k : Nx n D ((d,Ag vs) :: E) B G L K)
    (ha : cD desc = true:=by exact F) (hc : iG cs o size = some vs:=by exact F) (hl : Nat.beq vs.length size = true:=by exact F) (hlt : Nat.blt d n = true:=by exact F) : Nx n D E B G L (ow yd ⟨some d,.load T x,ty,pos,aft,gd⟩ Q K):=hO (bJ hx ha hc hl) F hlt k
theorem aV {c x y : Operand} {b : Bool} {v : Value} (hc : ev E c = some (.bool b)) (k : Nx n D ((d,v) :: E) B G L K) (hx : ev E x = some v:=by exact F) (hb : b = true:=by exact F) (hlt : Nat.blt d n = true:=by exact F) : Nx n D E B G L (ow yd ⟨some d,.pick c x y,ty,pos,aft,gd⟩ Q K):=hO (bL hc hx hb) F hlt k
theorem aG {c x y : Operand} {b : Bool} {v : Value} (hc : ev E c = some (.bool b)) (k : Nx n D ((d,v) :: E) B G L K) (hy : ev E y = some v:=by exact F) (hb : b = false:=by exact F) (hlt : Nat.blt d n = true:=by exact F) : Nx n D E B G L (ow yd ⟨some d,.pick c x y,ty,pos,aft,gd⟩ Q K):=hO (aP hc hy hb) F hlt k
theorem jC {T T0 : TypeId} {x y : Operand} {desc : TypeDesc} {size bytes : Nat} {zero : Value} {b o : Nat} {cs vs cs' : List Value} {fr : Nat × Nat} {L' : List Own} [TI yd T desc size bytes zero] [BlkI L b cs T0 fr] [hu : UpdI b cs' L cs T0 L'] (hx : ev E x = some (Pt b o)) (hy : ev E y = some (Ag vs)) (hp : eS cs o vs = some cs') (k : Nx n D E B G L' K)
    (hl : Nat.beq vs.length size = true:=by exact F) (hne : vs.isEmpty = false:=by exact F) (h1 : eX vs = true:=by exact F) : Nx n D E B G L (ow yd ⟨none,.store T x y,ty,pos,aft,gd⟩ Q K):=wS hx hy hl hne h1 hp k
theorem jD {T T0 : TypeId} {x y : Operand} {desc : TypeDesc} {bytes : Nat} {zero v : Value} {b o : Nat} {cs cs' : List Value} {fr : Nat × Nat} {L' : List Own} [TI yd T desc 1 bytes zero] [BlkI L b cs T0 fr] [hu : UpdI b cs' L cs T0 L'] (hx : ev E x = some (Pt b o)) (hy : ev E y = some v) (hp : eS cs o [v] = some cs') (k : Nx n D E B G L' K) (h1 : v.oneCell' = true:=by exact F) : Nx n D E B G L (ow yd ⟨none,.store T x y,ty,pos,aft,gd⟩ Q K):=wT hx hy h1 hp k
end
theorem jY {fn : Func} {rs : List ResultVar} {vs : List Value} {R : Value → Prop} (hP : R (eN vs)) (hr : fn.results = rs.toArray:=by exact F) (h : ii yd (St B G L) E rs vs:=by repeat' (first | exact trivial | refine ⟨F,?_⟩)) : Nx n [] E B G L (cu yd (.exit .ret) [] (bp yd fn (dt B (fun v G' L'=>G' = G ∧ L' = [] ∧ R v)))):=aM hr h F (List.nil_sublist _) ⟨F,F,hP⟩
theorem jo {a l : List Oper} {i : Nat} {pm : List Nat} {o : Oper} (h : Nx n D E B G L (ow yd o (kk yd k Q) (cu yd (.ops a l (i + 1) pm) k Q))) (hg : k8 E a pm o = some true:=by exact F) : Nx n D E B G L (cu yd (.ops a (o :: l) i pm) k Q):=qx hg h
section
variable {d : Nat} {ty : TypeId} {pos : String} {aft : Array Edge} {gd : Option (Nat × Bool)}
theorem jF {T el : TypeId} {len : Nat} {ps : List (Nat × Operand)} {qs : List (Nat × List Value)} {desc : TypeDesc} {size bytes size' bytes' : Nat} {zero zero' : Value} {zs cs : List Value} [TI yd T (.slice el) size' bytes' zero'] [TI yd el desc size bytes zero] (k : ∀ b,Nx n D ((d,.slice (some ⟨b,0,none⟩) len len) :: E) B G (.blk b (.cells cs.toArray el (0,0)) :: L) K) (hz : dH zero = some zs:=by exact F)
    (hsz : Nat.beq zs.length size = true:=by exact F) (he : nz E ps = some qs:=by exact F) (hf : mz (gi (mH size) (bx zs len) qs) = some cs:=by exact F) (hsm : Nat.ble (len * size) 16777216 = true:=by exact F) (hlt : Nat.blt d n = true:=by exact F) : Nx n D E B G L (ow yd ⟨some d,.buildSlice T len ps.toArray,ty,pos,aft,gd⟩ Q K):=w6 hz hsz hsm hlt he hf k
theorem jL {T : TypeId} {desc : TypeDesc} {size bytes : Nat} {zero : Value} {cs : List Value} [TI yd T desc size bytes zero] (k : ∀ b,Nx n D ((d,Pt b 0) :: E) B G (.blk b (.cells cs.toArray T (0,0)) :: L) K) (hz : dH zero = some cs:=by exact F) (hlt : Nat.blt d n = true:=by exact F) : Nx n D E B G L (ow yd ⟨some d,.alloc T,ty,pos,aft,gd⟩ Q K):=xU hz hlt k
theorem jO {T : TypeId} {x : Operand} {v : Value} {cs : List Value} (k : ∀ b,Nx n D ((d,Pt b 0) :: E) B G (.blk b (.cells cs.toArray T (0,0)) :: L) K) (hx : ev E x = some v:=by exact F) (hz : dH v = some cs:=by exact F) (hlt : Nat.blt d n = true:=by exact F) : Nx n D E B G L (ow yd ⟨some d,.box T x,ty,pos,aft,gd⟩ Q K):=xT hx hz hlt k
end
theorem jQ {ops : Array Oper} {S : World → Prop} {fuel : Nat} {listed : Array Bool} (h : Nx n D E B G L (cu yd (.exit .normal) k Q)) (hr : Region.ready .any ops listed = []:=by kernel_rfl) : Nx n D E B G L (xA yd ops (kk yd k Q) S fuel listed):=uP hr (xR h)
theorem zA {α : Type _} {a : α} {l m : List α} : a :: l ++ m = a :: (l ++ m):=rfl
theorem fA {α : Type _} {l : List α} : [] ++ l = l:=rfl
end
set_option maxRecDepth 20000
set_option maxHeartbeats 2000000
def num (n : Nat) : ye:=if h : n < 128 then [u8 n] else u8 (128 + n % 128 : Nat) :: num (n / 128)
termination_by n
decreasing_by omega
def vj (n : Int) : ye:=num n.toNat
def u5 (n : Int) : ye → Int
 | []=>n
 | c :: l=>u5 ((n * 31 + (c.toNat : Int)) % 9973) l
def xN (l : ye) : Int:=u5 1 l
theorem kN {l : ye} {i : Nat} (h : i < l.length) : ∃ c : UInt8,l.drop i = c :: l.drop (i + 1) ∧ bt l i = c.toNat:=by
 refine ⟨l[i],(List.getElem_cons_drop (h:=h)).symm,?_⟩
 simp [bt,List.getD,List.getElem?_eq_getElem h]
def frame (s : ye) : ye:=[u8 126] ++ vj s.length ++ s ++ vj (xN s)
variable {G : Gh}
theorem wa {n lo hi : Int} : aI yd 72 [I n,I lo,I hi] G (· = Bo (decide (lo ≤ n) && decide (n ≤ hi))):=by
 refine jE [(0,_),(1,_),(2,_)] Tryz.func72 Tryz.ntmps72 fun B hB=>?_
 repeat' (first | refine jR ?_ | (refine jo ?_;first | refine aV F ?_ | refine aG F ?_) | refine dm F F (fun _=>?_) (fun _=>?_))
 all_goals refine jY (vs:=[_]) ?_
 all_goals (rw [aH];simp [*])
def mN (xs : List ye) : List Value:=xs.map fun x=>S x
theorem nf (xs : List ye) (x : ye) : mN (xs ++ [x]) = mN xs ++ [S x]:=by simp [mN]
abbrev qj : TypeId:=9
theorem a6 {α : Type} [Inhabited α] {a : List α} {i : Nat} (h : i < a.length) : ac a i ∈ a:=by rw [bW h];exact List.getElem_mem h
theorem gq {α : Type} [Inhabited α] {a : List α} {x : α} (h : x ∈ a) : ∃ i,i < a.length ∧ ac a i = x:=by
 obtain ⟨i,hi,e⟩:=List.mem_iff_getElem.1 h
 exact ⟨i,hi,by rw [bW hi,e]⟩
theorem mn (p s : ye) : p.isPrefixOf s = decide (p.length ≤ s.length ∧ s.take p.length = p):=by
 by_cases h : p <+: s
 ·have h1:=List.isPrefixOf_iff_prefix.2 h
  rw [h1];obtain ⟨r,rfl⟩:=h;simp
 ·have h1 : p.isPrefixOf s = false:=by
   cases hb : p.isPrefixOf s with
   | false=>rfl
   | true=>exact absurd (List.isPrefixOf_iff_prefix.1 hb) h
  rw [h1];symm;refine decide_eq_false fun ⟨_,h3⟩=>h ?_
  rw [← h3];exact List.take_prefix _ _
theorem fD {s p : ye} : aI yd 164 [S s,S p] G (· = Bo (p.isPrefixOf s)):=by
 rw [mn]
 refine jE [(0,_),(1,_)] Tryz.func164 Tryz.ntmps164 fun B hB=>?_
 repeat' (first | refine jM ?_ | (refine jo ?_;first | refine aV F ?_ | refine aG F ?_) | refine dm F F (fun _=>?_) (fun _=>?_))
 all_goals refine jY (vs:=[_]) ?_
 all_goals (rw [aH];simp;omega)
theorem fW {s p : ye} : aI yd 124 [S s,S p] G (· = Bo (p.isPrefixOf s)):=by
 refine jE [(0,_),(1,_)] Tryz.func124 Tryz.ntmps124 fun B hB=>?_
 repeat' (first | refine jR ?_ | (refine jo ?_;refine ad F F F fD F ?_))
 all_goals refine jY (vs:=[_]) ?_
 all_goals rfl
def gX (c : UInt8) : Bool:=decide (97 ≤ c.toNat ∧ c.toNat ≤ 122)
def bH (s : ye) : Bool:=s.all gX && decide (1 ≤ s.length ∧ s.length ≤ 3)
def dV : ye → Bool
 | []=>false
 | c :: r=>if c.toNat = 91 ∨ c.toNat = 63 then dV r
  else if c.toNat = 64 then decide (((bt (c :: r) r.length : Nat) : Int) = 59) && bH (r.take (r.length - 1))
  else decide (r = []) && (decide (c.toNat = 110) || decide (c.toNat = 116) || decide (c.toNat = 102))
def be (s : ye) : Bool:=decide (s.length ≤ 12) && dV s
def ay : ye → ye
 | []=>[]
 | c :: r=>if c.toNat = 91 ∨ c.toNat = 63 then ay r else c :: r
theorem pK {s : ye} {i : Nat} (h : i < s.length) (h2 : ¬ (97 ≤ bt s i ∧ bt s i ≤ 122)) : bH s = false:=by
 have e : bt s i = (s[i]).toNat:=by simp [bt,List.getD,List.getElem?_eq_getElem h]
 have : s.all gX = false:=by
  rw [List.all_eq_false]
  exact ⟨s[i],List.getElem_mem h,by rw [e] at h2;simpa [gX] using h2⟩
 rw [bH,this,Bool.false_and]
theorem sF {s : ye} (h : ∀ i,i < s.length → 97 ≤ bt s i ∧ bt s i ≤ 122) : bH s = decide (1 ≤ s.length ∧ s.length ≤ 3):=by
 have : s.all gX = true:=by
  rw [List.all_eq_true]
  intro c hc
  obtain ⟨i,hi,rfl⟩:=List.mem_iff_getElem.1 hc
  have e : bt s i = (s[i]).toNat:=by simp [bt,List.getD,List.getElem?_eq_getElem hi]
  have:=h i hi
  rw [e] at this
  simpa [gX] using this
 rw [bH,this,Bool.true_and]
theorem fL {s : ye} (h : bH s = true) : s.length ≤ 3:=by
 unfold bH at h;simp only [Bool.and_eq_true,decide_eq_true_eq] at h;exact h.2.2
def nE (n : Nat) : ye:=if h : n < 10 then [u8 (48 + n : Nat)] else nE (n / 10) ++ [u8 (48 + n % 10 : Nat)]
termination_by n
decreasing_by omega
def a7 (n : Int) : ye:=nE n.toNat
theorem cK {n : Int} (h : n < 10) (h0 : 0 ≤ n) : a7 n = [u8 (48 + n)]:=by
 unfold a7;rw [nE,dif_pos oM];congr 1;congr 1;omega
theorem gu {n : Int} (h : ¬ n < 10) : a7 n = a7 (n / 10) ++ [u8 (48 + n % 10)]:=by
 unfold a7;rw [nE,dif_neg oM]
 have e1 : n.toNat / 10 = (n / 10).toNat:=oM
 have e2 : ((48 + n.toNat % 10 : Nat) : Int) = 48 + n % 10:=oM
 rw [e1,e2]
theorem pR (n : Nat) : ∀ k,n < 10 ^ (k + 1) → (nE n).length ≤ k + 1:=by
 intro k
 induction k generalizing n with
 | zero=>intro h;rw [nE,dif_pos (by simpa using h)];simp
 | succ k ih =>
  intro h
  by_cases h1 : n < 10
  ·rw [nE,dif_pos h1];simp
  ·rw [nE,dif_neg h1]
   have:=ih (n / 10) (Nat.div_lt_of_lt_mul (by rw [Nat.pow_succ] at h;omega))
   simp;omega
theorem fO {n : Int} (h : n ≤ 9223372036854775807) : (a7 n).length ≤ 19:=pR _ 18 oM
theorem dR {s : ye} (h : s.length ≤ 9000000000000000000) : aI yd 70 [S s] G (· = Bo (bH s)):=by
 refine jE [(0,_)] Tryz.func70 Tryz.ntmps70 fun B hB=>?_
 repeat' (refine jR ?_)
 refine aT (ι:=Nat) (fun i=>i ≤ s.length ∧ ∀ k,k < i → 97 ≤ bt s k ∧ bt s k ≤ 122) (fun i=>[(0,S s),(3,I i)]) (fun _=>G) (fun i=>[]) (fun i=>s.length - i) 0 ?_ tU F bd (fun i Hi=>?_)
 ·exact ⟨oM,fun k hk=>absurd hk oM⟩
 by_cases hi : i < s.length
 ·repeat' (first | refine jM ?_ | (refine jo ?_;first | refine aV F ?_ | refine aG F ?_) | refine dm F F (fun _=>?_) (fun _=>?_) | (refine ae F (by first | rfl | (refine decide_eq_true ?_;(omega))) ?_) | refine cz F (fun _=>?_) (fun _=>?_))
  ·rename_i hc
   refine jY (vs:=[_]) ?_
   have hc : ((bt s i : Nat) : Int) < 97:=hc
   rw [aH,pK hi oM]
  ·rename_i _ hc
   refine jY (vs:=[_]) ?_
   have hc : (122 : Int) < ((bt s i : Nat) : Int):=hc
   rw [aH,pK hi oM]
  ·rename_i h1 h2
   have h1 : ¬ ((bt s i : Nat) : Int) < 97:=h1
   have h2 : ¬ (122 : Int) < ((bt s i : Nat) : Int):=h2
   refine aW (i + 1) ⟨oM,fun k hk=>?_⟩ oM tU F bd
   rcases Nat.lt_or_ge k i with h3 | h3
   ·exact Hi.2 k h3
   ·have : k = i:=oM
    subst this;omega
 ·repeat' (first | refine jR ?_ | (refine jo ?_;refine ad F F F wa F ?_) | refine af F (aF oM) ?_)
  refine jY (vs:=[_]) ?_
  rw [aH,sF fun k hk=>Hi.2 k oM]
  refine congrArg Bo ?_
  rw [Bool.decide_and]
  exact congr (congrArg and (decide_eq_decide.2 oM)) (decide_eq_decide.2 oM)
theorem jn (c : UInt8) (r : ye) : bt (c :: r) 0 = c.toNat:=by simp [bt,List.getD]
theorem uE {c : UInt8} {r : ye} (h : r ≠ []) (hl : r.length ≤ 1000000) : aI yd 100 [S (c :: r)] G (· = Tu [S (if c.toNat = 64 then r.take (r.length - 1) else []),Bo (decide (c.toNat = 64))]):=by
 have hp:=List.length_pos_iff.2 h
 have e0:=jn c r
 refine jE [(0,_)] Tryz.func100 Tryz.ntmps100 fun B hB=>?_
 repeat' (first | refine jX ?_ | refine cz F (fun _=>?_) (fun _=>?_))
 ·rename_i hc
  refine jY (vs:=[_,_]) ?_
  have hc : ((bt (c :: r) 0 : Nat) : Int) ≠ 64:=hc
  have hc : ¬ c.toNat = 64:=oM
  rw [eo,if_neg hc,decide_eq_false hc]
 ·rename_i hc
  refine jY (vs:=[_,_]) ?_
  have hc : ¬ ((bt (c :: r) 0 : Nat) : Int) ≠ 64:=hc
  have hc : c.toNat = 64:=oM
  have e : ((((c :: r).length : Nat) : Int) - 1).toNat = (r.length - 1) + 1:=by simp only [List.length_cons];omega
  rw [eo,if_pos hc,decide_eq_true hc,e,List.take_succ_cons];rfl
theorem kC {s : ye} : aI yd 99 [S s] G (· = Bo (be s)):=by
 induction s with
 | nil =>
  refine jE [(0,_)] Tryz.func99 Tryz.ntmps99 fun B hB=>?_
  repeat' (first | refine jR ?_ | (refine jo ?_;refine aG F ?_) | refine aE F F F ?_ | refine ae F F ?_)
  all_goals refine jY (vs:=[_]) ?_
  all_goals rfl
 | cons c r ih =>
  have e0 : bt (c :: r) (Int.toNat 0) = c.toNat:=jn c r
  by_cases hl : (c :: r).length ≤ 12
  ·have hl2 : r.length ≤ 12:=by simp at hl;omega
   rw [be,decide_eq_true hl,Bool.true_and,dV]
   rw [be,decide_eq_true hl2,Bool.true_and] at ih
   have hcons : (c :: r).length = r.length + 1:=rfl
   by_cases h1 : c.toNat = 91
   ·rw [if_pos (.inl h1)]
    refine jE [(0,_)] Tryz.func99 Tryz.ntmps99 fun B hB=>?_
    repeat' (first | refine jM ?_ | (refine jo ?_;first | refine aG F ?_ | refine ad F F F ih F ?_) | refine aE F F (aF oM) ?_ | refine ae F (aC oM) ?_ | refine af F F ?_)
    refine jY (vs:=[_]) ?_
    rfl
   by_cases h2 : c.toNat = 63
   ·rw [if_pos (.inr h2)]
    refine jE [(0,_)] Tryz.func99 Tryz.ntmps99 fun B hB=>?_
    repeat' (first | refine jM ?_ | (refine jo ?_;first | refine aG F ?_ | refine ad F F F ih F ?_) | refine aE F F (aF oM) ?_ | refine ae F (aC oM) ?_ | (refine af F (by first | rfl | (refine decide_eq_false ?_;(omega))) ?_))
    refine jY (vs:=[_]) ?_
    rfl
   rw [if_neg oM]
   by_cases h3 : c.toNat = 64
   ·rw [if_pos h3]
    have h5 : ((((c :: r).length : Nat) : Int) - 1).toNat = r.length:=oM
    by_cases h4 : ((bt (c :: r) r.length : Nat) : Int) = 59
    ·have h6 : ((bt (c :: r) ((((c :: r).length : Nat) : Int) - 1).toNat : Nat) : Int) = 59:=by rw [h5];exact h4
     have hp : 0 < r.length:=by
      rcases Nat.eq_zero_or_pos r.length with h0 | h0
      ·have : r = []:=List.length_eq_zero_iff.1 h0
       subst this
       have : ((bt [c] (Int.toNat 0) : Nat) : Int) = 59:=h4
       omega
      ·exact h0
     have e1 : ((((c :: r).length : Nat) : Int) - 1).toNat = (r.length - 1) + 1:=oM
     refine jE [(0,_)] Tryz.func99 Tryz.ntmps99 fun B hB=>?_
     repeat' (first | refine jM ?_ | (refine jo ?_;first | refine aV F ?_ | refine aG F ?_ | (refine ad F F F (dR ?_) F ?_;(focus ((simp;omega);done)))) | refine aU F F (aC ‹_›) ?_ | refine aE F F (aF oM) ?_ | refine ae F (aC oM) ?_ | (refine af F (by first | rfl | (refine decide_eq_false ?_;(omega))) ?_))
     refine jY (vs:=[_]) ?_
     rw [aH,decide_eq_true h4,Bool.true_and,e1,List.take_succ_cons];rfl
    ·have h6 : ¬ ((bt (c :: r) ((((c :: r).length : Nat) : Int) - 1).toNat : Nat) : Int) = 59:=by rw [h5];exact h4
     refine jE [(0,_)] Tryz.func99 Tryz.ntmps99 fun B hB=>?_
     repeat' (first | refine jM ?_ | (refine jo ?_;refine aG F ?_) | (refine aE F F (by refine decide_eq_false ?_;first | assumption | omega) ?_) | refine ae F (aC oM) ?_ | (refine af F (by first | rfl | (refine decide_eq_false ?_;(omega))) ?_))
     refine jY (vs:=[_]) ?_
     rw [aH,decide_eq_false h4,Bool.false_and]
   ·rw [if_neg h3]
    have n1 : ∀ x : UInt8,(c :: r = [x]) = (c.toNat = x.toNat ∧ r = []):=fun x=>by
     rw [List.cons.injEq];exact propext ⟨fun h=>⟨by rw [h.1],h.2⟩,fun h=>⟨UInt8.toNat_inj.1 h.1,h.2⟩⟩
    refine jE [(0,_)] Tryz.func99 Tryz.ntmps99 fun B hB=>?_
    repeat' (first | refine jM ?_ | (refine jo ?_;first | refine aV F ?_ | refine aG F ?_) | refine aU F F F ?_ | refine aE F F (aF oM) ?_ | refine dm F F (fun _=>?_) (fun _=>?_) | (refine af F (by first | rfl | (refine decide_eq_false ?_;(omega))) ?_))
    all_goals refine jY (vs:=[_]) ?_
    all_goals rw [aH]
    ·rename_i h;rw [n1] at h;rw [decide_eq_true h.2,decide_eq_true (p:=c.toNat = 110) h.1];rfl
    ·rename_i h;rw [n1] at h;rw [decide_eq_true h.2,decide_eq_true (p:=c.toNat = 116) h.1];simp
    ·rename_i ha hb
     refine congrArg Bo ?_
     rw [n1] at ha hb
     simp only [n1]
     by_cases hr : r = []
     ·have hx : ¬ c.toNat = 110:=fun h=>ha ⟨h,hr⟩
      have hy : ¬ c.toNat = 116:=fun h=>hb ⟨h,hr⟩
      simp [hr,hx,hy]
     ·simp [hr]
  ·rw [be,decide_eq_false hl,Bool.false_and]
   refine jE [(0,_)] Tryz.func99 Tryz.ntmps99 fun B hB=>?_
   repeat' (first | refine jR ?_ | (refine jo ?_;refine aV F ?_) | refine aU F F (aC oM) ?_ | refine ae F F ?_)
   all_goals refine jY (vs:=[_]) ?_
   all_goals rfl
theorem eW {s : ye} (h : dV s = true) : aI yd 101 [S s] G (· = S (ay s)):=by
 refine jE [(0,_)] Tryz.func101 Tryz.ntmps101 fun B hB=>?_
 repeat' (refine jR ?_)
 refine aT (ι:=ye) (fun t=>dV t = true ∧ ay t = ay s) (fun t=>[(0,S t)]) (fun _=>G) (fun t=>[]) (fun t=>t.length) s ?_ tU F bd (fun t Ht=>?_)
 ·exact ⟨h,F⟩
 match t,Ht with
 | c :: r,Ht =>
  have e0 : bt (c :: r) (Int.toNat 0) = c.toNat:=jn c r
  have hcons : (c :: r).length = r.length + 1:=rfl
  by_cases h1 : c.toNat = 91 ∨ c.toNat = 63
  ·have hk : dV r = true:=by have:=Ht.1;rw [dV,if_pos h1] at this;exact this
   have hc : ay r = ay s:=by rw [← Ht.2,ay,if_pos h1]
   rcases h1 with h1 | h1
   all_goals repeat' (first | refine jM ?_ | (refine jo ?_;first | refine aV F ?_ | refine aG F ?_) | refine aU F F (aC oM) ?_ | refine aE F F (aF oM) ?_ | (refine ae F (by first | rfl | (refine decide_eq_true ?_;(omega))) ?_))
   all_goals exact aW r ⟨hk,hc⟩ oM tU F bd
  ·repeat' (first | refine jM ?_ | (refine jo ?_;refine aG F ?_) | refine aE F F (aF oM) ?_ | refine af F (aF oM) ?_)
   refine jY (vs:=[_]) ?_
   rw [aH,← Ht.2,ay,if_neg h1]
theorem sX : ∀ (k : Nat) {n : Int},n.toNat ≤ k → 0 ≤ n ∧ n ≤ 9223372036854775807 → aI yd 103 [I n] G (· = S (a7 n)):=by
 intro k
 induction k with
 | zero =>
  intro n hk hn
  have h1 : n < 10:=oM
  refine jE [(0,_)] Tryz.func103 Tryz.ntmps103 fun B hB=>?_
  repeat' (first | refine jM ?_ | (refine jo ?_;first | refine jF fun _=>?_ | refine jV (cZ F F (by (repeat (first | exact BL.nil | apply BL.cons));done)) ?_) | refine ae F (aC ‹_›) ?_ | refine af F (aF oM) ?_)
  refine jY (vs:=[_]) ?_
  rw [aH,cK h1 hn.1]
 | succ k ih =>
  intro n hk hn
  have hl:=fO (n:=n / 10) oM
  by_cases h1 : n < 10
  ·refine jE [(0,_)] Tryz.func103 Tryz.ntmps103 fun B hB=>?_
   repeat' (first | refine jM ?_ | (refine jo ?_;first | refine jF fun _=>?_ | refine jV (cZ F F (by (repeat (first | exact BL.nil | apply BL.cons));done)) ?_) | refine ae F (aC ‹_›) ?_ | refine af F (aF oM) ?_)
   refine jY (vs:=[_]) ?_
   rw [aH,cK h1 hn.1]
  ·refine jE [(0,_)] Tryz.func103 Tryz.ntmps103 fun B hB=>?_
   repeat' (first | refine jR ?_ | (refine af F (by refine decide_eq_false ?_;first | assumption | omega) ?_) | (refine al (aw (id:=7) _ (fun _ h=>h) ak ?_);refine jW 5 [0,1,3,4,5,6] (aa 11 123) ?_;refine bY [2,7] kR dC ⟨?_,?_,trivial⟩;(focus (refine a5 F F ?_;((refine ad F F F (ih ?_ ?_) F ?_;(focus omega);focus omega));refine jS (aa 11 127) ?_;refine jA 7 F ?_;(refine jF fun _=>?_);refine jS (aa 11 255) ?_;((refine jG (aa 11 511) 8 F (cZ F F (by (repeat (first | exact BL.nil | apply BL.cons));done)) ?_));refine jW 0 [9,10] (aa 11 2047) ?_;refine jQ ?_));rotate_left 1;(focus (refine a5 F F ?_;(refine jF fun _=>?_);refine jS (aa 11 251) ?_;((refine jG (aa 11 507) 8 F (cZ F F (by (repeat (first | exact BL.nil | apply BL.cons));done)) ?_));refine jA 2 F ?_;((refine ad F F F (ih ?_ ?_) F ?_;(focus omega);focus omega));refine jS (aa 11 511) ?_;refine jW 0 [9,10] (aa 11 2047) ?_;refine jQ ?_));rotate_left 1))
   all_goals refine jY (vs:=[_]) ?_
   all_goals rw [aH,gu (n:=n) h1]
theorem fh {n : Int} (hn : 0 ≤ n ∧ n ≤ 9223372036854775807) : aI yd 103 [I n] G (· = S (a7 n)):=sX n.toNat (Nat.le_refl _) hn
def eB (s : ye) : ye:=if s = [110] then [48] else if s = [116] then [39,39] else if s = [102] then [110,111] else []
theorem nJ {s : ye} : aI yd 194 [S s] G (· = S (eB s)):=by
 refine jE [(0,_)] Tryz.func194 Tryz.ntmps194 fun B hB=>?_
 repeat' (first | refine jR ?_ | refine cz F (fun _=>?_) (fun _=>?_))
 all_goals refine jY (vs:=[_]) ?_
 all_goals (rw [aH,eB];simp [*])
def gf (x : Nat) : Prop:=x = 32 ∨ (48 ≤ x ∧ x ≤ 57) ∨ (97 ≤ x ∧ x ≤ 122)
instance (x : Nat) : Decidable (gf x):=inferInstanceAs (Decidable (_ ∨ _))
def wi (s : ye) : Prop:=(2 ≤ s.length ∧ s.length ≤ 14) ∧ bt s 0 = 39 ∧ bt s (s.length - 1) = 39 ∧ ∀ i,i < s.length - 1 → i = 0 ∨ gf (bt s i)
instance (s : ye) : Decidable (wi s):=inferInstanceAs (Decidable (_ ∧ _ ∧ _ ∧ _))
def db (s : ye) : Bool:=decide (wi s)
theorem sY {s : ye} (h : s.length ≤ 100000000) : aI yd 201 [S s] G (· = Bo (db s)):=by
 by_cases h1 : 2 ≤ s.length ∧ s.length ≤ 14
 case neg =>
  have e : db s = false:=decide_eq_false fun x=>h1 x.1
  rw [e]
  refine jE [(0,_)] Tryz.func201 Tryz.ntmps201 fun B hB=>?_
  repeat' (first | refine jR ?_ | (refine jo ?_;first | refine aV F ?_ | refine aG F ?_) | (refine aU F F (by first | rfl | (refine decide_eq_true ?_;(omega))) ?_) | refine dm F F (fun _=>?_) (fun _=>?_) | refine ae F F ?_)
  all_goals refine jY (vs:=[_]) ?_
  all_goals rfl
 by_cases h2 : bt s 0 = 39
 case neg =>
  have e : db s = false:=decide_eq_false fun x=>h2 x.2.1
  have h3 : ¬ bt s (Int.toNat 0) = 39:=h2
  rw [e]
  refine jE [(0,_)] Tryz.func201 Tryz.ntmps201 fun B hB=>?_
  repeat' (first | refine jM ?_ | (refine jo ?_;first | refine aV F ?_ | refine aG F ?_) | refine aU F F (aC oM) ?_ | refine aE F F (aF oM) ?_ | refine ae F F ?_)
  all_goals refine jY (vs:=[_]) ?_
  all_goals rfl
 have h3 : bt s (Int.toNat 0) = 39:=h2
 have h4 : (((s.length : Nat) : Int) - 1).toNat = s.length - 1:=oM
 by_cases h5 : bt s (s.length - 1) = 39
 case neg =>
  have e : db s = false:=decide_eq_false fun x=>h5 x.2.2.1
  have h6 : ¬ bt s (((s.length : Nat) : Int) - 1).toNat = 39:=by rw [h4];exact h5
  rw [e]
  refine jE [(0,_)] Tryz.func201 Tryz.ntmps201 fun B hB=>?_
  repeat' (first | refine jM ?_ | (refine jo ?_;refine aG F ?_) | refine aE F F (aF oM) ?_ | refine ae F (aC oM) ?_)
  all_goals refine jY (vs:=[_]) ?_
  all_goals rfl
 have h6 : bt s (((s.length : Nat) : Int) - 1).toNat = 39:=by rw [h4];exact h5
 refine jE [(0,_)] Tryz.func201 Tryz.ntmps201 fun B hB=>?_
 repeat' (first | refine jM ?_ | (refine jo ?_;refine aG F ?_) | refine aE F F (aF oM) ?_ | refine af F (aF oM) ?_)
 refine aT (ι:=Nat) (fun i=>(1 ≤ i ∧ i ≤ s.length - 1) ∧ ∀ k,k < i → k = 0 ∨ gf (bt s k)) (fun i=>[(0,S s),(3,I i)]) (fun _=>G) (fun i=>[]) (fun i=>s.length - i) 1 ?_ tU F bd (fun i Hi=>?_)
 ·exact ⟨⟨Nat.le_refl _,oM⟩,fun k hk=>.inl oM⟩
 by_cases hi : i < s.length - 1
 ·by_cases ht : gf (bt s i)
  ·have ht2 : gf (bt s ((i : Int).toNat)):=ht
   unfold gf at ht2
   repeat' (first | refine jM ?_ | (refine jo ?_;first | refine aV F ?_ | refine aG F ?_) | (refine aE F F (by first | rfl | (refine decide_eq_false ?_;(omega))) ?_) | refine dm F F (fun _=>?_) (fun _=>?_) | refine ae F (aC oM) ?_ | (refine af F (by first | rfl | (refine decide_eq_false ?_;(omega))) ?_))
   all_goals refine aW (i + 1) ⟨⟨oM,oM⟩,fun k hk=>?_⟩ oM tU F bd
   all_goals (rcases Nat.lt_or_ge k i with h7 | h7;· exact Hi.2 k h7)
   all_goals (have : k = i:=by omega)
   all_goals (subst this;exact .inr ht)
  ·have ht2 : ¬ gf (bt s ((i : Int).toNat)):=ht
   unfold gf at ht2
   have e : db s = false:=decide_eq_false fun x=>(x.2.2.2 i hi).elim (fun h8=>by omega) ht
   rw [e]
   repeat' (first | refine jM ?_ | (refine jo ?_;first | refine aV F ?_ | refine aG F ?_) | (refine aU F F (by first | rfl | (refine decide_eq_true ?_;(omega))) ?_) | refine dm F F (fun _=>?_) (fun _=>?_) | (refine ae F (by first | rfl | (refine decide_eq_true ?_;(omega))) ?_))
   all_goals refine jY (vs:=[_]) ?_
   all_goals rfl
 ·have e : db s = true:=decide_eq_true ⟨h1,h2,h5,fun k hk=>Hi.2 k oM⟩
  rw [e]
  repeat' (first | refine jM ?_ | refine af F (aF oM) ?_)
  refine jY (vs:=[_]) ?_
  rfl
def cR (k : Nat) (acc : ye) : ye → List ye
 | []=>[acc]
 | c :: r=>if c.toNat = k then acc :: cR k [] r else cR k (acc ++ [c]) r
def aR (k : Nat) (s : ye) : List ye:=cR k [] s
theorem pX {s : ye} {k : Nat} (h : s.length ≤ 100000000) : cg yd 114 [S s,U8 k] G [] (fun v L'=>L' = [.acc v qj 1 (aR k s).length (mN (aR k s))] ∧ p9 v (aR k s).length):=by
 refine jH [(0,_),(1,_)] Tryz.func114 Tryz.ntmps114 fun B hB hW=>?_
 repeat' (first | refine jR ?_ | (refine jo ?_;refine jF fun _=>?_))
 rename_i x
 refine Nx.blkAcc (m:=0) (sz:=1) .here F ?_
 refine aT (ι:=Value × List ye × Nat × Nat) (fun i=>(i.2.2.1 ≤ i.2.2.2 ∧ i.2.2.2 ≤ s.length ∧ i.2.1.length ≤ i.2.2.2) ∧ i.2.1 ++ cR k ((s.take i.2.2.2).drop i.2.2.1) (s.drop i.2.2.2) = aR k s) (fun i=>[(0,S s),(1,U8 k),(5,i.1),(6,I i.2.2.1),(7,I i.2.2.2)]) (fun _=>G) (fun i=>[.acc i.1 qj 1 i.2.1.length (mN i.2.1)]) (fun i=>s.length - i.2.2.2) (.slice (some ⟨x,0,none⟩) 0 0,[],0,0) ?_ tU F bd (fun i Hi=>?_)
 ·exact ⟨⟨Nat.le_refl _,Nat.zero_le _,Nat.zero_le _⟩,F⟩
 obtain ⟨u,xs,fr,i⟩:=i
 dsimp only at Hi ⊢
 by_cases hi : i < s.length
 ·obtain ⟨c,hc1,hc2⟩:=kN hi
  have hn : s.drop i ≠ []:=by rw [hc1];simp
  have ht : (s.take (i + 1)).drop fr = (s.take i).drop fr ++ [c]:=by
   have e : s[i] = c:=by have:=List.getElem_cons_drop (h:=hi);rw [hc1] at this;exact (List.cons.inj this).1
   rw [List.take_succ_eq_append_getElem hi,e,List.drop_append_of_le_length (by simp;omega)]
  have hcut:=Hi.2
  rw [hc1,cR] at hcut
  by_cases hk : c.toNat = k
  ·have hk2 : bt s i = k:=oM
   rw [if_pos hk] at hcut
   repeat' (first | refine jM ?_ | (refine jo ?_;first | refine jF fun _=>?_ | refine qU F F F F F F F F oM fun _=>?_) | (refine ae F ?_ ?_;(focus ((first | (refine decide_eq_true ?_;(omega)) | (simp [*];done));done))))
   refine aW (_,xs ++ [(s.take i).drop fr],i + 1,i + 1) ⟨⟨by dsimp only;omega,by dsimp only;omega,by simp;omega⟩,?_⟩ (by dsimp only;omega) tU rfl (by dsimp only;simp only [nf,List.length_append,List.length_cons,List.length_nil,Nat.zero_add];repeat (first | exact List.nil_sublist _ | apply List.Sublist.cons_cons))
   have e0 : (s.take (i + 1)).drop (i + 1) = []:=by simp
   dsimp only;rw [e0,← hcut];simp
  ·have hk2 : ¬ bt s i = k:=oM
   rw [if_neg hk] at hcut
   repeat' (first | refine jM ?_ | refine ae F (aC oM) ?_ | (refine af F ?_ ?_;(focus ((simp;omega);done))))
   refine aW (u,xs,fr,i + 1) ⟨⟨by dsimp only;omega,by dsimp only;omega,by dsimp only;omega⟩,?_⟩ (by dsimp only;omega) tU rfl bd
   dsimp only;rw [ht];exact hcut
 ·have e : aR k s = xs ++ [s.drop fr]:=by
   have ei : i = s.length:=oM
   rw [← Hi.2,ei,List.take_length,List.drop_length];rfl
  repeat' (first | refine jM ?_ | (refine jo ?_;first | refine jF fun _=>?_ | refine qU F F F F F F F F oM fun _=>?_) | refine af F (aF oM) ?_)
  refine Nx.shp (.head _) fun hsh=>aM (vs:=[_]) F ⟨F,trivial⟩ F (List.Sublist.cons_cons _ (List.nil_sublist _)) ⟨F,?_,?_⟩
  ·rw [e,nf,List.length_append];rfl
  ·rw [e,List.length_append];exact hsh
def ch (n : Int) : ye → Option Int
 | []=>some n
 | c :: r=>if 48 ≤ c.toNat ∧ c.toNat ≤ 57 then ch (10 * n + ((c.toNat : Int) - 48)) r else none
def aQ (s : ye) (top : Int) : Option Int :=
 if s.length ≤ 6 then
  match ch 0 s with
  | some n=>if s = a7 n ∧ n ≤ top then some n else none
  | none=>none
 else none
theorem sw (i : Nat) (hi : i ≤ 5) : (10 : Int) ^ (i + 1) = 10 * 10 ^ i ∧ (10 : Int) ^ i ≤ 100000 ∧ (0 : Int) < 10 ^ i:=by
 refine ⟨by rw [Int.pow_succ,Int.mul_comm],?_⟩
 rcases (show i = 0 ∨ i = 1 ∨ i = 2 ∨ i = 3 ∨ i = 4 ∨ i = 5 by omega) with rfl | rfl | rfl | rfl | rfl | rfl <;> decide
theorem kP {s : ye} {top : Int} (h : s.length ≤ 100000000) : aI yd 151 [S s,I top] G (fun v=>∃ n,v = Tu [I n,Bo (aQ s top).isSome] ∧ (∀ m,aQ s top = some m → n = m)):=by
 refine jE [(0,_),(1,_)] Tryz.func151 Tryz.ntmps151 fun B hB=>?_
 repeat' (refine jR ?_)
 refine aT (ι:=Nat × Int) (fun i=>(i.1 ≤ s.length ∧ i.1 ≤ 6) ∧ (0 ≤ i.2 ∧ i.2 + 1 ≤ 10 ^ i.1) ∧ ch i.2 (s.drop i.1) = ch 0 s) (fun i=>[(0,S s),(1,I top),(6,I i.2),(7,I i.1)]) (fun _=>G) (fun i=>[]) (fun i=>s.length - i.1) (0,0) ?_ tU F bd (fun i Hi=>?_)
 ·exact ⟨⟨by dsimp only;omega,by dsimp only;omega⟩,⟨by dsimp only;omega,by dsimp only;decide⟩,rfl⟩
 obtain ⟨i,n⟩:=i
 dsimp only at Hi ⊢
 by_cases hi : i < s.length
 ·obtain ⟨c,hc1,hc2⟩:=kN hi
  have hc3 : bt s ((i : Int).toNat) = c.toNat:=hc2
  have hd:=Hi.2.2
  rw [hc1,ch] at hd
  by_cases h5 : i ≤ 5
  ·have hp:=sw i h5
   by_cases hdig : 48 ≤ c.toNat ∧ c.toNat ≤ 57
   ·rw [if_pos hdig] at hd
    repeat' (first | refine jM ?_ | (refine jo ?_;refine aG F ?_) | refine aE F F (aF oM) ?_ | refine ae F (aC oM) ?_ | refine af F (aF oM) ?_)
    refine aW (i + 1,10 * n + ((c.toNat : Int) - 48)) ⟨⟨by dsimp only;omega,by dsimp only;omega⟩,⟨by dsimp only;omega,by dsimp only;rw [hp.1];omega⟩,hd⟩ (by dsimp only;omega) ?_ rfl bd
    rw [← hc2];repeat (first | exact trivial | refine ⟨F,?_⟩)
   ·rw [if_neg hdig] at hd
    have hno : aQ s top = none:=by unfold aQ;rw [← hd];split <;> rfl
    repeat' (first | refine jM ?_ | (refine jo ?_;first | refine aV F ?_ | refine aG F ?_) | (refine aU F F (by first | rfl | (refine decide_eq_true ?_;(omega))) ?_) | refine dm F F (fun _=>?_) (fun _=>?_) | (refine ae F (by first | rfl | (refine decide_eq_true ?_;(omega))) ?_))
    all_goals refine jY (vs:=[_,_]) ?_
    all_goals exact ⟨_,by rw [hno];rfl,fun m hm=>by rw [hno] at hm;cases hm⟩
  ·have hno : aQ s top = none:=by unfold aQ;rw [if_neg oM]
   have e6 : i = 6:=oM
   subst e6
   repeat' (first | refine jM ?_ | (refine jo ?_;first | refine aV F ?_ | refine aG F ?_) | refine aU F F F ?_ | refine dm F F (fun _=>?_) (fun _=>?_) | (refine ae F (by first | rfl | (refine decide_eq_true ?_;(omega))) ?_))
   all_goals refine jY (vs:=[_,_]) ?_
   all_goals exact ⟨_,by rw [hno];rfl,fun m hm=>by rw [hno] at hm;cases hm⟩
 ·have ei : i = s.length:=oM
  have hd:=Hi.2.2
  rw [ei,List.drop_length,ch] at hd
  have hp : n ≤ 9223372036854775807:=by
   rcases Nat.lt_or_ge i 6 with h1 | h1
   ·have:=sw i oM;omega
   ·have e6 : i = 6:=oM
    subst e6
    have:=Hi.2.1.2
    have e : (10 : Int) ^ 6 = 1000000:=by decide
    omega
  have hno : aQ s top = if s = a7 n ∧ n ≤ top then some n else none:=by unfold aQ;rw [if_pos oM,← hd]
  repeat' (first | refine jR ?_ | (refine jo ?_;first | refine aV F ?_ | refine aG F ?_ | refine ad F F F (fh oM) F ?_) | refine dm F F (fun _=>?_) (fun _=>?_) | refine af F (aF oM) ?_)
  ·rename_i hs
   refine jY (vs:=[_,_]) ?_
   refine ⟨n,?_,fun m hm=>?_⟩
   ·rw [hno,eo]
    by_cases ht : n ≤ top
    ·rw [if_pos ⟨hs,ht⟩,decide_eq_true ht];rfl
    ·rw [if_neg (fun h=>ht h.2),decide_eq_false ht];rfl
   ·rw [hno] at hm
    split at hm
    ·exact Option.some.inj hm
    ·cases hm
  ·rename_i hs
   refine jY (vs:=[_,_]) ?_
   refine ⟨n,by rw [hno,if_neg (fun h=>hs h.1)];rfl,fun m hm=>?_⟩
   rw [hno,if_neg (fun h=>hs h.1)] at hm;cases hm
def bn (k s : ye) : Bool :=
 if k = [110] then (aQ s 999999).isSome && decide (s ≠ [48])
 else if k = [116] then db s && decide (s ≠ [39,39])
 else if k = [102] then decide (s = [121,101,115])
 else false
theorem rR {k s : ye} (h : s.length ≤ 100000000) : aI yd 184 [S k,S s] G (· = Bo (bn k s)):=by
 by_cases h1 : k = [110]
 ·have e : bn k s = ((aQ s 999999).isSome && decide (s ≠ [48])):=by rw [bn,if_pos h1]
  rw [e]
  refine jE [(0,_),(1,_)] Tryz.func184 Tryz.ntmps184 fun B hB=>?_
  repeat' (first | refine jR ?_ | (refine jo ?_;first | refine aV F ?_ | refine aG F ?_ | (refine dQ F F F (kP oM) F ?_;rintro _ ⟨n,rfl,hnum⟩)) | refine iS F F (fun _=>?_) (fun _=>?_) | refine ae F (aC ‹_›) ?_)
  all_goals refine jY (vs:=[_]) ?_
  all_goals (rw [aH];simp [*])
 by_cases h2 : k = [116]
 ·have e : bn k s = (db s && decide (s ≠ [39,39])):=by rw [bn,if_neg h1,if_pos h2]
  rw [e]
  refine jE [(0,_),(1,_)] Tryz.func184 Tryz.ntmps184 fun B hB=>?_
  repeat' (first | refine jR ?_ | (refine jo ?_;first | refine aV F ?_ | refine aG F ?_ | refine ad F F F (sY ‹_›) F ?_) | refine dm F F (fun _=>?_) (fun _=>?_) | refine ae F (aC ‹_›) ?_ | refine af F (aF ‹_›) ?_)
  all_goals refine jY (vs:=[_]) ?_
  all_goals (rw [aH];simp [*,db])
 by_cases h3 : k = [102]
 ·have e : bn k s = decide (s = [121,101,115]):=by rw [bn,if_neg h1,if_neg h2,if_pos h3]
  rw [e]
  refine jE [(0,_),(1,_)] Tryz.func184 Tryz.ntmps184 fun B hB=>?_
  repeat' (first | refine jR ?_ | refine ae F (aC ‹_›) ?_ | refine af F (aF ‹_›) ?_)
  all_goals refine jY (vs:=[_]) ?_
  all_goals rfl
 ·have e : bn k s = false:=by rw [bn,if_neg h1,if_neg h2,if_neg h3]
  rw [e]
  refine jE [(0,_),(1,_)] Tryz.func184 Tryz.ntmps184 fun B hB=>?_
  repeat' (first | refine jR ?_ | refine af F (aF ‹_›) ?_)
  all_goals refine jY (vs:=[_]) ?_
  all_goals rfl
structure Fld where
 tag : Int
 name : ye
 kind : ye
 stand : ye
deriving Inhabited
def b6 (f : Fld) : List Value:=[I f.tag,S f.name,S f.kind,S f.stand]
instance : RowF b6 4:=⟨fun _=>rfl⟩
def bz (s : ye) (k : Nat) : Option Fld :=
 match aR 58 s with
 | [a,b]=>if k = 69 then
   match aQ a 200 with
   | some n=>if 1 ≤ n ∧ bH b = true then some ⟨n,b,[],[]⟩ else none
   | none=>none
  else none
 | [a,b,c]=>if k = 69 then none else
   match aQ a 200 with
   | some n=>if 1 ≤ n ∧ bH b = true then
     match aR 61 c with
     | [d]=>if be d = true then some ⟨n,b,d,[]⟩ else none
     | [d,e]=>if k = 82 ∧ bn d e = true then some ⟨n,b,d,e⟩ else none
     | _=>none
    else none
   | none=>none
 | _=>none
theorem lF {k : Nat} : ∀ {s acc : ye} {x : ye},x ∈ cR k acc s → x.length ≤ acc.length + s.length
 | [],acc,x,h=>by simp [cR] at h;subst h;simp
 | c :: r,acc,x,h=>by
  unfold cR at h
  split at h
  ·rcases List.mem_cons.1 h with rfl | h
   ·simp
   ·have:=lF h;simp at this ⊢;omega
  ·have:=lF h;simp at this ⊢;omega
theorem cy {k : Nat} {s x : ye} (h : x ∈ aR k s) : x.length ≤ s.length:=by have:=lF h;simpa using this
theorem lJ {k : Nat} : ∀ {s acc : ye},0 < (cR k acc s).length
 | [],acc=>by simp [cR]
 | c :: r,acc=>by
  unfold cR
  split
  ·simp
  ·exact lJ
theorem c0 {k : Nat} {s : ye} : 0 < (aR k s).length:=lJ
theorem ge {k : Nat} : ∀ {s acc : ye},(cR k acc s).length ≤ s.length + 1
 | [],acc=>by simp [cR]
 | c :: r,acc=>by
  unfold cR
  split
  ·have:=ge (k:=k) (s:=r) (acc:=[]);simp;omega
  ·have:=ge (k:=k) (s:=r) (acc:=acc ++ [c]);simp;omega
theorem g7 {k : Nat} {s : ye} : (aR k s).length ≤ s.length + 1:=ge
def ao (k : Nat) : ye → ye × ye × Bool
 | []=>([],[],false)
 | c :: r=>if c.toNat = k then ([],r,true) else (c :: (ao k r).1,(ao k r).2.1,(ao k r).2.2)
theorem dJ (c : UInt8) (r : ye) (i : Nat) : bt (c :: r) (i + 1) = bt r i:=by simp [bt,List.getD]
theorem cL (c : UInt8) (r : ye) : bt (c :: r) 0 = c.toNat:=by simp [bt,List.getD]
theorem pT {k : Nat} : ∀ {s : ye},(∀ j,j < s.length → bt s j ≠ k) → ao k s = (s,[],false)
 | [],_=>rfl
 | c :: r,h=>by
  have h0:=h 0 (by simp)
  rw [cL] at h0
  have ih:=pT (k:=k) (s:=r) fun j hj=>by have:=h (j + 1) (by simpa using hj);rwa [dJ] at this
  rw [ao,if_neg h0,ih]
theorem m0 {k : Nat} : ∀ {s : ye} {i : Nat},i < s.length → (∀ j,j < i → bt s j ≠ k) → bt s i = k → ao k s = (s.take i,s.drop (i + 1),true)
 | [],i,h,_,_=>by simp at h
 | c :: r,0,_,_,h=>by rw [cL] at h;rw [ao,if_pos h];rfl
 | c :: r,i + 1,hl,h,hi=>by
  have h0:=h 0 oM
  rw [cL] at h0
  rw [dJ] at hi
  have ih:=m0 (k:=k) (s:=r) (i:=i) (by simpa using hl) (fun j hj=>by have:=h (j + 1) oM;rwa [dJ] at this) hi
  rw [ao,if_neg h0,ih];rfl
structure Ty where
 sort : Nat
 name : ye
 fields : List Fld
deriving Inhabited
def fresh (f : Fld) (fs : List Fld) : Bool:=fs.all fun g=>decide (g.tag < f.tag ∧ g.name ≠ f.name)
def cd (k : Nat) : List ye → List Fld → Option (List Fld)
 | [],fs=>some fs
 | x :: xs,fs=>match bz x k with
  | none=>none
  | some f=>if fresh f fs = true then cd k xs (fs ++ [f]) else none
def c6 (k : Nat) : Prop:=k = 82 ∨ k = 85 ∨ k = 69
instance (k : Nat) : Decidable (c6 k):=inferInstanceAs (Decidable (_ ∨ _ ∨ _))
def ci : ye → Option Ty
 | []=>none
 | c :: r=>match ao 61 r with
  | (name,rest,true)=>if bH name = true ∧ c6 c.toNat then
    if rest = [] then (if c.toNat = 82 then some ⟨82,name,[]⟩ else none)
    else match cd c.toNat (aR 44 rest) [] with
     | some fs=>if fs.length ≤ 8 then some ⟨c.toNat,name,fs⟩ else none
     | none=>none
   else none
  | _=>none
def a9 : ye → Option ye
 | []=>none
 | c :: r=>if c.toNat = 64 then some (r.take (r.length - 1)) else none
def dc (ts : List Ty) (name : ye) : Option Ty:=ts.find? fun t=>decide (t.name = name)
def aK (ts : List Ty) (k : ye) : Option Ty:=(a9 k).bind (dc ts)
def d5 (t : Ty) : ye:=(t.fields.headD default).kind
def bA (ts : List Ty) : Nat → Ty → Bool
 | 0,_=>false
 | n + 1,t=>if t.sort ≠ 85 then true else match aK ts (d5 t) with
  | none=>true
  | some u=>bA ts n u
def dv (ts : List Ty) (k : ye) : Bool:=match a9 (ay k) with
 | none=>true
 | some n=>(dc ts n).isSome
def iA (ts : List Ty) (i : Nat) : Prop:=∀ k,k < i → (ac ts k).name ≠ (ac ts i).name
def fR (ts : List Ty) (t : Ty) : Prop:=t.sort = 69 ∨ ∀ j,j < t.fields.length → dv ts (ac t.fields j).kind = true
def f7 (ts : List Ty) : Prop:=(∀ i,i < ts.length → iA ts i ∧ fR ts (ac ts i)) ∧ ∀ i,i < ts.length → bA ts (ts.length + 1) (ac ts i) = true
instance (ts : List Ty) (i : Nat) : Decidable (iA ts i):=inferInstanceAs (Decidable (∀ k,k < i → _))
instance (ts : List Ty) (t : Ty) : Decidable (fR ts t):=inferInstanceAs (Decidable (_ ∨ ∀ j,j < t.fields.length → _))
instance (ts : List Ty) : Decidable (f7 ts):=inferInstanceAs (Decidable ((∀ i,i < ts.length → _) ∧ ∀ i,i < ts.length → _))
def bI : List ye → Option (List Ty)
 | []=>some []
 | x :: xs=>match ci x with
  | none=>none
  | some t=>(bI xs).map (t :: ·)
def ar (s : ye) : Option (List Ty) :=
 if s.length ≤ 400 ∧ (aR 10 s).length ≤ 9 ∧ (aR 10 s).getLastD [] = [] then
  match bI (aR 10 s).dropLast with
  | some ts=>if f7 ts then some ts else none
  | none=>none
 else none
structure FldW (k : Nat) (f : Fld) : Prop where
 tag : 1 ≤ f.tag ∧ f.tag ≤ 200
 name : bH f.name = true
 kind : k ≠ 69 → be f.kind = true
 enm : k = 69 → f.kind = [] ∧ f.stand = []
 stand : f.stand ≠ [] → k = 82 ∧ bn f.kind f.stand = true
theorem dO {s : ye} {top n : Int} (h : aQ s top = some n) : n ≤ top ∧ s = a7 n ∧ s.length ≤ 6:=by
 unfold aQ at h
 split at h
 ·split at h
  ·split at h
   ·rename_i h1 _ _ _ h2;simp only [Option.some.injEq] at h;subst h;exact ⟨h2.2,h2.1,h1⟩
   ·cases h
  ·cases h
 ·cases h
theorem jJ {k s : ye} (h : bn k s = true) : be k = true:=by
 unfold bn at h
 split at h
 ·subst_vars;decide
 ·split at h
  ·subst_vars;decide
  ·split at h
   ·subst_vars;decide
   ·cases h
theorem uu {s : ye} {k : Nat} {f : Fld} (h : bz s k = some f) : FldW k f:=by
 unfold bz at h
 split at h
 ·split at h
  ·rename_i hk
   split at h
   ·rename_i n hn
    split at h
    ·rename_i hg
     simp only [Option.some.injEq] at h;subst h
     exact ⟨⟨hg.1,(dO hn).1⟩,hg.2,fun h=>absurd hk h,fun _=>⟨F,F⟩,fun h=>absurd F h⟩
    ·cases h
   ·cases h
  ·cases h
 ·split at h
  ·cases h
  ·rename_i hk
   split at h
   ·rename_i n hn
    split at h
    ·rename_i hg
     split at h
     ·split at h
      ·rename_i hd
       simp only [Option.some.injEq] at h;subst h
       exact ⟨⟨hg.1,(dO hn).1⟩,hg.2,fun _=>hd,fun h=>absurd h hk,fun h=>absurd F h⟩
      ·cases h
     ·split at h
      ·rename_i hd
       simp only [Option.some.injEq] at h;subst h
       exact ⟨⟨hg.1,(dO hn).1⟩,hg.2,fun _=>jJ hd.2,fun h=>absurd h hk,fun _=>hd⟩
      ·cases h
     ·cases h
    ·cases h
   ·cases h
 ·cases h
structure TyW (t : Ty) : Prop where
 sort : c6 t.sort
 name : bH t.name = true
 ne : t.sort ≠ 82 → t.fields ≠ []
 len : t.fields.length ≤ 8
 fld : ∀ f ∈ t.fields,FldW t.sort f
 asc : t.fields.Pairwise fun g f=>g.tag < f.tag ∧ g.name ≠ f.name
theorem mv {k : Nat} : ∀ {xs : List ye} {fs gs : List Fld},cd k xs fs = some gs → (∀ f ∈ fs,FldW k f) → fs.Pairwise (fun g f=>g.tag < f.tag ∧ g.name ≠ f.name) →
  (∀ f ∈ gs,FldW k f) ∧ gs.Pairwise (fun g f=>g.tag < f.tag ∧ g.name ≠ f.name) ∧ gs.length = fs.length + xs.length
 | [],fs,gs,h,h1,h2=>by
  simp only [cd,Option.some.injEq] at h;subst h;exact ⟨h1,h2,by simp⟩
 | x :: xs,fs,gs,h,h1,h2=>by
  unfold cd at h
  split at h
  ·cases h
  ·rename_i f hf
   split at h
   ·rename_i hfr
    simp only [fresh,List.all_eq_true,decide_eq_true_eq] at hfr
    have:=mv h (fun g hg=>by
     rcases List.mem_append.1 hg with hg | hg
     ·exact h1 g hg
     ·simp only [List.mem_singleton] at hg;subst hg;exact uu hf) (List.pairwise_append.2 ⟨h2,by simp,fun a ha b hb=>by
      simp only [List.mem_singleton] at hb;subst hb;exact hfr a ha⟩)
    refine ⟨this.1,this.2.1,?_⟩
    rw [this.2.2];simp;omega
   ·cases h
theorem uR {s : ye} {t : Ty} (h : ci s = some t) : TyW t:=by
 unfold ci at h
 split at h
 ·cases h
 ·split at h
  ·split at h
   ·rename_i hn
    split at h
    ·split at h
     ·simp only [Option.some.injEq] at h;subst h
      exact ⟨.inl F,hn.1,fun h=>absurd F h,by simp,by simp,by simp⟩
     ·cases h
    ·split at h
     ·rename_i fs hfs
      split at h
      ·rename_i hl
       simp only [Option.some.injEq] at h;subst h
       have hw:=mv hfs (by simp) (by simp)
       refine ⟨hn.2,hn.1,fun _ h0=>?_,hl,hw.1,hw.2.1⟩
       have:=hw.2.2
       dsimp only at h0
       rw [h0] at this
       have:=c0 (k:=44) (s:=‹ye›)
       simp at *;omega
      ·cases h
     ·cases h
   ·cases h
  ·cases h
theorem fZ : ∀ {xs : List ye} {ts : List Ty},bI xs = some ts → (∀ t ∈ ts,TyW t) ∧ ts.length = xs.length
 | [],ts,h=>by simp only [bI,Option.some.injEq] at h;subst h;simp
 | x :: xs,ts,h=>by
  unfold bI at h
  split at h
  ·cases h
  ·rename_i t ht
   cases hr : bI xs with
   | none=>rw [hr] at h;cases h
   | some us =>
    rw [hr] at h
    simp only [Option.map_some,Option.some.injEq] at h;subst h
    have:=fZ hr
    exact ⟨fun u hu=>by rcases List.mem_cons.1 hu with rfl | hu;exact uR ht;exact this.1 u hu,by simp [this.2]⟩
structure SchW (ts : List Ty) : Prop where
 ty : ∀ t ∈ ts,TyW t
 len : ts.length ≤ 8
 valid : f7 ts
theorem cS {s : ye} {ts : List Ty} (h : ar s = some ts) : SchW ts:=by
 unfold ar at h
 split at h
 ·rename_i hc
  split at h
  ·rename_i us hus
   split at h
   ·rename_i hv
    simp only [Option.some.injEq] at h;subst h
    have:=fZ hus
    exact ⟨this.1,by rw [this.2,List.length_dropLast];omega,hv⟩
   ·cases h
  ·cases h
 ·cases h
def aO (ts : List Ty) (k : ye) : Bool:=be k && dv ts k
theorem rB {ts : List Ty} {n : ye} {t : Ty} (h : dc ts n = some t) : t ∈ ts:=List.mem_of_find?_eq_some h
theorem bM {ts : List Ty} {k : ye} {t : Ty} (h : aK ts k = some t) : t ∈ ts:=by
 unfold aK at h
 cases hr : a9 k with
 | none=>rw [hr] at h;cases h
 | some n=>rw [hr] at h;exact rB h
theorem iZ (ts : List Ty) : ∀ (k : Nat) (t : Ty),bA ts k t = true → bA ts (k + 1) t = true
 | 0,t,h=>by cases h
 | k + 1,t,h=>by
  unfold bA at h ⊢
  split
  ·rfl
  ·rename_i hs
   rw [if_neg hs] at h
   cases hr : aK ts (d5 t) with
   | none=>rfl
   | some u=>rw [hr] at h;exact iZ ts k u h
def dy (ts : List Ty) (k : Nat) : Prop:=∀ t ∈ ts,bA ts (k + 1) t = bA ts k t
theorem kW {ts : List Ty} {k : Nat} (h : dy ts k) : dy ts (k + 1):=by
 intro t ht
 rw [bA,bA]
 split
 ·rfl
 ·cases hr : aK ts (d5 t) with
  | none=>rfl
  | some u=>exact h u (bM hr)
theorem lW {ts : List Ty} {k : Nat} (h : dy ts k) : ∀ (m : Nat) (t : Ty),t ∈ ts → bA ts (k + m) t = bA ts k t:=by
 have hs : ∀ m,dy ts (k + m):=fun m=>by
  induction m with
  | zero=>exact h
  | succ m ih=>exact kW ih
 intro m t ht
 induction m with
 | zero=>rfl
 | succ m ih=>rw [← ih];exact hs m t ht
theorem oQ {α : Type} {p q : α → Bool} : ∀ {l : List α},(∀ x ∈ l,p x = true → q x = true) → (∃ x ∈ l,q x = true ∧ p x = false) → l.countP p < l.countP q
 | [],_,h=>by obtain ⟨x,hx,_⟩:=h;cases hx
 | a :: l,h1,h2=>by
  have hle : ∀ l : List α,(∀ x ∈ l,p x = true → q x = true) → l.countP p ≤ l.countP q:=fun l h=>List.countP_mono_left h
  rw [List.countP_cons,List.countP_cons]
  have h3:=hle l fun x hx=>h1 x (List.mem_cons_of_mem _ hx)
  obtain ⟨x,hx,h4,h5⟩:=h2
  rcases List.mem_cons.1 hx with rfl | hx
  ·simp [h4,h5];omega
  ·have h6:=oQ (fun x hx=>h1 x (List.mem_cons_of_mem _ hx)) ⟨x,hx,h4,h5⟩
   by_cases hp : p a = true
   ·simp [hp,h1 a (List.mem_cons_self ..) hp];exact h6
   ·simp [hp];split <;> omega
theorem kQ {ts : List Ty} {k : Nat} (h : ¬ dy ts k) : ts.countP (bA ts k) < ts.countP (bA ts (k + 1)):=by
 refine oQ (fun x _=>iZ ts k x) ?_
 unfold dy at h
 simp only [Classical.not_forall] at h
 obtain ⟨t,ht,hne⟩:=h
 refine ⟨t,ht,?_⟩
 cases h1 : bA ts k t with
 | false =>
  refine ⟨?_,F⟩
  cases h2 : bA ts (k + 1) t with
  | false=>rw [h1,h2] at hne;exact absurd F hne
  | true=>rfl
 | true=>rw [iZ ts k t h1,h1] at hne;exact absurd F hne
theorem rk (ts : List Ty) (k : Nat) : dy ts k ∨ k + 1 ≤ ts.countP (bA ts (k + 1)):=by
 induction k with
 | zero =>
  by_cases h : dy ts 0
  ·exact .inl h
  ·have:=kQ h;exact .inr oM
 | succ k ih =>
  by_cases h : dy ts (k + 1)
  ·exact .inl h
  ·have:=kQ h
   rcases ih with h3 | h3
   ·exact absurd (kW h3) h
   ·exact .inr oM
theorem uv {ts : List Ty} {t : Ty} (hl : ts.length ≤ 8) (ht : t ∈ ts) : bA ts 9 t = bA ts (ts.length + 1) t:=by
 have hs : dy ts ts.length:=by
  rcases rk ts ts.length with h | h
  ·exact h
  ·have:=List.countP_le_length (p:=bA ts (ts.length + 1)) (l:=ts)
   omega
 have h1:=lW hs (9 - ts.length) t ht
 have h2:=lW hs 1 t ht
 rw [show ts.length + (9 - ts.length) = 9 by omega] at h1
 rw [h1,h2]
def dZ (k : Nat) (s : ye) : Int:=if (ao k s).2.2 = true then ((ao k s).1.length : Int) else -1
theorem e9 {k : Nat} : ∀ {s a b : ye},ao k s = (a,b,true) → ∃ c : UInt8,c.toNat = k ∧ s = a ++ c :: b
 | [],a,b,h=>by simp [ao] at h
 | c :: r,a,b,h=>by
  unfold ao at h
  split at h
  ·rename_i hc
   simp only [Prod.mk.injEq,and_true] at h
   obtain ⟨rfl,rfl⟩:=h
   exact ⟨c,hc,F⟩
  ·simp only [Prod.mk.injEq] at h
   obtain ⟨rfl,h2,h3⟩:=h
   obtain ⟨d,hd,hr⟩:=e9 (k:=k) (s:=r) (a:=(ao k r).1) (b:=b) (by rw [← h2,← h3])
   exact ⟨d,hd,by rw [List.cons_append,← hr]⟩
theorem dM {k : Nat} : ∀ {s : ye},(ao k s).2.2 = false → ao k s = (s,[],false)
 | [],h=>rfl
 | c :: r,h=>by
  unfold ao at h ⊢
  split at h
  ·cases h
  ·rename_i hc
   rw [if_neg hc,dM (s:=r) h]
theorem gG {k : Nat} {s : ye} : (ao k s).1.length ≤ s.length ∧ (ao k s).2.1.length ≤ s.length:=by
 cases h : (ao k s).2.2 with
 | false=>rw [dM h];simp
 | true =>
  obtain ⟨c,_,e⟩:=e9 (k:=k) (s:=s) (a:=(ao k s).1) (b:=(ao k s).2.1) (by rw [← h])
  have:=congrArg List.length e
  simp at this
  omega
theorem mR (s : ye) (c : UInt8) : Lib.indexByte s c = dZ c.toNat s:=by
 induction s with
 | nil=>rfl
 | cons b r ih =>
  unfold Lib.indexByte
  by_cases hb : b = c
  ·subst hb;simp [dZ,ao]
  ·have hb2 : ¬ b.toNat = c.toNat:=fun h=>hb (UInt8.toNat_inj.1 h)
   have hb3 : (b == c) = false:=by simpa using hb
   rw [hb3,ih]
   unfold dZ
   rw [ao,if_neg hb2]
   dsimp only
   cases (ao c.toNat r).2.2 <;> simp
theorem pb {s : ye} {c : UInt8} : aI yd 206 [S s,U8 c.toNat] G (· = I (dZ c.toNat s)):=by
 have hx : ∀ w,(callFunc 216 [S s,U8 c.toNat].toArray).run yd w = .ok (.value (I (dZ c.toNat s))) w:=fun w=>by
  rw [run_callFunc_extern Tryz.func216 kR kR kR (e:=Extern.BytealgIndexByte.indexByte) kR]
  have:=Lib.run_indexByteString (P:=yd) ⟨s.toArray⟩ (c.toNat : Int) w
  rw [this]
  simp only [Result.andThen]
  rw [mR]
  simp
 refine jE [(0,_),(1,_)] Tryz.func206 Tryz.ntmps206 fun B hB=>?_
 repeat' (refine jR ?_)
 refine qx F (hO (lB F F F hx) F F ?_)
 repeat' (refine jR ?_)
 refine jY (vs:=[_]) ?_
 rfl
theorem ru (c : UInt8) : dZ c.toNat [c] = 0:=by simp [dZ,ao]
theorem pa {s : ye} {c : UInt8} : aI yd 186 [S s,S [c]] G (· = I (dZ c.toNat s)):=by
 have e0 : ((bt [c] (Int.toNat 0) : Nat) : Int) = c.toNat:=by rw [show Int.toNat 0 = 0 from rfl,cL]
 by_cases hs : [c] = s
 ·subst hs
  rw [ru]
  refine jE [(0,_),(1,_)] Tryz.func186 Tryz.ntmps186 fun B hB=>?_
  repeat' (first | refine jR ?_ | (refine jo ?_;refine aG F ?_) | refine aE F F F ?_ | refine ae F (aC F) ?_)
  all_goals refine jY (vs:=[_]) ?_
  all_goals rfl
 ·have cx_ib : aI yd 206 [S s,U8 (bt [c] (Int.toNat 0))] G (· = I (dZ c.toNat s)):=by rw [show (bt [c] (Int.toNat 0)) = c.toNat from cL c []];exact pb
  refine jE [(0,_),(1,_)] Tryz.func186 Tryz.ntmps186 fun B hB=>?_
  repeat' (first | refine jX ?_ | (refine jo ?_;first | refine aG F ?_ | refine ad F F F cx_ib F ?_) | refine aE F F F ?_ | refine ae F F ?_ | refine af F (aF ‹_›) ?_)
  all_goals refine jY (vs:=[_]) ?_
  all_goals rfl
theorem p6 {s : ye} {c : UInt8} : aI yd 187 [S s,S [c]] G (· = I (dZ c.toNat s)):=by
 refine jE [(0,_),(1,_)] Tryz.func187 Tryz.ntmps187 fun B hB=>?_
 repeat' (first | refine jR ?_ | (refine jo ?_;refine ad F F F pa F ?_))
 refine jY (vs:=[_]) ?_
 rfl
theorem mo (k : Nat) (s : ye) : (dZ k s = -1 ∧ ao k s = (s,[],false)) ∨ ∃ i : Nat,dZ k s = i ∧ i < s.length ∧ ao k s = (s.take i,s.drop (i + 1),true):=by
 cases h : (ao k s).2.2 with
 | false=>exact .inl ⟨by simp [dZ,h],dM h⟩
 | true =>
  obtain ⟨c,_,e⟩:=e9 (k:=k) (s:=s) (a:=(ao k s).1) (b:=(ao k s).2.1) (by rw [← h])
  have h5 : ao k s = ((ao k s).1,(ao k s).2.1,true):=by rw [← h]
  have h6 : dZ k s = ((ao k s).1.length : Int):=by simp [dZ,h]
  generalize (ao k s).1 = a at *
  generalize (ao k s).2.1 = b at *
  refine .inr ⟨a.length,h6,?_,?_⟩
  ·have:=congrArg List.length e
   simp at this
   omega
  ·rw [h5,e];simp
theorem wg {s : ye} {c : UInt8} (h : s.length ≤ 9000000000000000000) : aI yd 160 [S s,S [c]] G (· = Tu [S (ao c.toNat s).1,S (ao c.toNat s).2.1,Bo (ao c.toNat s).2.2]):=by
 have hix:=pa (G:=G) (s:=s) (c:=c)
 rcases mo c.toNat s with ⟨h1,h2⟩ | ⟨i,h1,h3,h2⟩
 ·rw [h2]
  have cx_ix : aI yd 186 [S s,S [c]] G (· = I (-1)):=by rwa [h1] at hix
  refine jE [(0,_),(1,_)] Tryz.func160 Tryz.ntmps160 fun B hB=>?_
  repeat' (first | refine jR ?_ | (refine jo ?_;refine ad F F F cx_ix F ?_) | refine af F F ?_)
  all_goals refine jY (vs:=[_,_,_]) ?_
  all_goals rfl
 ·rw [h2]
  have cx_ix : aI yd 186 [S s,S [c]] G (· = I (i : Int)):=by rwa [h1] at hix
  have e2 : ((i : Int) + (([c] : ye).length : Nat)).toNat = i + 1:=by simp only [List.length_cons,List.length_nil];omega
  refine jE [(0,_),(1,_)] Tryz.func160 Tryz.ntmps160 fun B hB=>?_
  repeat' (first | refine jR ?_ | (refine jo ?_;refine ad F F F cx_ix F ?_) | refine ae F F ?_ | (refine al (aw (id:=3) _ (fun _ h=>h) ak ?_);refine jW 0 [0,1,2,3,4,5,6,7,8,9,10,11] (aa 12 4095) ?_;refine jQ ?_))
  all_goals refine jY (vs:=[_,_,_]) ?_
  all_goals (rfl)
theorem mG {s : ye} {c : UInt8} (h : s.length ≤ 9000000000000000000) : aI yd 120 [S s,S [c]] G (· = Tu [S (ao c.toNat s).1,S (ao c.toNat s).2.1,Bo (ao c.toNat s).2.2]):=by
 refine jE [(0,_),(1,_)] Tryz.func120 Tryz.ntmps120 fun B hB=>?_
 repeat' (first | refine jR ?_ | (refine jo ?_;refine ad F F F (wg oM) F ?_))
 all_goals refine jY (vs:=[_,_,_]) ?_
 all_goals rfl
theorem qV {s : ye} {c : UInt8} : aI yd 161 [S s,S [c]] G (· = Bo (decide (0 ≤ dZ c.toNat s))):=by
 refine jE [(0,_),(1,_)] Tryz.func161 Tryz.ntmps161 fun B hB=>?_
 repeat' (first | refine jR ?_ | (refine jo ?_;refine ad F F F p6 F ?_))
 all_goals refine jY (vs:=[_]) ?_
 all_goals rfl
def d4 (k : Nat) (s : ye) : Prop:=∀ c ∈ s,c.toNat ≠ k
def aN (c : UInt8) : List ye → ye
 | []=>[]
 | [x]=>x
 | x :: y :: r=>x ++ c :: aN c (y :: r)
theorem qz (c : UInt8) (x : ye) {xs : List ye} (h : xs ≠ []) : aN c (x :: xs) = x ++ c :: aN c xs:=by
 cases xs with
 | nil=>exact absurd F h
 | cons y r=>rfl
theorem g8 {c : UInt8} : ∀ {s acc : ye},d4 c.toNat acc → aN c (cR c.toNat acc s) = acc ++ s ∧ ∀ x ∈ cR c.toNat acc s,d4 c.toNat x
 | [],acc,h=>by simp [cR,aN];exact h
 | d :: r,acc,h=>by
  unfold cR
  split
  ·rename_i hd
   have hd : d = c:=UInt8.toNat_inj.1 hd
   subst hd
   have ih:=g8 (c:=d) (s:=r) (acc:=[]) (by intro x hx;cases hx)
   have hp : cR d.toNat [] r ≠ []:=fun e=>by have:=lJ (k:=d.toNat) (s:=r) (acc:=[]);rw [e] at this;simp at this
   refine ⟨by rw [qz d acc hp,ih.1];rfl,fun x hx=>?_⟩
   rcases List.mem_cons.1 hx with rfl | hx
   ·exact h
   ·exact ih.2 x hx
  ·rename_i hd
   have ih:=g8 (c:=c) (s:=r) (acc:=acc ++ [d]) (by
    intro x hx
    rcases List.mem_append.1 hx with hx | hx
    ·exact h x hx
    ·simp only [List.mem_singleton] at hx;subst hx;exact hd)
   exact ⟨by rw [ih.1];simp,ih.2⟩
theorem lG (c : UInt8) (s : ye) : aN c (aR c.toNat s) = s:=by have:=(g8 (c:=c) (s:=s) (acc:=[]) (by intro x hx;cases hx)).1;simpa [aR] using this
theorem uw {c : UInt8} {s x : ye} (h : x ∈ aR c.toNat s) : d4 c.toNat x:=(g8 (c:=c) (s:=s) (acc:=[]) (by intro x hx;cases hx)).2 x h
theorem lI {k : Nat} : ∀ {s acc t : ye},d4 k s → cR k acc (s ++ t) = cR k (acc ++ s) t
 | [],acc,t,_=>by simp
 | d :: r,acc,t,h=>by
  rw [List.cons_append,cR,if_neg (h d (by simp)),lI (fun c hc=>h c (by simp [hc]))];simp
theorem my {k : Nat} {s : ye} (h : d4 k s) : aR k s = [s]:=by
 have:=lI (k:=k) (s:=s) (acc:=[]) (t:=[]) h
 simpa [aR,cR] using this
theorem mZ {k : Nat} {s t : ye} {c : UInt8} (h : d4 k s) (hc : c.toNat = k) : aR k (s ++ c :: t) = s :: aR k t:=by
 unfold aR
 rw [lI h,cR,if_pos hc];rfl
theorem lA {c : UInt8} : ∀ {xs : List ye},xs ≠ [] → (∀ x ∈ xs,d4 c.toNat x) → aR c.toNat (aN c xs) = xs
 | [],h,_=>absurd rfl h
 | [x],_,h=>my (h x (by simp))
 | x :: y :: r,_,h=>by
  rw [aN,mZ (h x (by simp)) rfl,lA (by simp) fun z hz=>h z (by simp at hz ⊢;exact .inr hz)]
theorem sP {k : Nat} {s t : ye} {c : UInt8} (h : d4 k s) (hc : c.toNat = k) : ao k (s ++ c :: t) = (s,t,true):=by
 induction s with
 | nil=>rw [List.nil_append,ao,if_pos hc]
 | cons d r ih=>rw [List.cons_append,ao,if_neg (h d (by simp)),ih fun x hx=>h x (by simp [hx])]
theorem oP {k : Nat} {s : ye} (h : d4 k s) : ao k s = (s,[],false):=by
 induction s with
 | nil=>rfl
 | cons d r ih=>rw [ao,if_neg (h d (by simp)),ih fun x hx=>h x (by simp [hx])]
theorem lK {k : Nat} : ∀ {s : ye},d4 k (ao k s).1
 | []=>by intro c hc;cases hc
 | d :: r=>by
  unfold ao
  split
  ·intro c hc;cases hc
  ·rename_i hd
   intro c hc
   rcases List.mem_cons.1 hc with rfl | hc
   ·exact hd
   ·exact lK c hc
theorem jc {k : Nat} (s : ye) : aR k s = if (ao k s).2.2 = true then (ao k s).1 :: aR k (ao k s).2.1 else [s]:=by
 cases h : (ao k s).2.2 with
 | false =>
  rw [if_neg (by simp)]
  have h1:=dM h
  refine my ?_
  have:=lK (k:=k) (s:=s)
  rwa [h1] at this
 | true =>
  rw [if_pos rfl]
  obtain ⟨c,hc,e⟩:=e9 (k:=k) (s:=s) (a:=(ao k s).1) (b:=(ao k s).2.1) (by rw [← h])
  conv=>{ lhs;rw [e] }
  exact mZ lK hc
theorem iU {s : ye} {k : Nat} (h : bH s = true) (hk : k < 97) : d4 k s:=by
 intro c hc
 simp only [bH,Bool.and_eq_true,List.all_eq_true] at h
 have:=h.1 c hc
 simp only [gX,decide_eq_true_eq] at this
 omega
theorem oK {n m : Int} : ∀ {s : ye},ch n s = some m → ∀ c ∈ s,48 ≤ c.toNat ∧ c.toNat ≤ 57
 | [],_,c,hc=>by cases hc
 | d :: r,h,c,hc=>by
  unfold ch at h
  split at h
  ·rename_i hd
   rcases List.mem_cons.1 hc with rfl | hc
   ·exact hd
   ·exact oK h c hc
  ·cases h
theorem nj {s : ye} {top n : Int} (h : aQ s top = some n) : ∀ c ∈ s,48 ≤ c.toNat ∧ c.toNat ≤ 57:=by
 unfold aQ at h
 split at h
 ·split at h
  ·rename_i hd;exact oK hd
  ·cases h
 ·cases h
theorem kg {s : ye} {top n : Int} {k : Nat} (h : aQ s top = some n) (hk : 57 < k) : d4 k s:=fun c hc=>by
 have:=nj h c hc;omega
theorem rt {s : ye} (h : db s = true) {c : UInt8} (hc : c ∈ s) : c.toNat = 39 ∨ gf c.toNat:=by
 unfold db at h
 simp only [decide_eq_true_eq] at h
 obtain ⟨h1,h2,h3,h4⟩:=h
 obtain ⟨i,hi,rfl⟩:=List.mem_iff_getElem.1 hc
 have e : bt s i = (s[i]).toNat:=by simp [bt,List.getD,List.getElem?_eq_getElem hi]
 rw [← e]
 rcases Nat.lt_or_ge i (s.length - 1) with h5 | h5
 ·rcases h4 i h5 with h6 | h6
  ·subst h6;exact .inl h2
  ·exact .inr h6
 ·have : i = s.length - 1:=oM
  subst this;exact .inl h3
theorem kV {d v : ye} {k : Nat} (h : bn d v = true) (hk : k = 58 ∨ k = 61) : d4 k v:=by
 intro c hc
 unfold bn at h
 split at h
 ·simp only [Bool.and_eq_true] at h
  obtain ⟨n,hn⟩:=Option.isSome_iff_exists.1 h.1
  have:=nj hn c hc;omega
 ·split at h
  ·simp only [Bool.and_eq_true] at h
   have:=rt h.1 hc
   unfold gf at this;omega
  ·split at h
   ·simp only [decide_eq_true_eq] at h
    subst h
    simp only [List.mem_cons,List.not_mem_nil,or_false] at hc
    rcases hc with rfl | rfl | rfl <;> (rcases hk with rfl | rfl <;> decide)
   ·cases h
theorem jf : ∀ s : ye,(ay s).length ≤ s.length
 | []=>Nat.le_refl _
 | c :: r=>by
  unfold ay
  split
  ·have:=jf r;simp;omega
  ·exact Nat.le_refl _
def sg (s : ye) : ye:=s.take (s.length - (ay s).length)
def lf : ye → ye
 | []=>[]
 | c :: r=>if c.toNat = 64 then [64] else c :: r
def bs (s : ye) : ye:=lf (ay s)
def nm (s : ye) : ye:=(a9 (ay s)).getD []
theorem pJ {k : Nat} (hk : k = 58 ∨ k = 61) : ∀ {s : ye},dV s = true → d4 k s
 | [],h=>by cases h
 | c :: r,h=>by
  unfold dV at h
  split at h
  ·rename_i hc
   intro d hd
   rcases List.mem_cons.1 hd with rfl | hd
   ·omega
   ·exact pJ hk h d hd
  ·split at h
   ·rename_i hc
    simp only [Bool.and_eq_true,decide_eq_true_eq] at h
    intro d hd
    rcases List.mem_cons.1 hd with rfl | hd
    ·omega
    ·obtain ⟨i,hi,rfl⟩:=List.mem_iff_getElem.1 hd
     rcases Nat.lt_or_ge i (r.length - 1) with h5 | h5
     ·refine iU h.2 oM _ ?_
      exact List.mem_iff_getElem.2 ⟨i,by simp;omega,by simp⟩
     ·have h1 : bt (c :: r) r.length = 59:=oM
      have e : i = r.length - 1:=oM
      obtain ⟨m,hm⟩ : ∃ m,r.length = m + 1:=⟨r.length - 1,oM⟩
      rw [hm,dJ] at h1
      have : bt r m = (r[m]'oM).toNat:=by simp [bt,List.getD,List.getElem?_eq_getElem (show m < r.length by omega)]
      have e2 : i = m:=oM
      subst e2
      omega
   ·simp only [Bool.and_eq_true,Bool.or_eq_true,decide_eq_true_eq] at h
    intro d hd
    obtain ⟨rfl,h⟩:=h
    simp only [List.mem_singleton] at hd
    subst hd;omega
theorem fq {k : Nat} (hk : k = 58 ∨ k = 61) {s : ye} (h : be s = true) : d4 k s:=by
 unfold be at h;simp only [Bool.and_eq_true] at h;exact pJ hk h.2
def km (s : ye) (k : Nat) : Option Fld :=
 match aR 58 (ao 61 s).1 with
 | [a,b]=>if k = 69 ∧ (ao 61 s).2.2 = false then
   match aQ a 200 with
   | some n=>if 1 ≤ n ∧ bH b = true then some ⟨n,b,[],[]⟩ else none
   | none=>none
  else none
 | [a,b,c]=>if k = 69 then none else
   match aQ a 200 with
   | some n=>if (1 ≤ n ∧ bH b = true) ∧ be c = true ∧ ((ao 61 s).2.2 = true → k = 82 ∧ bn c (ao 61 s).2.1 = true) then some ⟨n,b,c,(ao 61 s).2.1⟩ else none
   | none=>none
 | _=>none
theorem eC {k : Nat} {a b : ye} : d4 k (a ++ b) ↔ d4 k a ∧ d4 k b:=by
 constructor
 ·intro h;exact ⟨fun c hc=>h c (by simp [hc]),fun c hc=>h c (by simp [hc])⟩
 ·intro h c hc
  rcases List.mem_append.1 hc with hc | hc
  ·exact h.1 c hc
  ·exact h.2 c hc
theorem fK {k : Nat} {c : UInt8} {b : ye} : d4 k (c :: b) ↔ c.toNat ≠ k ∧ d4 k b:=by
 constructor
 ·intro h;exact ⟨h c (by simp),fun d hd=>h d (by simp [hd])⟩
 ·intro h d hd
  rcases List.mem_cons.1 hd with rfl | hd
  ·exact h.1
  ·exact h.2 d hd
theorem qN {s : ye} {xs : List ye} (h : aR 58 s = xs) : s = aN 58 xs ∧ ∀ x ∈ xs,d4 58 x:=by
 subst h
 exact ⟨(lG 58 s).symm,fun x hx=>uw (c:=58) hx⟩
theorem mV (s : ye) (k : Nat) : km s k = bz s k:=by
 apply Option.ext
 intro f
 constructor
 ·intro h
  unfold km at h
  split at h
  ·rename_i a b e
   split at h
   ·rename_i hk
    have hs:=dM hk.2
    rw [hs] at e
    unfold bz
    rw [e]
    simp only [hk.1,if_true]
    exact h
   ·cases h
  ·rename_i a b c e
   split at h
   ·cases h
   ·rename_i hk
    split at h
    ·rename_i n hn
     split at h
     ·rename_i hg
      simp only [Option.some.injEq] at h;subst h
      cases ht : (ao 61 s).2.2 with
      | false =>
       have hs:=dM ht
       rw [hs] at e ⊢
       have hc61 : aR 61 c = [c]:=my (fq (.inr rfl) hg.2.1)
       unfold bz
       rw [e]
       simp [hk,hn,hg.1.1,hg.1.2,hc61,hg.2.1]
      | true =>
       have hst:=hg.2.2 ht
       obtain ⟨d,hd,es⟩:=e9 (k:=61) (s:=s) (a:=(ao 61 s).1) (b:=(ao 61 s).2.1) (by rw [← ht])
       generalize (ao 61 s).1 = hd1 at *
       generalize (ao 61 s).2.1 = v at *
       have hd : d = 61:=UInt8.toNat_inj.1 hd
       subst hd
       obtain ⟨e1,e2⟩:=qN e
       have e3 : s = aN 58 [a,b,c ++ 61 :: v]:=by rw [es,e1];simp [aN]
       have e4 : aR 58 s = [a,b,c ++ 61 :: v]:=by
        rw [e3]
        refine lA (c:=58) (by simp) fun x hx=>?_
        simp only [List.mem_cons,List.not_mem_nil,or_false] at hx
        rcases hx with rfl | rfl | rfl
        ·exact e2 _ (by simp)
        ·exact e2 _ (by simp)
        ·exact eC.2 ⟨e2 _ (by simp),fK.2 ⟨by decide,kV hst.2 (.inl F)⟩⟩
       have e5 : aR 61 (c ++ 61 :: v) = [c,v]:=by
        rw [mZ (k:=61) (fq (.inr rfl) hg.2.1) rfl,my (kV hst.2 (.inr rfl))]
       unfold bz
       rw [e4]
       simp [hk,hn,hg.1.1,hg.1.2,e5,hst.1,hst.2]
     ·cases h
    ·cases h
  ·cases h
 ·intro h
  unfold bz at h
  split at h
  ·rename_i a b e
   split at h
   ·rename_i hk
    split at h
    ·rename_i n hn
     split at h
     ·rename_i hg
      obtain ⟨e1,e2⟩:=qN e
      have hno : d4 61 s:=by rw [e1];simp only [aN];exact eC.2 ⟨kg hn oM,fK.2 ⟨by decide,iU hg.2 oM⟩⟩
      unfold km
      rw [oP hno,e]
      simp only [hk,hn,hg,and_self,if_true]
      exact h
     ·cases h
    ·cases h
   ·cases h
  ·rename_i a b c e
   split at h
   ·cases h
   ·rename_i hk
    split at h
    ·rename_i n hn
     split at h
     ·rename_i hg
      obtain ⟨e1,e2⟩:=qN e
      split at h
      ·rename_i d e3
       split at h
       ·rename_i hd
        simp only [Option.some.injEq] at h;subst h
        have e4 : c = d:=by have:=lG 61 c;rw [show (61 : UInt8).toNat = 61 from rfl,e3] at this;exact this.symm
        subst e4
        have hno : d4 61 s:=by rw [e1];simp only [aN];exact eC.2 ⟨kg hn oM,fK.2 ⟨by decide,eC.2 ⟨iU hg.2 oM,fK.2 ⟨by decide,fq (.inr F) hd⟩⟩⟩⟩
        unfold km
        rw [oP hno,e]
        simp [hk,hn,hg.1,hg.2,hd]
       ·cases h
      ·rename_i d v e3
       split at h
       ·rename_i hd
        simp only [Option.some.injEq] at h;subst h
        have e4 : c = d ++ 61 :: v:=by have:=lG 61 c;rw [show (61 : UInt8).toNat = 61 from rfl,e3] at this;exact this.symm
        subst e4
        have hkd:=jJ hd.2
        have es : s = aN 58 [a,b,d] ++ 61 :: v:=by rw [e1];simp [aN]
        have hno : d4 61 (aN 58 [a,b,d]):=by simp only [aN];exact eC.2 ⟨kg hn oM,fK.2 ⟨by decide,eC.2 ⟨iU hg.2 oM,fK.2 ⟨by decide,fq (.inr F) hkd⟩⟩⟩⟩
        have e5 : aR 58 (aN 58 [a,b,d]) = [a,b,d]:=by
         refine lA (c:=58) (by simp) fun x hx=>?_
         simp only [List.mem_cons,List.not_mem_nil,or_false] at hx
         rcases hx with rfl | rfl | rfl
         ·exact e2 _ (by simp)
         ·exact e2 _ (by simp)
         ·exact fq (.inl F) hkd
        unfold km
        rw [es,sP (k:=61) hno rfl,e5]
        simp [hn,hg.1,hg.2,hkd,hd.1,hd.2]
       ·cases h
      ·cases h
     ·cases h
    ·cases h
  ·cases h
def tag0 (t : Ty) : Int:=(t.fields.headD default).tag
def bN (ts : List Ty) : Nat → ye → ye
 | 0,_=>[]
 | _ + 1,[]=>[]
 | n + 1,c :: r=>if c.toNat = 91 then [91,93] else if c.toNat = 63 then [45] else
   match aK ts (c :: r) with
   | none=>eB (c :: r)
   | some t=>if t.sort = 82 then [123,125] else if t.sort = 69 then 35 :: a7 (tag0 t) else 60 :: (a7 (tag0 t) ++ 61 :: (bN ts n (d5 t) ++ [62]))
def jP (ts : List Ty) (k : ye) : ye:=bN ts (ts.length + 2) k
def cF (ts : List Ty) (f : Fld) : ye:=if f.stand = [] then jP ts f.kind else f.stand
def cC (fs : List Fld) (tag : Int) : Option Fld:=fs.find? fun f=>decide (f.tag = tag)
def er (ts us : List Ty) (kk : ye → ye → List Pr → Bool × List Pr) (t u : Ty) : List Fld → List Pr → Bool × List Pr
 | [],m=>(true,m)
 | g :: gs,m=>match cC t.fields g.tag with
  | none=>if u.sort = 82 then er ts us kk t u gs m else (false,m)
  | some f=>if u.sort = 69 then er ts us kk t u gs m
    else if (kk f.kind g.kind m).1 = false then (false,(kk f.kind g.kind m).2)
    else if u.sort = 82 ∧ cF ts f ≠ cF us g then (false,(kk f.kind g.kind m).2)
    else er ts us kk t u gs (kk f.kind g.kind m).2
def kr (ts us : List Ty) (kk : ye → ye → List Pr → Bool × List Pr) (t u : Ty) (m : List Pr) : Bool × List Pr :=
 if t.sort ≠ u.sort then (false,m) else er ts us kk t u u.fields m
def gF (ts us : List Ty) (kk : ye → ye → List Pr → Bool × List Pr) (t u : Ty) (m : List Pr) : Bool × List Pr :=
 if (t.name,u.name) ∈ m then (true,m) else kr ts us kk t u (m ++ [(t.name,u.name)])
def cQ (ts us : List Ty) : Nat → ye → ye → List Pr → Bool × List Pr
 | 0,_,_,m=>(false,m)
 | n + 1,k1,k2,m=>if sg k1 ≠ sg k2 then (false,m)
  else match aK ts (ay k1),aK us (ay k2) with
   | some t,some u=>gF ts us (cQ ts us n) t u m
   | _,_=>(decide (ay k1 = ay k2),m)
structure AskW (ts us : List Ty) (m : List Pr) : Prop where
 nd : m.Nodup
 mem : ∀ p ∈ m,(∃ t ∈ ts,t.name = p.1) ∧ ∃ u ∈ us,u.name = p.2
theorem AskW.nil {ts us : List Ty} : AskW ts us []:=⟨List.nodup_nil,by simp⟩
theorem AskW.snoc {ts us : List Ty} {m : List Pr} {t u : Ty} (h : AskW ts us m) (ht : t ∈ ts) (hu : u ∈ us) (hn : (t.name,u.name) ∉ m) : AskW ts us (m ++ [(t.name,u.name)]) :=
 ⟨List.nodup_append.2 ⟨h.nd,by simp,fun a ha b hb e=>by simp only [List.mem_singleton] at hb;subst hb;subst e;exact hn ha⟩,fun p hp=>by
  rcases List.mem_append.1 hp with hp | hp
  ·exact h.mem p hp
  ·simp only [List.mem_singleton] at hp;subst hp;exact ⟨⟨t,ht,F⟩,u,hu,F⟩⟩
theorem n8 {α : Type} [DecidableEq α] : ∀ {l l' : List α},l.Nodup → (∀ x ∈ l,x ∈ l') → l.length ≤ l'.length
 | [],_,_,_=>Nat.zero_le _
 | a :: l,l',hn,hs=>by
  rw [List.nodup_cons] at hn
  have ha:=hs a (.head _)
  have:=n8 (l:=l) (l':=l'.erase a) hn.2 fun x hx=>by
   have hx':=hs x (.tail _ hx)
   exact (List.mem_erase_of_ne (fun e=>hn.1 (by rw [← e];exact hx))).2 hx'
  rw [List.length_erase_of_mem ha] at this
  have hp : 0 < l'.length:=List.length_pos_of_mem ha
  simp only [List.length_cons];omega
theorem AskW.len {ts us : List Ty} {m : List Pr} (h : AskW ts us m) : m.length ≤ ts.length * us.length:=by
 have h1 : m.length ≤ (ts.flatMap fun t=>us.map fun u=>(t.name,u.name)).length:=n8 h.nd fun p hp=>by
  obtain ⟨⟨t,ht,e1⟩,u,hu,e2⟩:=h.mem p hp
  exact List.mem_flatMap.2 ⟨t,ht,List.mem_map.2 ⟨u,hu,by rw [e1,e2]⟩⟩
 have h2 : ∀ ts : List Ty,(ts.flatMap fun t=>us.map fun u=>(t.name,u.name)).length = ts.length * us.length:=fun ts=>by
  induction ts with
  | nil=>simp
  | cons t ts ih=>rw [List.flatMap_cons,List.length_append,ih,List.length_map,List.length_cons,Nat.succ_mul,Nat.add_comm]
 rw [h2] at h1;exact h1
def mI (ts us : List Ty) (m m' : List Pr) : Prop:=AskW ts us m' ∧ m.length ≤ m'.length
theorem gj {ts us : List Ty} {kk : ye → ye → List Pr → Bool × List Pr} {t u : Ty} (hk : ∀ (f g : Fld) (m : List Pr),AskW ts us m → mI ts us m (kk f.kind g.kind m).2) :
  ∀ (gs : List Fld) (m : List Pr),AskW ts us m → mI ts us m (er ts us kk t u gs m).2
 | [],m,h=>⟨h,Nat.le_refl _⟩
 | g :: gs,m,h=>by
  unfold er
  split
  ·split
   ·exact gj hk gs m h
   ·exact ⟨h,Nat.le_refl _⟩
  ·rename_i f _
   have h1:=hk f g m h
   split
   ·exact gj hk gs m h
   ·split
    ·exact h1
    ·split
     ·exact h1
     ·have h2:=gj (t:=t) (u:=u) hk gs _ h1.1
      exact ⟨h2.1,Nat.le_trans h1.2 h2.2⟩
theorem qJ {ts us : List Ty} {kk : ye → ye → List Pr → Bool × List Pr} {t u : Ty} (hk : ∀ (f g : Fld) (m : List Pr),AskW ts us m → mI ts us m (kk f.kind g.kind m).2) (ht : t ∈ ts) (hu : u ∈ us) (m : List Pr) (h : AskW ts us m) : mI ts us m (gF ts us kk t u m).2:=by
 unfold gF
 split
 ·exact ⟨h,Nat.le_refl _⟩
 ·rename_i hn
  have h1:=h.snoc ht hu hn
  unfold kr
  split
  ·exact ⟨h1,by simp⟩
  ·have h2:=gj (t:=t) (u:=u) hk u.fields _ h1
   exact ⟨h2.1,by have:=h2.2;simp at this ⊢;omega⟩
theorem iY {ts us : List Ty} : ∀ (n : Nat) (k1 k2 : ye) (m : List Pr),AskW ts us m → mI ts us m (cQ ts us n k1 k2 m).2
 | 0,_,_,m,h=>⟨h,Nat.le_refl _⟩
 | n + 1,k1,k2,m,h=>by
  unfold cQ
  split
  ·exact ⟨h,Nat.le_refl _⟩
  ·split
   ·rename_i t u ht hu
    exact qJ (fun f g m h=>iY n f.kind g.kind m h) (bM ht) (bM hu) m h
   ·exact ⟨h,Nat.le_refl _⟩
def bP (s k r l : ye) : Bool:=match ar s,ar r with
 | some ts,some us=>(aO ts k && aO us l) && (cQ ts us (ts.length * us.length + 1) k l []).1
 | _,_=>false
theorem eZ {ts : List Ty} {k : ye} (h : aO ts k = true) (hr : (a9 (ay k)).isSome = true) : ∃ t,aK ts (ay k) = some t:=by
 unfold aO dv at h
 unfold aK
 cases hc : a9 (ay k) with
 | none=>rw [hc] at hr;cases hr
 | some n =>
  rw [hc] at h
  simp only [Bool.and_eq_true] at h
  obtain ⟨_,h⟩:=h
  exact Option.isSome_iff_exists.1 h
inductive V where
 | nd (what : Nat) (text : ye) (tag : Int) (kids : List V)
instance : Inhabited V:=⟨.nd 0 [] 0 []⟩
def V.what : V → Nat | .nd w _ _ _=>w
def V.text : V → ye | .nd _ x _ _=>x
def V.tag : V → Int | .nd _ _ t _=>t
def du (w : Nat) (x : ye) (t : Int) (e : Bool) (j : ye) : ye :=
 if w = 116 then 39 :: (x ++ [39]) else if w = 91 then 91 :: (j ++ [93]) else if w = 63 then (if e = true then [45] else 43 :: j)
 else if w = 61 then a7 t ++ 61 :: j else if w = 82 then 123 :: (j ++ [125]) else if w = 85 then 60 :: (a7 t ++ 61 :: (j ++ [62])) else if w = 69 then 35 :: a7 t else x
mutual
def V.out : V → ye
 | .nd w x t ks=>du w x t ks.isEmpty (aN 44 (V.outs ks))
def V.outs : List V → List ye
 | []=>[]
 | v :: r=>V.out v :: V.outs r
end
mutual
def V.deep : V → Nat
 | .nd w _ _ ks=>if w = 61 then V.deeps ks else V.deeps ks + 1
def V.deeps : List V → Nat
 | []=>0
 | v :: r=>max (V.deep v) (V.deeps r)
end
def wz (w : Nat) (e : Bool) : Bool:=(decide (w = 110) || decide (w = 116) || decide (w = 102) || decide (w = 69)) || (decide (w = 63) && e)
mutual
def V.size : V → Nat
 | .nd w _ _ ks=>if wz w ks.isEmpty = true then 1 else V.sizes ks
def V.sizes : List V → Nat
 | []=>0
 | v :: r=>V.size v + V.sizes r
end
theorem V.outs_map : ∀ ks : List V,V.outs ks = ks.map V.out
 | []=>rfl
 | v :: r=>by rw [V.outs,V.outs_map r];rfl
def bj (c : UInt8) : Bool:=decide (48 ≤ c.toNat ∧ c.toNat ≤ 57)
def bZ (top : Int) (s : ye) : Option (Int × ye):=(aQ (s.takeWhile bj) top).map fun n=>(n,s.dropWhile bj)
def bc (f : ye → Option (V × ye)) : Nat → ye → List V → Option (List V × ye)
 | 0,_,_=>none
 | m + 1,s,acc=>match f s with
  | none=>none
  | some (v,r)=>match r with
   | []=>none
   | c :: r'=>if c.toNat = 44 then bc f m r' (acc ++ [v]) else if c.toNat = 93 then some (acc ++ [v],r') else none
def aX (f : ye → ye → Option (V × ye)) (t : Ty) (s : ye) : Option ((Fld × V) × ye) :=
 match bZ 200 s with
 | none=>none
 | some (n,r)=>match cC t.fields n with
  | none=>none
  | some d=>match r with
   | []=>none
   | c :: r'=>if c.toNat = 61 then (f d.kind r').map fun x=>((d,x.1),x.2) else none
def bK (ts : List Ty) (f : ye → ye → Option (V × ye)) (t : Ty) : Nat → Int → ye → List V → Option (List V × ye)
 | 0,_,_,_=>none
 | m + 1,last,s,acc=>match aX f t s with
  | none=>none
  | some ((d,v),r)=>if d.tag ≤ last ∨ v.out = cF ts d then none else match r with
   | []=>none
   | c :: r'=>if c.toNat = 44 then bK ts f t m d.tag r' (acc ++ [.nd 61 [] d.tag [v]]) else if c.toNat = 125 then some (acc ++ [.nd 61 [] d.tag [v]],r') else none
def bC (ts : List Ty) (f : ye → ye → Option (V × ye)) (t : Ty) : ye → Option (V × ye)
 | []=>none
 | c :: s=>if t.sort = 82 then
   (if c.toNat = 123 then (match s with
    | []=>none
    | c' :: r=>if c'.toNat = 125 then some (.nd 82 [] 0 [],r) else (bK ts f t (s.length + 1) 0 s []).map fun x=>(.nd 82 [] 0 x.1,x.2)) else none)
  else if t.sort = 69 then
   (if c.toNat = 35 then (match bZ 200 s with
    | none=>none
    | some (n,r)=>if (cC t.fields n).isSome = true then some (.nd 69 [] n [],r) else none) else none)
  else if c.toNat = 60 then (match aX f t s with
    | none=>none
    | some ((d,v),r)=>match r with
     | []=>none
     | c' :: r'=>if c'.toNat = 62 then some (.nd 85 [] d.tag [v],r') else none)
   else none
def cY : ye → Option (V × ye)
 | []=>none
 | c :: s=>if c.toNat = 39 then (match ao 39 s with
   | (x,r,true)=>if db (39 :: (x ++ [39])) = true then some (.nd 116 x 0 [],r) else none
   | _=>none) else none
def en (s : ye) : Option (V × ye) :=
 if [121,101,115].isPrefixOf s = true then some (.nd 102 [121,101,115] 0 [],s.drop 3) else if [110,111].isPrefixOf s = true then some (.nd 102 [110,111] 0 [],s.drop 2) else none
def d3 (ts : List Ty) (f : ye → ye → Option (V × ye)) : ye → ye → Option (V × ye)
 | [],_=>none
 | c :: k,s =>
  if c.toNat = 91 then (match s with
   | []=>none
   | d :: s'=>if d.toNat = 91 then (match s' with
     | []=>none
     | e :: r=>if e.toNat = 93 then some (.nd 91 [] 0 [],r) else (bc (f k) 20 s' []).map fun x=>(.nd 91 [] 0 x.1,x.2)) else none)
  else if c.toNat = 63 then (match s with
   | []=>none
   | d :: s'=>if d.toNat = 45 then some (.nd 63 [] 0 [],s') else if d.toNat = 43 then (f k s').map fun x=>(.nd 63 [] 0 [x.1],x.2) else none)
  else match aK ts (c :: k) with
   | some t=>bC ts f t s
   | none=>if c.toNat = 110 then (bZ 999999 s).map fun x=>(.nd 110 (a7 x.1) 0 [],x.2) else if c.toNat = 116 then cY s else if c.toNat = 102 then en s else none
def rd (ts : List Ty) : Nat → ye → ye → Option (V × ye)
 | 0,_,_=>none
 | n + 1,k,s=>d3 ts (rd ts n) k s
def cW (ts : List Ty) (k s : ye) : Option V:=if s.length ≤ 400 then (match rd ts 12 k s with
 | some (v,[])=>some v
 | _=>none) else none
theorem j9 {f g : ye → Option (V × ye)} (h : ∀ s x,f s = some x → g s = some x) : ∀ (m : Nat) (s : ye) (acc : List V) {x : List V × ye},bc f m s acc = some x → bc g m s acc = some x
 | 0,_,_,_,e=>by cases e
 | m + 1,s,acc,x,e=>by
  unfold bc at e ⊢
  cases hf : f s with
  | none=>rw [hf] at e;cases e
  | some y =>
   rw [hf] at e
   rw [h s y hf]
   obtain ⟨v,r⟩:=y
   cases r with
   | nil=>exact e
   | cons c r =>
    dsimp only at e ⊢
    split at e
    ·rename_i hc;rw [if_pos hc];exact j9 h m r _ e
    ·rename_i hc;rw [if_neg hc];exact e
theorem ke {f g : ye → ye → Option (V × ye)} (h : ∀ k s x,f k s = some x → g k s = some x) (t : Ty) (s : ye) {x : (Fld × V) × ye} (e : aX f t s = some x) : aX g t s = some x:=by
 unfold aX at e ⊢
 cases hn : bZ 200 s with
 | none=>rw [hn] at e;cases e
 | some y =>
  rw [hn] at e
  obtain ⟨n,r⟩:=y
  dsimp only at e ⊢
  cases hd : cC t.fields n with
  | none=>rw [hd] at e;cases e
  | some d =>
   rw [hd] at e
   cases r with
   | nil=>cases e
   | cons c r' =>
    dsimp only at e ⊢
    by_cases hc : c.toNat = 61
    ·rw [if_pos hc] at e ⊢
     cases hf : f d.kind r' with
     | none=>rw [hf] at e;cases e
     | some y=>rw [hf] at e;rw [h _ _ y hf];exact e
    ·rw [if_neg hc] at e;cases e
theorem k5 {ts : List Ty} {f g : ye → ye → Option (V × ye)} (h : ∀ k s x,f k s = some x → g k s = some x) (t : Ty) : ∀ (m : Nat) (last : Int) (s : ye) (acc : List V) {x : List V × ye},bK ts f t m last s acc = some x → bK ts g t m last s acc = some x
 | 0,_,_,_,_,e=>by cases e
 | m + 1,last,s,acc,x,e=>by
  unfold bK at e ⊢
  cases hf : aX f t s with
  | none=>rw [hf] at e;cases e
  | some y =>
   rw [hf] at e
   rw [ke h t s hf]
   obtain ⟨⟨d,v⟩,r⟩:=y
   dsimp only at e ⊢
   split at e
   ·cases e
   ·rename_i hd
    rw [if_neg hd]
    cases r with
    | nil=>exact e
    | cons c r =>
     dsimp only at e ⊢
     split at e
     ·rename_i hc;rw [if_pos hc];exact k5 h t m _ r _ e
     ·rename_i hc;rw [if_neg hc];exact e
theorem nZ {ts : List Ty} {f g : ye → ye → Option (V × ye)} (h : ∀ k s x,f k s = some x → g k s = some x) (t : Ty) : ∀ (s : ye) {x : V × ye},bC ts f t s = some x → bC ts g t s = some x
 | [],_,e=>by cases e
 | c :: s,x,e=>by
  unfold bC at e ⊢
  dsimp only at e ⊢
  by_cases h82 : t.sort = 82
  ·rw [if_pos h82] at e ⊢
   by_cases hc : c.toNat = 123
   ·rw [if_pos hc] at e ⊢
    cases s with
    | nil=>exact e
    | cons c' r =>
     dsimp only at e ⊢
     by_cases hc' : c'.toNat = 125
     ·rw [if_pos hc'] at e ⊢;exact e
     ·rw [if_neg hc'] at e ⊢
      cases hf : bK ts f t ((c' :: r).length + 1) 0 (c' :: r) [] with
      | none=>rw [hf] at e;cases e
      | some y=>rw [hf] at e;rw [k5 h t _ _ _ _ hf];exact e
   ·rw [if_neg hc] at e;cases e
  ·rw [if_neg h82] at e ⊢
   by_cases h69 : t.sort = 69
   ·rw [if_pos h69] at e ⊢;exact e
   ·rw [if_neg h69] at e ⊢
    by_cases hc : c.toNat = 60
    ·rw [if_pos hc] at e ⊢
     cases hf : aX f t s with
     | none=>rw [hf] at e;cases e
     | some y=>rw [hf] at e;rw [ke h t s hf];exact e
    ·rw [if_neg hc] at e;cases e
theorem sq {ts : List Ty} {f g : ye → ye → Option (V × ye)} (ih : ∀ k s x,f k s = some x → g k s = some x) : ∀ (k s : ye) {x : V × ye},d3 ts f k s = some x → d3 ts g k s = some x
 | [],_,_,e=>by cases e
 | c :: k,s,x,e=>by
  unfold d3 at e ⊢
  dsimp only at e ⊢
  by_cases h91 : c.toNat = 91
  ·rw [if_pos h91] at e ⊢
   cases s with
   | nil=>exact e
   | cons d s' =>
    dsimp only at e ⊢
    by_cases hd : d.toNat = 91
    ·rw [if_pos hd] at e ⊢
     cases s' with
     | nil=>exact e
     | cons e' r =>
      dsimp only at e ⊢
      by_cases he : e'.toNat = 93
      ·rw [if_pos he] at e ⊢;exact e
      ·rw [if_neg he] at e ⊢
       cases hf : bc (f k) 20 (e' :: r) [] with
       | none=>rw [hf] at e;cases e
       | some y=>rw [hf] at e;rw [j9 (ih k) _ _ _ hf];exact e
    ·rw [if_neg hd] at e;cases e
  ·rw [if_neg h91] at e ⊢
   by_cases h63 : c.toNat = 63
   ·rw [if_pos h63] at e ⊢
    cases s with
    | nil=>exact e
    | cons d s' =>
     dsimp only at e ⊢
     by_cases hd : d.toNat = 45
     ·rw [if_pos hd] at e ⊢;exact e
     ·rw [if_neg hd] at e ⊢
      by_cases hd2 : d.toNat = 43
      ·rw [if_pos hd2] at e ⊢
       cases hf : f k s' with
       | none=>rw [hf] at e;cases e
       | some y=>rw [hf] at e;rw [ih k s' y hf];exact e
      ·rw [if_neg hd2] at e;cases e
   ·rw [if_neg h63] at e ⊢
    cases hr : aK ts (c :: k) with
    | none=>rw [hr] at e;exact e
    | some t=>rw [hr] at e;exact nZ ih t s e
theorem pA {ts : List Ty} : ∀ (n : Nat) (k s : ye) {x : V × ye},rd ts n k s = some x → rd ts (n + 1) k s = some x
 | 0,_,_,_,e=>by cases e
 | n + 1,k,s,_,e=>sq (fun k s _ e=>pA n k s e) k s e
theorem tq {ts : List Ty} {n m : Nat} (h : n ≤ m) {k s : ye} {x : V × ye} (e : rd ts n k s = some x) : rd ts m k s = some x:=by
  induction m with
  | zero => have : n = 0 := oM
            subst this;exact e
  | succ m ih =>
    by_cases hn : n = m + 1
    · subst hn;exact e
    · exact pA m k s (ih oM)
theorem V.deep_mem : ∀ {ks : List V} {v : V},v ∈ ks → V.deep v ≤ V.deeps ks
 | [],_,h=>by cases h
 | u :: ks,v,h=>by
  rw [V.deeps]
  rcases List.mem_cons.1 h with rfl | h
  ·exact Nat.le_max_left _ _
  ·exact Nat.le_trans (V.deep_mem h) (Nat.le_max_right _ _)
theorem V.deeps_le : ∀ {ks : List V} {n : Nat},(∀ v ∈ ks,V.deep v ≤ n) → V.deeps ks ≤ n
 | [],_,_=>by rw [V.deeps];exact Nat.zero_le _
 | u :: ks,n,h=>by
  rw [V.deeps]
  exact Nat.max_le.2 ⟨h u (.head _),V.deeps_le fun v hv=>h v (.tail _ hv)⟩
theorem eF {w : Nat} {x : ye} {t : Int} {ks : List V} (h : ¬ w = 61) : V.deep (.nd w x t ks) = V.deeps ks + 1:=by rw [V.deep,if_neg h]
theorem lE {t : Int} {v : V} : V.deep (.nd 61 [] t [v]) = V.deep v:=by rw [V.deep,if_pos rfl,V.deeps,V.deeps,Nat.max_zero]
theorem hX {f : ye → Option (V × ye)} {p : V → Prop} (h : ∀ s x,f s = some x → p x.1) : ∀ (m : Nat) (s : ye) (acc : List V) {x : List V × ye},bc f m s acc = some x → (∀ v ∈ acc,p v) → ∀ v ∈ x.1,p v
 | 0,_,_,_,e,_=>by cases e
 | m + 1,s,acc,x,e,ha=>by
  unfold bc at e
  cases hf : f s with
  | none=>rw [hf] at e;cases e
  | some y =>
   rw [hf] at e
   have hy:=h s y hf
   obtain ⟨v,r⟩:=y
   have ha' : ∀ u ∈ acc ++ [v],p u:=fun u hu=>by
    rcases List.mem_append.1 hu with hu | hu
    ·exact ha u hu
    ·simp only [List.mem_singleton] at hu;subst hu;exact hy
   cases r with
   | nil=>cases e
   | cons c r =>
    dsimp only at e
    split at e
    ·exact hX h m r _ e ha'
    ·split at e
     ·simp only [Option.some.injEq] at e;subst e;exact ha'
     ·cases e
theorem kZ {f g : ye → Option (V × ye)} : ∀ (m : Nat) (s : ye) (acc : List V) {x : List V × ye},bc f m s acc = some x → (∀ s y,f s = some y → y.1 ∈ x.1 → g s = some y) → bc g m s acc = some x ∧ ∀ v ∈ acc,v ∈ x.1
 | 0,_,_,_,e,_=>by cases e
 | m + 1,s,acc,x,e,h=>by
  unfold bc at e ⊢
  cases hf : f s with
  | none=>rw [hf] at e;cases e
  | some y =>
   rw [hf] at e
   have hy:=h s y hf
   obtain ⟨v,r⟩:=y
   cases r with
   | nil=>cases e
   | cons c r =>
    dsimp only at e hy
    split at e
    ·rename_i hc
     obtain ⟨h1,h2⟩:=kZ m r _ e h
     rw [hy (h2 v (by simp))]
     dsimp only
     rw [if_pos hc]
     exact ⟨h1,fun u hu=>h2 u (List.mem_append_left _ hu)⟩
    ·rename_i hc
     split at e
     ·rename_i hc2
      simp only [Option.some.injEq] at e;subst e
      rw [hy (by simp)]
      dsimp only
      rw [if_neg hc,if_pos hc2]
      exact ⟨F,fun u hu=>List.mem_append_left _ hu⟩
     ·cases e
theorem fV {f : ye → ye → Option (V × ye)} {t : Ty} {s : ye} {x : (Fld × V) × ye} (e : aX f t s = some x) : x.1.1 ∈ t.fields ∧ ∃ s',f x.1.1.kind s' = some (x.1.2,x.2):=by
 unfold aX at e
 cases hn : bZ 200 s with
 | none=>rw [hn] at e;cases e
 | some y =>
  rw [hn] at e
  obtain ⟨n,r⟩:=y
  dsimp only at e
  cases hd : cC t.fields n with
  | none=>rw [hd] at e;cases e
  | some d =>
   rw [hd] at e
   cases r with
   | nil=>cases e
   | cons c r' =>
    dsimp only at e
    by_cases hc : c.toNat = 61
    ·rw [if_pos hc] at e
     cases hf : f d.kind r' with
     | none=>rw [hf] at e;cases e
     | some y =>
      rw [hf] at e
      simp only [Option.map_some,Option.some.injEq] at e
      subst e
      exact ⟨List.mem_of_find?_eq_some hd,r',hf⟩
    ·rw [if_neg hc] at e;cases e
theorem hY {f g : ye → ye → Option (V × ye)} {t : Ty} {s : ye} {x : (Fld × V) × ye} (e : aX f t s = some x) (h : ∀ k s y,f k s = some y → y.1 = x.1.2 → g k s = some y) : aX g t s = some x:=by
 unfold aX at e ⊢
 cases hn : bZ 200 s with
 | none=>rw [hn] at e;cases e
 | some y =>
  rw [hn] at e
  obtain ⟨n,r⟩:=y
  dsimp only at e ⊢
  cases hd : cC t.fields n with
  | none=>rw [hd] at e;cases e
  | some d =>
   rw [hd] at e
   cases r with
   | nil=>cases e
   | cons c r' =>
    dsimp only at e ⊢
    by_cases hc : c.toNat = 61
    ·rw [if_pos hc] at e ⊢
     cases hf : f d.kind r' with
     | none=>rw [hf] at e;cases e
     | some y =>
      rw [hf] at e
      simp only [Option.map_some,Option.some.injEq] at e
      subst e
      rw [h _ _ _ hf rfl];rfl
    ·rw [if_neg hc] at e;cases e
theorem md {ts : List Ty} {f : ye → ye → Option (V × ye)} {t : Ty} {p : V → Prop} (h : ∀ k s x,f k s = some x → ∀ n,p (.nd 61 [] n [x.1])) : ∀ (m : Nat) (last : Int) (s : ye) (acc : List V) {x : List V × ye},bK ts f t m last s acc = some x → (∀ v ∈ acc,p v) → ∀ v ∈ x.1,p v
 | 0,_,_,_,_,e,_=>by cases e
 | m + 1,last,s,acc,x,e,ha=>by
  unfold bK at e
  cases hf : aX f t s with
  | none=>rw [hf] at e;cases e
  | some y =>
   rw [hf] at e
   obtain ⟨_,s',hs'⟩:=fV hf
   have hy:=h _ s' _ hs'
   obtain ⟨⟨d,v⟩,r⟩:=y
   dsimp only at e hy
   have ha' : ∀ u ∈ acc ++ [V.nd 61 [] d.tag [v]],p u:=fun u hu=>by
    rcases List.mem_append.1 hu with hu | hu
    ·exact ha u hu
    ·simp only [List.mem_singleton] at hu;subst hu;exact hy d.tag
   split at e
   ·cases e
   ·cases r with
    | nil=>cases e
    | cons c r =>
     dsimp only at e
     split at e
     ·exact md h m _ r _ e ha'
     ·split at e
      ·simp only [Option.some.injEq] at e;subst e;exact ha'
      ·cases e
theorem mc {ts : List Ty} {f g : ye → ye → Option (V × ye)} {t : Ty} : ∀ (m : Nat) (last : Int) (s : ye) (acc : List V) {x : List V × ye},bK ts f t m last s acc = some x → (∀ k s y,f k s = some y → (∃ n,V.nd 61 [] n [y.1] ∈ x.1) → g k s = some y) → bK ts g t m last s acc = some x ∧ ∀ v ∈ acc,v ∈ x.1
 | 0,_,_,_,_,e,_=>by cases e
 | m + 1,last,s,acc,x,e,h=>by
  unfold bK at e ⊢
  cases hf : aX f t s with
  | none=>rw [hf] at e;cases e
  | some y =>
   rw [hf] at e
   obtain ⟨⟨d,v⟩,r⟩:=y
   dsimp only at e
   split at e
   ·cases e
   ·rename_i hd
    cases r with
    | nil=>cases e
    | cons c r =>
     dsimp only at e
     split at e
     ·rename_i hc
      obtain ⟨h1,h2⟩:=mc m _ r _ e h
      have hg:=hY (g:=g) hf (fun k s y hy e2=>h k s y hy ⟨d.tag,by rw [e2];exact h2 _ (by simp)⟩)
      rw [hg]
      dsimp only
      rw [if_neg hd,if_pos hc]
      exact ⟨h1,fun u hu=>h2 u (List.mem_append_left _ hu)⟩
     ·rename_i hc
      split at e
      ·rename_i hc2
       simp only [Option.some.injEq] at e;subst e
       have hg:=hY (g:=g) hf (fun k s y hy e2=>h k s y hy ⟨d.tag,by rw [e2];simp⟩)
       rw [hg]
       dsimp only
       rw [if_neg hd,if_neg hc,if_pos hc2]
       exact ⟨F,fun u hu=>List.mem_append_left _ hu⟩
      ·cases e
theorem pB {ts : List Ty} {f g : ye → ye → Option (V × ye)} : ∀ (k s : ye) {x : V × ye},d3 ts f k s = some x → ∃ w tx tg ks,x.1 = .nd w tx tg ks ∧ ¬ w = 61 ∧ ((∀ k s y,f k s = some y → V.deep y.1 ≤ V.deeps ks → g k s = some y) → d3 ts g k s = some x) ∧ ∀ n,(∀ k s y,f k s = some y → V.deep y.1 ≤ n) → V.deeps ks ≤ n
 | [],_,_,e=>by cases e
 | c :: k,s,x,e=>by
  unfold d3 at e ⊢
  dsimp only at e ⊢
  have leaf : ∀ {w : Nat} {tx : ye} {tg : Int} {q : Prop},x.1 = .nd w tx tg [] → ¬ w = 61 → q → ∃ w tx tg ks,x.1 = .nd w tx tg ks ∧ ¬ w = 61 ∧ ((∀ k s y,f k s = some y → V.deep y.1 ≤ V.deeps ks → g k s = some y) → q) ∧ ∀ n,(∀ k s y,f k s = some y → V.deep y.1 ≤ n) → V.deeps ks ≤ n :=
   fun h1 h2 h3=>⟨_,_,_,[],h1,h2,fun _=>h3,fun n _=>by rw [V.deeps];exact Nat.zero_le n⟩
  by_cases h91 : c.toNat = 91
  ·simp only [if_pos h91] at e ⊢
   cases s with
   | nil=>cases e
   | cons d s' =>
    dsimp only at e ⊢
    by_cases hd : d.toNat = 91
    ·simp only [if_pos hd] at e ⊢
     cases s' with
     | nil=>cases e
     | cons e' r =>
      dsimp only at e ⊢
      by_cases he : e'.toNat = 93
      ·simp only [if_pos he] at e ⊢
       have e2:=e
       simp only [Option.some.injEq] at e2;subst e2
       exact leaf F dC F
      ·simp only [if_neg he] at e ⊢
       cases hf : bc (f k) 20 (e' :: r) [] with
       | none=>rw [hf] at e;cases e
       | some y =>
        rw [hf] at e
        simp only [Option.map_some,Option.some.injEq] at e;subst e
        refine ⟨91,[],0,y.1,F,by decide,fun h=>?_,fun n h=>?_⟩
        ·rw [(kZ (g:=g k) _ _ _ hf fun s u hu hm=>h k s u hu (V.deep_mem hm)).1];rfl
        ·exact V.deeps_le fun v hv=>hX (p:=fun v=>V.deep v ≤ n) (fun s u hu=>h k s u hu) _ _ _ hf (by simp) v hv
    ·simp only [if_neg hd] at e;cases e
  ·simp only [if_neg h91] at e ⊢
   by_cases h63 : c.toNat = 63
   ·simp only [if_pos h63] at e ⊢
    cases s with
    | nil=>cases e
    | cons d s' =>
     dsimp only at e ⊢
     by_cases hd : d.toNat = 45
     ·simp only [if_pos hd] at e ⊢
      have e2:=e
      simp only [Option.some.injEq] at e2;subst e2
      exact leaf F dC F
     ·simp only [if_neg hd] at e ⊢
      by_cases hd2 : d.toNat = 43
      ·simp only [if_pos hd2] at e ⊢
       cases hf : f k s' with
       | none=>rw [hf] at e;cases e
       | some y =>
        rw [hf] at e
        simp only [Option.map_some,Option.some.injEq] at e;subst e
        refine ⟨63,[],0,[y.1],F,by decide,fun h=>?_,fun n h=>?_⟩
        ·rw [h k s' y hf (V.deep_mem (by simp))];rfl
        ·exact V.deeps_le fun v hv=>by simp only [List.mem_singleton] at hv;subst hv;exact h k s' y hf
      ·simp only [if_neg hd2] at e;cases e
   ·simp only [if_neg h63] at e ⊢
    cases hr : aK ts (c :: k) with
    | none =>
     rw [hr] at e
     dsimp only at e ⊢
     by_cases h1 : c.toNat = 110
     ·simp only [if_pos h1] at e ⊢
      cases hn : bZ 999999 s with
      | none=>rw [hn] at e;cases e
      | some y =>
       rw [hn] at e
       have e2:=e
       simp only [Option.map_some,Option.some.injEq] at e2;subst e2
       exact leaf F dC F
     ·simp only [if_neg h1] at e ⊢
      by_cases h2 : c.toNat = 116
      ·simp only [if_pos h2] at e ⊢
       refine leaf (w:=116) (tx:=x.1.text) (tg:=0) ?_ dC e
       unfold cY at e
       split at e
       ·cases e
       ·split at e
        ·split at e
         ·split at e
          ·simp only [Option.some.injEq] at e;subst e;rfl
          ·cases e
         ·cases e
        ·cases e
      ·simp only [if_neg h2] at e ⊢
       by_cases h3 : c.toNat = 102
       ·simp only [if_pos h3] at e ⊢
        refine leaf (w:=102) (tx:=x.1.text) (tg:=0) ?_ dC e
        unfold en at e
        split at e
        ·simp only [Option.some.injEq] at e;subst e;rfl
        ·split at e
         ·simp only [Option.some.injEq] at e;subst e;rfl
         ·cases e
       ·simp only [if_neg h3] at e;cases e
    | some t =>
     rw [hr] at e
     dsimp only at e ⊢
     unfold bC at e ⊢
     cases s with
     | nil=>cases e
     | cons d s =>
      dsimp only at e ⊢
      by_cases h82 : t.sort = 82
      ·simp only [if_pos h82] at e ⊢
       by_cases hd : d.toNat = 123
       ·simp only [if_pos hd] at e ⊢
        cases s with
        | nil=>cases e
        | cons d' r =>
         dsimp only at e ⊢
         by_cases hd' : d'.toNat = 125
         ·simp only [if_pos hd'] at e ⊢
          have e2:=e
          simp only [Option.some.injEq] at e2;subst e2
          exact leaf F dC F
         ·simp only [if_neg hd'] at e ⊢
          cases hf : bK ts f t ((d' :: r).length + 1) 0 (d' :: r) [] with
          | none=>rw [hf] at e;cases e
          | some y =>
           rw [hf] at e
           simp only [Option.map_some,Option.some.injEq] at e;subst e
           refine ⟨82,[],0,y.1,F,by decide,fun h=>?_,fun n h=>?_⟩
           ·rw [(mc (g:=g) _ _ _ _ hf fun k s u hu hm=>h k s u hu (by obtain ⟨n,hm⟩:=hm;have:=V.deep_mem hm;rwa [lE] at this)).1];rfl
           ·exact V.deeps_le fun v hv=>md (p:=fun v=>V.deep v ≤ n) (fun k s u hu m=>by rw [lE];exact h k s u hu) _ _ _ _ hf (by simp) v hv
       ·simp only [if_neg hd] at e;cases e
      ·simp only [if_neg h82] at e ⊢
       by_cases h69 : t.sort = 69
       ·simp only [if_pos h69] at e ⊢
        refine leaf (w:=69) (tx:=[]) (tg:=x.1.tag) ?_ dC e
        split at e
        ·split at e
         ·cases e
         ·split at e
          ·simp only [Option.some.injEq] at e;subst e;rfl
          ·cases e
        ·cases e
       ·simp only [if_neg h69] at e ⊢
        by_cases hd : d.toNat = 60
        ·simp only [if_pos hd] at e ⊢
         cases hf : aX f t s with
         | none=>rw [hf] at e;cases e
         | some y =>
          rw [hf] at e
          obtain ⟨⟨fd,v⟩,r⟩:=y
          cases r with
          | nil=>cases e
          | cons c' r =>
           dsimp only at e
           by_cases hc' : c'.toNat = 62
           ·simp only [if_pos hc',Option.some.injEq] at e;subst e
            refine ⟨85,[],fd.tag,[v],F,by decide,fun h=>?_,fun n h=>?_⟩
            ·rw [hY (g:=g) hf fun k s u hu e2=>h k s u hu (by rw [e2];exact V.deep_mem (by simp))]
             dsimp only
             rw [if_pos hc']
            ·obtain ⟨_,s',hs'⟩:=fV hf
             exact V.deeps_le fun u hu=>by simp only [List.mem_singleton] at hu;subst hu;exact h _ _ _ hs'
           ·simp only [if_neg hc'] at e;cases e
        ·simp only [if_neg hd] at e;cases e
theorem l6 {ts : List Ty} : ∀ (n : Nat) (k s : ye) (x : V × ye),rd ts n k s = some x → V.deep x.1 ≤ n
 | 0,_,_,_,e=>by cases e
 | n + 1,k,s,x,e=>by
  obtain ⟨w,tx,tg,ks,h1,h2,_,h4⟩:=pB (g:=rd ts n) k s e
  rw [h1,eF h2]
  have:=h4 n fun k s y hy=>l6 n k s y hy
  omega
theorem tu {ts : List Ty} : ∀ (n m : Nat) (k s : ye) (x : V × ye),rd ts n k s = some x → V.deep x.1 ≤ m → rd ts m k s = some x
 | 0,_,_,_,_,e,_=>by cases e
 | n + 1,m,k,s,x,e,hm=>by
  obtain ⟨w,tx,tg,ks,h1,h2,h3,_⟩:=pB (g:=rd ts (m - 1)) k s e
  rw [h1,eF h2] at hm
  obtain ⟨m,rfl⟩ : ∃ j,m = j + 1:=⟨m - 1,oM⟩
  exact h3 fun k s y hy hd=>tu n m k s y hy oM
theorem cO {c : UInt8} {n : Nat} (h : c.toNat = n) (hn : n < 256) : c = UInt8.ofNat n:=by
 apply UInt8.toNat_inj.1;rw [h,UInt8.toNat_ofNat'];omega
theorem rm {top : Int} {s r : ye} {n : Int} (h : bZ top s = some (n,r)) : s = a7 n ++ r:=by
 unfold bZ at h
 cases hn : aQ (s.takeWhile bj) top with
 | none=>rw [hn] at h;cases h
 | some q =>
  rw [hn] at h
  simp only [Option.map_some,Option.some.injEq,Prod.mk.injEq] at h
  obtain ⟨rfl,rfl⟩:=h
  rw [← (dO hn).2.1,List.takeWhile_append_dropWhile]
theorem iq {t : Int} {v : V} : V.out (.nd 61 [] t [v]) = a7 t ++ 61 :: v.out:=by
 rw [V.out,V.outs,V.outs];simp [du,aN]
theorem nF {k : Nat} {c : UInt8} (hc : c.toNat = k) : ∀ {s x r : ye},ao k s = (x,r,true) → s = x ++ c :: r
 | [],_,_,h=>by cases h
 | d :: s,x,r,h=>by
  unfold ao at h
  split at h
  ·rename_i hd
   simp only [Prod.mk.injEq,and_true] at h
   obtain ⟨rfl,rfl⟩:=h
   have : d = c:=UInt8.toNat_inj.1 (by rw [hd,hc])
   rw [this];rfl
  ·simp only [Prod.mk.injEq] at h
   obtain ⟨h1,h2,h3⟩:=h
   have ih:=nF hc (s:=s) (x:=(ao k s).1) (r:=(ao k s).2.1) (by rw [← h3])
   rw [← h1,← h2,List.cons_append,← ih]
theorem mO {p s : ye} (h : p.isPrefixOf s = true) : s = p ++ s.drop p.length:=by
 rw [List.isPrefixOf_iff_prefix] at h
 obtain ⟨t,rfl⟩:=h
 simp
theorem pi {s : ye} {x : V × ye} (e : cY s = some x) : s = x.1.out ++ x.2:=by
 unfold cY at e
 cases s with
 | nil=>cases e
 | cons c s =>
  dsimp only at e
  by_cases hc : c.toNat = 39
  ·rw [if_pos hc] at e
   rcases hq : ao 39 s with ⟨y,r,b⟩
   rw [hq] at e
   cases b with
   | false=>cases e
   | true =>
    dsimp only at e
    split at e
    ·simp only [Option.some.injEq] at e;subst e
     have h1:=nF (c:=39) rfl hq
     rw [h1,cO hc dC]
     simp [V.out,du]
    ·cases e
  ·rw [if_neg hc] at e;cases e
theorem qt {s : ye} {x : V × ye} (e : en s = some x) : s = x.1.out ++ x.2:=by
 unfold en at e
 split at e
 ·rename_i h
  simp only [Option.some.injEq] at e;subst e
  have:=mO h
  simpa [V.out,du] using this
 ·split at e
  ·rename_i h
   simp only [Option.some.injEq] at e;subst e
   have:=mO h
   simpa [V.out,du] using this
  ·cases e
theorem sx {ks : List V} {r : ye} : V.out (.nd 91 [] 0 ks) ++ r = 91 :: (aN 44 (ks.map V.out) ++ 93 :: r):=by
 rw [V.out,V.outs_map];simp [du]
theorem t9 {ks : List V} {r : ye} : V.out (.nd 82 [] 0 ks) ++ r = 123 :: (aN 44 (ks.map V.out) ++ 125 :: r):=by
 rw [V.out,V.outs_map];simp [du]
theorem ud {v : V} {r : ye} : V.out (.nd 63 [] 0 [v]) ++ r = 43 :: (v.out ++ r):=by
 rw [V.out,V.outs_map];simp [du,aN]
theorem pE {v : V} {n : Int} {r : ye} : V.out (.nd 85 [] n [v]) ++ r = 60 :: (a7 n ++ 61 :: (v.out ++ 62 :: r)):=by
 rw [V.out,V.outs_map];simp [du,aN]
inductive RdK (ts : List Ty) (f : ye → ye → Option (V × ye)) : ye → ye → V → ye → Prop
 | lst0 (k r : ye) : RdK ts f (91 :: k) (91 :: 93 :: r) (.nd 91 [] 0 []) r
 | lst (k s r : ye) (vs : List V) : bc (f k) 20 s [] = some (vs,r) → RdK ts f (91 :: k) (91 :: s) (.nd 91 [] 0 vs) r
 | non (k r : ye) : RdK ts f (63 :: k) (45 :: r) (.nd 63 [] 0 []) r
 | opt (k s r : ye) (v : V) : f k s = some (v,r) → RdK ts f (63 :: k) (43 :: s) (.nd 63 [] 0 [v]) r
 | num (k s r : ye) (n : Int) : aK ts (110 :: k) = none → bZ 999999 s = some (n,r) → RdK ts f (110 :: k) s (.nd 110 (a7 n) 0 []) r
 | txt (k s r : ye) (v : V) : aK ts (116 :: k) = none → cY s = some (v,r) → RdK ts f (116 :: k) s v r
 | flg (k s r : ye) (v : V) : aK ts (102 :: k) = none → en s = some (v,r) → RdK ts f (102 :: k) s v r
 | recd0 (k r : ye) (t : Ty) : aK ts k = some t → t.sort = 82 → RdK ts f k (123 :: 125 :: r) (.nd 82 [] 0 []) r
 | recd (k s r : ye) (t : Ty) (vs : List V) : aK ts k = some t → t.sort = 82 → bK ts f t (s.length + 1) 0 s [] = some (vs,r) → RdK ts f k (123 :: s) (.nd 82 [] 0 vs) r
 | enm (k s r : ye) (t : Ty) (n : Int) : aK ts k = some t → t.sort = 69 → bZ 200 s = some (n,r) → (cC t.fields n).isSome = true → RdK ts f k (35 :: s) (.nd 69 [] n []) r
 | uni (k s r : ye) (t : Ty) (d : Fld) (v : V) : aK ts k = some t → t.sort ≠ 82 → t.sort ≠ 69 → aX f t s = some ((d,v),62 :: r) → RdK ts f k (60 :: s) (.nd 85 [] d.tag [v]) r
theorem pC {ts : List Ty} {f : ye → ye → Option (V × ye)} : ∀ (k s : ye) {x : V × ye},d3 ts f k s = some x → RdK ts f k s x.1 x.2
 | [],_,_,e=>by cases e
 | c :: k,s,x,e=>by
  unfold d3 at e
  dsimp only at e
  by_cases h91 : c.toNat = 91
  ·simp only [if_pos h91] at e
   obtain rfl:=cO h91 dC
   cases s with
   | nil=>cases e
   | cons d s' =>
    dsimp only at e
    by_cases hd : d.toNat = 91
    ·simp only [if_pos hd] at e
     obtain rfl:=cO hd dC
     cases s' with
     | nil=>cases e
     | cons e' r =>
      dsimp only at e
      by_cases he : e'.toNat = 93
      ·simp only [if_pos he,Option.some.injEq] at e;subst e
       obtain rfl:=cO he dC
       exact .lst0 _ _
      ·simp only [if_neg he] at e
       cases hf : bc (f k) 20 (e' :: r) [] with
       | none=>rw [hf] at e;cases e
       | some y =>
        rw [hf] at e
        simp only [Option.map_some,Option.some.injEq] at e;subst e
        exact .lst _ _ _ _ hf
    ·simp only [if_neg hd] at e;cases e
  ·simp only [if_neg h91] at e
   by_cases h63 : c.toNat = 63
   ·simp only [if_pos h63] at e
    obtain rfl:=cO h63 dC
    cases s with
    | nil=>cases e
    | cons d s' =>
     dsimp only at e
     by_cases hd : d.toNat = 45
     ·simp only [if_pos hd,Option.some.injEq] at e;subst e
      obtain rfl:=cO hd dC
      exact .non _ _
     ·simp only [if_neg hd] at e
      by_cases hd2 : d.toNat = 43
      ·simp only [if_pos hd2] at e
       obtain rfl:=cO hd2 dC
       cases hf : f k s' with
       | none=>rw [hf] at e;cases e
       | some y =>
        rw [hf] at e
        simp only [Option.map_some,Option.some.injEq] at e;subst e
        exact .opt _ _ _ _ hf
      ·simp only [if_neg hd2] at e;cases e
   ·simp only [if_neg h63] at e
    cases hr : aK ts (c :: k) with
    | none =>
     rw [hr] at e
     dsimp only at e
     by_cases h1 : c.toNat = 110
     ·simp only [if_pos h1] at e
      obtain rfl:=cO h1 dC
      cases hn : bZ 999999 s with
      | none=>rw [hn] at e;cases e
      | some y =>
       rw [hn] at e
       simp only [Option.map_some,Option.some.injEq] at e;subst e
       exact .num _ _ _ _ hr hn
     ·simp only [if_neg h1] at e
      by_cases h2 : c.toNat = 116
      ·simp only [if_pos h2] at e
       obtain rfl:=cO h2 dC
       exact .txt _ _ _ _ hr e
      ·simp only [if_neg h2] at e
       by_cases h3 : c.toNat = 102
       ·simp only [if_pos h3] at e
        obtain rfl:=cO h3 dC
        exact .flg _ _ _ _ hr e
       ·simp only [if_neg h3] at e;cases e
    | some t =>
     rw [hr] at e
     dsimp only at e
     unfold bC at e
     cases s with
     | nil=>cases e
     | cons d s =>
      dsimp only at e
      by_cases h82 : t.sort = 82
      ·simp only [if_pos h82] at e
       by_cases hd : d.toNat = 123
       ·simp only [if_pos hd] at e
        obtain rfl:=cO hd dC
        cases s with
        | nil=>cases e
        | cons d' r =>
         dsimp only at e
         by_cases hd' : d'.toNat = 125
         ·simp only [if_pos hd',Option.some.injEq] at e;subst e
          obtain rfl:=cO hd' dC
          exact .recd0 _ _ t hr h82
         ·simp only [if_neg hd'] at e
          cases hf : bK ts f t ((d' :: r).length + 1) 0 (d' :: r) [] with
          | none=>rw [hf] at e;cases e
          | some y =>
           rw [hf] at e
           simp only [Option.map_some,Option.some.injEq] at e;subst e
           exact .recd _ _ _ t _ hr h82 hf
       ·simp only [if_neg hd] at e;cases e
      ·simp only [if_neg h82] at e
       by_cases h69 : t.sort = 69
       ·simp only [if_pos h69] at e
        by_cases hd : d.toNat = 35
        ·simp only [if_pos hd] at e
         obtain rfl:=cO hd dC
         cases hn : bZ 200 s with
         | none=>rw [hn] at e;cases e
         | some y =>
          rw [hn] at e
          obtain ⟨n,r⟩:=y
          dsimp only at e
          split at e
          ·rename_i hs
           simp only [Option.some.injEq] at e;subst e
           exact .enm _ _ _ t _ hr h69 hn hs
          ·cases e
        ·simp only [if_neg hd] at e;cases e
       ·simp only [if_neg h69] at e
        by_cases hd : d.toNat = 60
        ·simp only [if_pos hd] at e
         obtain rfl:=cO hd dC
         cases hf : aX f t s with
         | none=>rw [hf] at e;cases e
         | some y =>
          rw [hf] at e
          obtain ⟨⟨fd,v⟩,r⟩:=y
          cases r with
          | nil=>cases e
          | cons c' r =>
           dsimp only at e
           by_cases hc' : c'.toNat = 62
           ·simp only [if_pos hc',Option.some.injEq] at e;subst e
            obtain rfl:=cO hc' dC
            exact .uni _ _ _ t _ _ hr h82 h69 hf
           ·simp only [if_neg hc'] at e;cases e
        ·simp only [if_neg hd] at e;cases e
mutual
def V.tot : V → Nat
 | .nd _ x _ ks=>20 + x.length + V.tots ks
def V.tots : List V → Nat
 | []=>0
 | v :: r=>V.tot v + V.tots r
end
theorem gw : ∀ (a b : List V),V.tots (a ++ b) = V.tots a + V.tots b
 | [],b=>by simp [V.tots]
 | v :: a,b=>by simp only [List.cons_append,V.tots,gw a b];omega
theorem ik (v : V) : 20 ≤ v.tot:=by obtain ⟨w,x,t,ks⟩:=v;rw [V.tot];omega
theorem nR : ∀ {ks : List V} {v : V},v ∈ ks → V.tot v ≤ V.tots ks
 | u :: ks,v,h=>by
  rw [V.tots]
  rcases List.mem_cons.1 h with rfl | h
  ·omega
  ·have:=nR h;omega
theorem fG : ∀ (ks : List V),20 * ks.length ≤ V.tots ks
 | []=>by simp [V.tots]
 | u :: ks=>by rw [V.tots,List.length_cons];have:=fG ks;have:=ik u;omega
theorem i8 (n : Int) : 1 ≤ (a7 n).length:=by
 by_cases h : n < 10
 ·by_cases h0 : 0 ≤ n
  ·rw [cK h h0];simp
  ·have : n.toNat = (0 : Int).toNat:=oM
   have e : a7 n = a7 0:=by unfold a7;rw [this]
   rw [e,cK dC dC];simp
 ·rw [gu h];simp
theorem j7 {top : Int} {s r : ye} {n : Int} (h : bZ top s = some (n,r)) : (a7 n).length + r.length = s.length ∧ 1 ≤ (a7 n).length:=by
 have:=rm h
 exact ⟨by rw [this];simp,i8 n⟩
theorem kY {f : ye → Option (V × ye)} (h : ∀ s y,f s = some y → y.1.tot + 100 * y.2.length ≤ 100 * s.length) : ∀ (m : Nat) (s : ye) (acc : List V) {x : List V × ye},bc f m s acc = some x → V.tots x.1 + 100 * (x.2.length + 1) ≤ V.tots acc + 100 * s.length
 | 0,_,_,_,e=>by cases e
 | m + 1,s,acc,x,e=>by
  unfold bc at e
  cases hf : f s with
  | none=>rw [hf] at e;cases e
  | some y =>
   rw [hf] at e
   have hy:=h s y hf
   obtain ⟨v,r⟩:=y
   cases r with
   | nil=>cases e
   | cons c r =>
    dsimp only at e hy
    have e2 : V.tots (acc ++ [v]) = V.tots acc + v.tot:=by simp [gw,V.tots]
    rw [List.length_cons] at hy
    split at e
    ·have:=kY h m r _ e
     omega
    ·split at e
     ·simp only [Option.some.injEq] at e;subst e
      dsimp only;omega
     ·cases e
theorem k6 {f : ye → ye → Option (V × ye)} (h : ∀ k s y,f k s = some y → y.1.tot + 100 * y.2.length ≤ 100 * s.length) {t : Ty} {s : ye} {x : (Fld × V) × ye} (e : aX f t s = some x) : x.1.2.tot + 100 * x.2.length + 200 ≤ 100 * s.length:=by
 unfold aX at e
 cases hn : bZ 200 s with
 | none=>rw [hn] at e;cases e
 | some y =>
  rw [hn] at e
  obtain ⟨n,r⟩:=y
  obtain ⟨h1,h2⟩:=j7 hn
  dsimp only at e
  cases hd : cC t.fields n with
  | none=>rw [hd] at e;cases e
  | some d =>
   rw [hd] at e
   cases r with
   | nil=>cases e
   | cons c r' =>
    dsimp only at e
    rw [List.length_cons] at h1
    by_cases hc : c.toNat = 61
    ·rw [if_pos hc] at e
     cases hf : f d.kind r' with
     | none=>rw [hf] at e;cases e
     | some y =>
      rw [hf] at e
      simp only [Option.map_some,Option.some.injEq] at e
      subst e
      have h3:=h _ _ _ hf
      dsimp only
      omega
    ·rw [if_neg hc] at e;cases e
theorem l9 {ts : List Ty} {f : ye → ye → Option (V × ye)} (h : ∀ k s y,f k s = some y → y.1.tot + 100 * y.2.length ≤ 100 * s.length) {t : Ty} : ∀ (m : Nat) (last : Int) (s : ye) (acc : List V) {x : List V × ye},bK ts f t m last s acc = some x → V.tots x.1 + 100 * (x.2.length + 1) ≤ V.tots acc + 100 * s.length
 | 0,_,_,_,_,e=>by cases e
 | m + 1,last,s,acc,x,e=>by
  unfold bK at e
  cases hf : aX f t s with
  | none=>rw [hf] at e;cases e
  | some y =>
   rw [hf] at e
   have hy:=k6 h hf
   obtain ⟨⟨d,v⟩,r⟩:=y
   dsimp only at e hy
   split at e
   ·cases e
   ·cases r with
    | nil=>cases e
    | cons c r =>
     dsimp only at e
     have e2 : V.tots (acc ++ [V.nd 61 [] d.tag [v]]) = V.tots acc + (20 + v.tot):=by simp [gw,V.tots,V.tot]
     rw [List.length_cons] at hy
     split at e
     ·have:=l9 h m _ r _ e
      omega
     ·split at e
      ·simp only [Option.some.injEq] at e;subst e
       dsimp only;omega
      ·cases e
theorem ip {ts : List Ty} : ∀ (n : Nat) (k s : ye) (x : V × ye),rd ts n k s = some x → x.1.tot + 100 * x.2.length ≤ 100 * s.length
 | 0,_,_,_,e=>by cases e
 | n + 1,k,s,x,e=>by
  have ih : ∀ k s y,rd ts n k s = some y → y.1.tot + 100 * y.2.length ≤ 100 * s.length:=fun k s y hy=>ip n k s y hy
  have h:=pC k s (x:=x) e
  obtain ⟨v,r⟩:=x
  dsimp only at h ⊢
  cases h with
  | lst0=>simp only [V.tot,V.tots,List.length_cons,List.length_nil];omega
  | lst k s r vs h =>
   have:=kY (ih k) _ _ _ h
   simp only [V.tot,V.tots,List.length_cons,List.length_nil] at this ⊢;omega
  | non=>simp only [V.tot,V.tots,List.length_cons,List.length_nil];omega
  | opt k s r v h =>
   have:=ih _ _ _ h
   simp only [V.tot,V.tots,List.length_cons,List.length_nil] at this ⊢;omega
  | num k s r n _ h =>
   have:=j7 h
   simp only [V.tot,V.tots];omega
  | txt k s r v _ h =>
   have e1:=pi h
   have h2 : v.out.length = 2 + v.text.length ∧ v.tot = 20 + v.text.length:=by
    unfold cY at h
    split at h
    ·cases h
    ·split at h
     ·split at h
      ·split at h
       ·simp only [Option.some.injEq,Prod.mk.injEq] at h
        obtain ⟨rfl,_⟩:=h
        simp [V.out,du,V.text,V.tot,V.tots];omega
       ·cases h
      ·cases h
     ·cases h
   rw [e1]
   simp only [List.length_append]
   omega
  | flg k s r v _ h =>
   have e1:=qt h
   have h2 : 2 ≤ v.out.length ∧ v.tot ≤ 23:=by
    unfold en at h
    split at h
    ·simp only [Option.some.injEq,Prod.mk.injEq] at h
     obtain ⟨rfl,_⟩:=h
     simp [V.out,du,V.tot,V.tots]
    ·split at h
     ·simp only [Option.some.injEq,Prod.mk.injEq] at h
      obtain ⟨rfl,_⟩:=h
      simp [V.out,du,V.tot,V.tots]
     ·cases h
   rw [e1]
   simp only [List.length_append]
   omega
  | recd0=>simp only [V.tot,V.tots,List.length_cons,List.length_nil];omega
  | recd k s r t vs _ _ h =>
   have:=l9 ih _ _ _ _ h
   simp only [V.tot,V.tots,List.length_cons,List.length_nil] at this ⊢;omega
  | enm k s r t n _ _ h _ =>
   have:=j7 h
   simp only [V.tot,V.tots,List.length_cons,List.length_nil];omega
  | uni k s r t d v _ _ _ h =>
   have:=k6 ih h
   simp only [V.tot,V.tots,List.length_cons,List.length_nil] at this ⊢;omega
abbrev eR : TypeId:=178
abbrev iI : TypeId:=5
theorem v6 {n : Nat} {D : List Deferred} {E : a8} {B : Base} {L : List Own} {K : Act → World → Prop} {Q : Exit → Act → World → Prop} {ty : TypeId} {pos : String} {aft : Array Edge} {gd : Option (Nat × Bool)} {d : Nat} {fo x : Operand} {aL : Array TypeId} {m : Nat}
  (hf : ev E fo = some (.func (.func 193) #[] #[])) (hx : ev E x = some (I (m : Nat))) (hlt : Nat.blt d n = true) (hm : 0 < m ∧ m ≤ 1000000000)
  (k : ∀ b cap,m ≤ cap + 1 → Nx n D ((d,.slice (some ⟨b,0,none⟩) m (cap + 1)) :: E) B G (.acc (.slice (some ⟨b,0,none⟩) 0 (cap + 1)) iI 1 0 [] :: L) K) : Nx n D E B G L (ow yd ⟨some d,.call ⟨.value fo,[x].toArray,aL⟩,ty,pos,aft,gd⟩ Q K) :=
 wZ (ps:=#[3]) hf hx hlt Tryz.func193 kR kR kR kR (TI.und (T:=22)) hm k
theorem w5 {b : Nat} {v : Value} : cg yd 172 [Pt b 0] G [.blk b (.cells (List.toArray [.pointer none,v]) eR (0,0))] (fun r L'=>L' = [.blk b (.cells (List.toArray [Pt b 0,v]) eR (0,0))]):=by
 have hx : ∀ w,(callFunc 192 [Pt b 0].toArray).run yd w = .ok (.value (Pt b 0)) w:=fun w=>by
  rw [run_callFunc_extern Tryz.func192 kR kR kR (e:=Extern.AbiNoEscape.same) kR]
  rw [Lib.run_noEscape];rfl
 refine jH [(0,_)] Tryz.func172 Tryz.ntmps172 fun B hB hW=>?_
 repeat' (first | refine jR ?_ | (refine jo ?_;first | refine am F ?_ | refine jV (bQ F F) ?_ | refine jV (wE kR F F F) ?_) | refine ae F F ?_)
 refine qx F (hO (lB F F F hx) F F ?_)
 repeat' (first | refine jR ?_ | (refine jo ?_;first | refine jV (uk kR F kR) ?_ | refine jD F F F ?_))
 exact mQ (vs:=[]) F trivial F bd ⟨F,F⟩
theorem w4 {b : Nat} {v : Value} : cg yd 172 [Pt b 0] G [.blk b (.cells (List.toArray [Pt b 0,v]) eR (0,0))] (fun r L'=>L' = [.blk b (.cells (List.toArray [Pt b 0,v]) eR (0,0))]):=by
 refine jH [(0,_)] Tryz.func172 Tryz.ntmps172 fun B hB hW=>?_
 repeat' (first | refine jR ?_ | (refine jo ?_;first | refine am F ?_ | refine jV (bQ F F) ?_ | refine jV (vy F F) ?_) | refine af F F ?_)
 exact mQ (vs:=[]) F trivial F bd ⟨F,F⟩
theorem uF {b m : Nat} (hm : 0 < m ∧ m ≤ 1000000000) : cg yd 173 [Pt b 0,I (m : Nat)] G [.blk b (.cells (List.toArray [Pt b 0,ax]) eR (0,0))] (fun r L'=>∃ b2 c2,L' = [.acc (.slice (some ⟨b2,0,none⟩) 0 (c2 + 1)) iI 1 0 [],.blk b (.cells (List.toArray [Pt b 0,.slice (some ⟨b2,0,none⟩) 0 (c2 + 1)]) eR (0,0))]):=by
 refine jH [(0,_),(1,_)] Tryz.func173 Tryz.ntmps173 fun B hB hW=>?_
 repeat' (first | refine jR ?_ | (refine jo ?_;first | refine am F ?_ | refine jV (un F F) ?_ | refine jD F F F ?_) | (refine al (aw (id:=0) _ (fun _ h=>h) ak ?_);refine jT 9 [0,1,2,6,9,10,11] (aa 16 3655) ?_;(refine jG (aa 16 3663) 3 F (aD F F F) ?_);(refine jG (aa 16 3679) 4 F (tJ F) ?_);refine jW 5 [5,7] (aa 16 3839) ?_;(refine jG (aa 16 7935) 12 F (aD F F F) ?_);(refine jG (aa 16 16127) 13 F (ai F) ?_);refine jA 8 F ?_;(refine v6 F F F oM (fun _ _ _=>?_));refine jS (aa 16 16383) ?_;(refine jG (aa 16 32767) 14 F (oD F F oM) ?_);refine jT 0 [15] (aa 16 65535) ?_;refine jQ ?_))
 exact mQ (vs:=[]) F trivial F (List.Sublist.refl _) ⟨F,_,_,F⟩
theorem uJ {b m : Nat} (hm : 0 < m ∧ m ≤ 1000000000) : cg yd 132 [Pt b 0,I (m : Nat)] G [.blk b (.cells (List.toArray [.pointer none,ax]) eR (0,0))] (fun r L'=>∃ b2 c2,L' = [.acc (.slice (some ⟨b2,0,none⟩) 0 (c2 + 1)) iI 1 0 [],.blk b (.cells (List.toArray [Pt b 0,.slice (some ⟨b2,0,none⟩) 0 (c2 + 1)]) eR (0,0))]):=by
 refine jH [(0,_),(1,_)] Tryz.func132 Tryz.ntmps132 fun B hB hW=>?_
 repeat' (first | refine jR ?_ | (refine jo ?_;first | (refine an F F F w5 F ?_;rintro _ _ rfl;dsimp only [zA,fA]) | (refine an F F F (uF oM) F ?_;rintro _ _ ⟨b2,c2,hb2,rfl⟩;dsimp only [zA,fA])) | refine ae F (aC oM) ?_ | refine af F F ?_ | (refine al (aw (id:=3) _ (fun _ h=>h) ak ?_);refine jT 6 [0,1,2,5,6,7,11] (aa 13 2279) ?_;(refine jG (aa 13 2287) 3 F (aD F F F) ?_);(refine jG (aa 13 2303) 4 F (tJ F) ?_);(refine jG (aa 13 2559) 8 F (aD F F F) ?_);(refine jG (aa 13 3071) 9 F (ai F) ?_);refine jW 0 [10,12] (aa 13 8191) ?_;refine jQ ?_))
 exact mQ (vs:=[]) F trivial F (List.Sublist.refl _) ⟨F,_,_,F⟩
theorem rH {b b1 c1 m : Nat} {xs : List Value} {l : ye} (hm : m + l.length ≤ 1000000000) : cg yd 133 [Pt b 0,S l] G [.blk b (.cells (List.toArray [Pt b 0,.slice (some ⟨b1,0,none⟩) m (c1 + 1)]) eR (0,0)),.acc (.slice (some ⟨b1,0,none⟩) m (c1 + 1)) iI 1 m xs]
  (fun r L'=>∃ b2 c2,r = Tu [I l.length,.nilIface] ∧ L' = [.acc (.slice (some ⟨b2,0,none⟩) (m + l.length) (c2 + 1)) iI 1 (m + l.length) (xs ++ bD l),.blk b (.cells (List.toArray [Pt b 0,.slice (some ⟨b2,0,none⟩) (m + l.length) (c2 + 1)]) eR (0,0))]):=by
 refine jH [(0,_),(1,_)] Tryz.func133 Tryz.ntmps133 fun B hB hW=>?_
 repeat' (first | refine jR ?_ | (refine jo ?_;first | refine am F ?_ | refine w8 F F F oM fun _ _=>?_ | refine jD F F F ?_ | (refine an F F F w4 F ?_;rintro _ _ rfl;dsimp only [zA,fA])))
 exact aM (vs:=[_,_]) F ⟨F,F,trivial⟩ F (List.Sublist.refl _) ⟨F,_,_,F,F⟩
theorem wd {b b1 c1 m : Nat} {l : ye} (hm : m ≤ 1000000000) : cg yd 134 [Pt b 0] G [.blk b (.cells (List.toArray [Pt b 0,.slice (some ⟨b1,0,none⟩) m (c1 + 1)]) eR (0,0)),.acc (.slice (some ⟨b1,0,none⟩) m (c1 + 1)) iI 1 m (bD l)]
  (fun r L'=>r = S l ∧ L' = []):=by
 refine jH [(0,_)] Tryz.func134 Tryz.ntmps134 fun B hB hW=>?_
 repeat' (refine jR ?_)
 (refine al (aw (id:=1) [.blk b (.cells (List.toArray [Pt b 0,.slice (some ⟨b1,0,none⟩) m (c1 + 1)]) eR (0,0))] (by intro y hy;simp only [List.mem_cons,List.not_mem_nil,or_false] at hy ⊢;simp [hy]) ak ?_);refine jW 6 [0,1,2,5,6,7] (aa 12 231) ?_;(refine jG (aa 12 239) 3 F (aD F F F) ?_);(refine jG (aa 12 255) 4 F (vw F F) ?_);(refine jG (aa 12 511) 8 F (aD F F F) ?_);(refine jG (aa 12 1023) 9 F (ai F) ?_);refine jA 10 F ?_;(refine v4 kR F F F oM ?_);refine jS (aa 12 2047) ?_;refine jT 0 [11] (aa 12 4095) ?_;refine jQ ?_)
 repeat' (refine jR ?_)
 refine jZ (vs:=[_]) F ⟨F,trivial⟩ F ⟨F,F,?_⟩
 rfl
def b5 (xs : List ye) : Nat:=(xs.map List.length).sum
theorem mg (xs : List ye) (x : ye) : b5 (xs ++ [x]) = b5 xs + x.length:=by simp [b5]
theorem da : ∀ (xs : List ye) (i : Nat),b5 (xs.take i) ≤ b5 xs
 | [],i=>by simp [b5]
 | x :: xs,0=>by simp [b5]
 | x :: xs,i + 1=>by
  have:=da xs i
  simp only [b5,List.take_succ_cons,List.map_cons,List.sum_cons] at this ⊢;omega
theorem ml (c : UInt8) (y : ye) : ∀ (xs : List ye),xs ≠ [] → aN c (xs ++ [y]) = aN c xs ++ c :: y
 | [],h=>absurd rfl h
 | [x],_=>by simp [aN]
 | x :: z :: r,_=>by
  have:=ml c y (z :: r) (by simp)
  simp only [List.cons_append,aN] at this ⊢
  rw [this];simp
theorem gW (c : UInt8) : ∀ (xs : List ye),(aN c xs).length ≤ b5 xs + xs.length
 | []=>by simp [aN]
 | [x]=>by simp [aN,b5]
 | x :: z :: r=>by
  have:=gW c (z :: r)
  simp only [aN,b5,List.map_cons,List.sum_cons,List.length_append,List.length_cons] at this ⊢;omega
theorem Nx.cast {n : Nat} {D : List Deferred} {E : a8} {B : Base} {L L' : List Own} {K : Act → World → Prop} (e : L = L') (h : Nx n D E B G L' K) : Nx n D E B G L K:=by subst e;exact h
theorem bh.cap {G : Gh} {p : Option Addr} {c sz m : Nat} {xs : List Value} (h : bh G (.slice p m c) sz m xs) : m ≤ c:=by
 obtain ⟨_,⟨h1,h2⟩ | ⟨b,o,cap,e,h1,_⟩⟩:=h
 ·omega
 ·simp only [Value.slice.injEq,true_and] at e;omega
theorem bE.tailS {G : Gh} {b o : Nat} {xs : List ye} (h : bE G b o (aj bV xs)) : bE G b (o + 1) (aj bV (xs.drop 1)):=by
 cases xs with
 | nil=>obtain ⟨cs,h1,_⟩:=h;exact ⟨cs,h1,fun i v hv=>by simp [aj] at hv⟩
 | cons x r =>
  obtain ⟨cs,h1,h2⟩:=h
  refine ⟨cs,h1,fun i v hv=>?_⟩
  have:=h2 (i + 1) v (by simpa [aj,bV] using hv)
  rw [show o + 1 + i = o + (i + 1) by omega];exact this
theorem nk (xs : List ye) (i : Nat) : ac (xs.drop 1) i = ac xs (i + 1):=by
 cases xs with
 | nil=>simp [ac]
 | cons x r=>simp [ac,List.getD]
theorem ki {xs : List ye} {i : Nat} (h : i < xs.length) : b5 (xs.take (i + 1)) = b5 (xs.take i) + (ac xs i).length:=by
 rw [fH h,mg]
theorem we {v : Value} {xs : List ye} {c : UInt8} (hs : bh G v 1 xs.length (aj bV xs)) (hl : b5 xs + xs.length ≤ 100000000) : aI yd 94 [v,S [c]] G (· = S (aN c xs)):=by
 by_cases h0 : xs = []
 ·subst h0
  refine jE [(0,_),(1,_)] Tryz.func94 Tryz.ntmps94 fun B hB=>?_
  repeat' (first | refine jR ?_ | (refine jo ?_;refine jV (cJ F aS) ?_) | refine ae F F ?_)
  refine jY (vs:=[_]) ?_
  rfl
 have hpos:=List.length_pos_iff.2 h0
 obtain ⟨bv,ov,cv,rfl,hsv⟩:=hs.expl oM
 by_cases h1 : xs.length = 1
 ·obtain ⟨x,rfl⟩:=List.length_eq_one_iff.1 h1
  refine jE [(0,_),(1,_)] Tryz.func94 Tryz.ntmps94 fun B hB=>?_
  repeat' (first | refine jR ?_ | (refine jo ?_;first | refine jV (ai F) ?_ | refine jV (ah F F oM) ?_ | refine jV (aA F F aS F F) ?_) | refine ae F F ?_ | refine af F F ?_)
  refine jY (vs:=[_]) ?_
  rfl
 have hcap:=hs.cap
 have hq : ¬ (9223372036854775807 / ((xs.length : Int) - 1) ≤ ((([c] : ye).length : Nat) : Int)):=by
  have : (2 : Int) ≤ 9223372036854775807 / ((xs.length : Int) - 1):=Int.le_ediv_of_mul_le oM oM
  have e : ((([c] : ye).length : Nat) : Int) = 1:=rfl
  omega
 have e1 : ((([c] : ye).length : Nat) : Int) * ((xs.length : Int) - 1) = (xs.length : Int) - 1:=by
  have e : ((([c] : ye).length : Nat) : Int) = 1:=rfl
  rw [e];omega
 have p1 : ((([c] : ye).length : Nat) : Int) * ((xs.length : Int) - 1) ≤ 9223372036854775807:=by rw [e1];omega
 have p2 : -9223372036854775808 ≤ ((([c] : ye).length : Nat) : Int) * ((xs.length : Int) - 1):=by rw [e1];omega
 have p3 : 0 + ((([c] : ye).length : Nat) : Int) * ((xs.length : Int) - 1) ≤ 9223372036854775807:=by rw [e1];omega
 have p4 : -9223372036854775808 ≤ 0 + ((([c] : ye).length : Nat) : Int) * ((xs.length : Int) - 1):=by rw [e1];omega
 refine jE [(0,_),(1,_)] Tryz.func94 Tryz.ntmps94 fun B hB=>?_
 repeat' (first | refine jM ?_ | (refine jo ?_;refine jV (ai F) ?_) | refine ae F F ?_ | (refine af F (by refine decide_eq_false ?_;first | assumption | omega) ?_))
 refine Nx.re (d:=5) (v':=I ((xs.length : Int) - 1 + (b5 (xs.take 0) : Nat))) F (congrArg (Value.int .i64) (by rw [e1];simp [b5])) ?_
 refine aT (ι:=Nat) (fun i=>i ≤ xs.length) (fun i=>[(0,.slice (some ⟨bv,ov,none⟩) xs.length cv),(1,S [c]),(39,.slice (some ⟨bv,ov,none⟩) xs.length cv),(40,I xs.length),(41,I i),(5,I ((xs.length : Int) - 1 + (b5 (xs.take i) : Nat)))]) (fun _=>G) (fun i=>[]) (fun i=>xs.length - i) 0 ?_ tU F bd (fun i Hi=>?_)
 ·exact Nat.zero_le _
 have hb1:=da xs i
 by_cases hi : i < xs.length
 ·have hb2:=ki hi
  have hb3:=da xs (i + 1)
  repeat' (first | refine jM ?_ | (refine jo ?_;first | refine jV (ah F F oM) ?_ | (refine jV (fu F F aS ?_) ?_;focus omega)) | refine ae F (aC oM) ?_ | refine af F (aF oM) ?_)
  refine Nx.re (d:=5) (v':=I ((xs.length : Int) - 1 + (b5 (xs.take (i + 1)) : Nat))) F (congrArg (Value.int .i64) (by rw [hb2];omega)) ?_
  exact aW (i + 1) oM oM tU F bd
 have hin : i = xs.length:=oM
 subst hin
 rw [List.take_length] at *
 refine Nx.re (d:=5) (v':=I ((xs.length - 1 + b5 xs : Nat) : Int)) F (congrArg (Value.int .i64) oM) ?_
 have hb0 : (ac xs 0).length ≤ b5 xs:=by have:=ki (i:=0) hpos;have:=da xs (0 + 1);omega
 have hw0 : 0 + (ac xs 0).length ≤ 1000000000:=oM
 have hsv1:=hsv.tailS
 have hdl : (xs.drop 1).length = xs.length - 1:=by rw [List.length_drop]
 have eJ0 : aN c (xs.take (0 + 1)) = ac xs 0:=by rw [fH hpos];rfl
 repeat' (first | refine jR ?_ | (refine jo ?_;first | refine jV (ai F) ?_ | refine jV (ah F F oM) ?_ | (refine jV (fu F F aS ?_) ?_;focus omega) | refine jL fun _=>?_ | refine jV (wG F F oM) ?_ | (refine an F F F (uJ oM) F ?_;rintro _ _ ⟨b2,c2,rfl⟩;dsimp only [zA,fA]) | (refine gk F F F (rH (by (repeat (assumption));done)) rfl ?_;rintro _ _ ⟨b3,c3,rfl,rfl⟩;dsimp only [zA,fA])) | refine af F (aF oM) ?_)
 rename_i x _
 refine Nx.cast (L':=[.acc (.slice (some ⟨b3,0,none⟩) (aN c (xs.take (0 + 1))).length (c3 + 1)) iI 1 (aN c (xs.take (0 + 1))).length (bD (aN c (xs.take (0 + 1)))),.blk x (.cells (List.toArray [Pt x 0,.slice (some ⟨b3,0,none⟩) (aN c (xs.take (0 + 1))).length (c3 + 1)]) eR (0,0))]) (by rw [eJ0];simp only [Nat.zero_add]) ?_
 refine aT (ι:=Nat × Nat × Nat) (fun q=>q.1 ≤ xs.length - 1) (fun q=>[(1,S [c]),(63,.slice (some ⟨bv,ov + 1,none⟩) (xs.length - 1) (cv - 1)),(64,I (xs.length - 1 : Nat)),(65,I q.1),(8,Pt x 0)]) (fun _=>G) (fun q=>[.acc (.slice (some ⟨q.2.1,0,none⟩) (aN c (xs.take (q.1 + 1))).length (q.2.2 + 1)) iI 1 (aN c (xs.take (q.1 + 1))).length (bD (aN c (xs.take (q.1 + 1)))),.blk x (.cells (List.toArray [Pt x 0,.slice (some ⟨q.2.1,0,none⟩) (aN c (xs.take (q.1 + 1))).length (q.2.2 + 1)]) eR (0,0))]) (fun q=>xs.length - q.1) (0,b3,c3) ?_ tU F bd (fun q Hq=>?_)
 ·exact Nat.zero_le _
 obtain ⟨i,b4,c4⟩:=q
 dsimp only at Hq ⊢
 have hj1:=gW c (xs.take (i + 1))
 have hj2:=da xs (i + 1)
 have hj3 : (xs.take (i + 1)).length ≤ xs.length:=by rw [List.length_take];omega
 by_cases hi2 : i < xs.length - 1
 ·have hwA : (aN c (xs.take (i + 1))).length + ([c] : ye).length ≤ 1000000000:=by rw [List.length_singleton];omega
  have hy1:=ki (xs:=xs) (i:=i + 1) oM
  have hy2:=da xs (i + 1 + 1)
  have hwB : (aN c (xs.take (i + 1))).length + ([c] : ye).length + (ac (xs.drop 1) i).length ≤ 1000000000:=by rw [nk,List.length_singleton];omega
  have ej : aN c (xs.take (i + 1 + 1)) = aN c (xs.take (i + 1)) ++ c :: ac (xs.drop 1) i:=by
   rw [fH oM,ml c _ _ (by rw [ne_eq,List.take_eq_nil_iff];simp [h0]),nk]
  repeat' (first | refine jM ?_ | (refine jo ?_;first | refine jV (ah F F oM) ?_ | (refine jV (fu F F aS ?_) ?_;focus omega) | (refine gk F F F (rH (by (repeat (assumption));done)) rfl ?_;rintro _ _ ⟨b3,c3,rfl,rfl⟩;dsimp only [zA,fA])) | refine ae F (aC oM) ?_)
  refine Nx.cast (L':=[.acc (.slice (some ⟨b3,0,none⟩) (aN c (xs.take (i + 1 + 1))).length (c3 + 1)) iI 1 (aN c (xs.take (i + 1 + 1))).length (bD (aN c (xs.take (i + 1 + 1)))),.blk x (.cells (List.toArray [Pt x 0,.slice (some ⟨b3,0,none⟩) (aN c (xs.take (i + 1 + 1))).length (c3 + 1)]) eR (0,0))]) (by
   have e2 : (aN c (xs.take (i + 1 + 1))).length = (aN c (xs.take (i + 1))).length + ([c] : ye).length + (ac (xs.drop 1) i).length:=by rw [ej];simp;omega
   have e3 : bD (aN c (xs.take (i + 1 + 1))) = bD (aN c (xs.take (i + 1))) ++ bD [c] ++ bD (ac (xs.drop 1) i):=by rw [ej];simp [bD]
   rw [e2,e3]) ?_
  exact aW (i + 1,b3,c3) (by dsimp only;omega) (by dsimp only;omega) tU rfl bd
 ·have ei : xs.take (i + 1) = xs:=List.take_of_length_le oM
  rw [ei] at hj1 ⊢
  repeat' (first | refine jR ?_ | (refine jo ?_;(refine gk F F F (wd oM) F ?_;rintro _ _ ⟨rfl,rfl⟩;dsimp only [zA,fA])) | refine af F (aF oM) ?_)
  refine jY (vs:=[_]) ?_
  rfl
structure VC where
 what : Nat
 text : ye
 tag : Int
 a : Option Addr
 n : Nat
 c : Nat
instance : Inhabited VC:=⟨⟨0,[],0,none,0,0⟩⟩
abbrev VC.sl (v : VC) : Value:=.slice v.a v.n v.c
def cE (v : VC) : List Value:=[U8 (v.what : Nat),S v.text,I v.tag,v.sl]
instance : RowF cE 4:=⟨fun _=>rfl⟩
mutual
def V.rep (G : Gh) : V → VC → Prop
 | .nd w x t ks,c=>(c.what = w ∧ w ≤ 255) ∧ c.text = x ∧ (c.tag = t ∧ 0 ≤ t ∧ t ≤ 999999) ∧ (c.n = ks.length ∧ (w = 61 → ks.length = 1)) ∧ ∃ cs,bh G c.sl 4 cs.length (aj cE cs) ∧ V.reps G ks cs
def V.reps (G : Gh) : List V → List VC → Prop
 | [],cs=>cs = []
 | v :: r,cs=>∃ c cs',cs = c :: cs' ∧ V.rep G v c ∧ V.reps G r cs'
end
theorem iL {G : Gh} : ∀ {ks : List V} {cs : List VC},V.reps G ks cs → cs.length = ks.length
 | [],cs,h=>by rw [V.reps] at h;subst h;rfl
 | v :: r,cs,h=>by
  rw [V.reps] at h
  obtain ⟨c,cs',rfl,_,h2⟩:=h
  rw [List.length_cons,List.length_cons,iL h2]
theorem iK {G : Gh} : ∀ {ks : List V} {cs : List VC},V.reps G ks cs → ∀ i,i < ks.length → V.rep G (ac ks i) (ac cs i)
 | [],_,_,i,hi=>by simp at hi
 | v :: r,cs,h,i,hi=>by
  rw [V.reps] at h
  obtain ⟨c,cs',rfl,h1,h2⟩:=h
  cases i with
  | zero=>exact h1
  | succ i=>exact iK h2 i (by simpa using hi)
theorem j6 {G : Gh} {v : V} {c : VC} (h2 : V.rep G v c) : ∀ {ks : List V} {cs : List VC},V.reps G ks cs → V.reps G (ks ++ [v]) (cs ++ [c])
 | [],cs,h=>by
  rw [V.reps] at h;subst h
  exact ⟨c,[],F,h2,F⟩
 | u :: r,cs,h=>by
  rw [V.reps] at h
  obtain ⟨d,cs',rfl,h1,h3⟩:=h
  exact ⟨d,cs' ++ [c],F,h1,j6 h2 h3⟩
mutual
theorem fJ {G G' : Gh} (hl : Gh.le G G') : ∀ {v : V} {c : VC},V.rep G v c → V.rep G' v c
 | .nd w x t ks,c,h=>by
  rw [V.rep] at h ⊢
  obtain ⟨h1,h2,h3,h4,cs,h5,h6⟩:=h
  exact ⟨h1,h2,h3,h4,cs,h5.mono hl,cr hl h6⟩
theorem cr {G G' : Gh} (hl : Gh.le G G') : ∀ {ks : List V} {cs : List VC},V.reps G ks cs → V.reps G' ks cs
 | [],cs,h=>h
 | v :: r,cs,h=>by
  rw [V.reps] at h ⊢
  obtain ⟨c,cs',e,h1,h2⟩:=h
  exact ⟨c,cs',e,fJ hl h1,cr hl h2⟩
end
theorem im {G : Gh} {w : Nat} {x : ye} {t : Int} {ks : List V} {c : VC} (h : V.rep G (.nd w x t ks) c) : ∃ (a : Option Addr) (k : Nat) (cs : List VC),c = ⟨w,x,t,a,ks.length,k⟩ ∧ w ≤ 255 ∧ (0 ≤ t ∧ t ≤ 999999) ∧ (w = 61 → ks.length = 1) ∧ cs.length = ks.length ∧ bh G (.slice a ks.length k) 4 cs.length (aj cE cs) ∧ V.reps G ks cs:=by
 rw [V.rep] at h
 obtain ⟨⟨h1,h1'⟩,h2,⟨h3,h3'⟩,⟨h4,h4'⟩,cs,h5,h6⟩:=h
 obtain ⟨w',x',t',a,n,k⟩:=c
 dsimp only at h1 h2 h3 h4 h5
 subst h1;subst h2;subst h3;subst h4
 exact ⟨a,k,cs,F,h1',h3',h4',iL h6,h5,h6⟩
theorem cV {G : Gh} {w : Nat} {x : ye} {t : Int} {ks : List V} {a : Option Addr} {k m : Nat} {cs : List VC} (hw : w ≤ 255) (ht : 0 ≤ t ∧ t ≤ 999999) (h61 : w = 61 → ks.length = 1) (hm : m = ks.length) (hs : bh G (.slice a m k) 4 cs.length (aj cE cs)) (hk : V.reps G ks cs) : V.rep G (.nd w x t ks) ⟨w,x,t,a,m,k⟩:=by
 rw [V.rep];exact ⟨⟨F,hw⟩,F,⟨F,ht⟩,⟨hm,h61⟩,cs,hs,hk⟩
theorem tX {G : Gh} : bh G ax 4 ([] : List VC).length (aj cE []):=⟨rfl,.inl ⟨rfl,rfl⟩⟩
theorem bT {G : Gh} {w : Nat} {x : ye} {t : Int} (hw : w ≤ 255 ∧ w ≠ 61) (ht : 0 ≤ t ∧ t ≤ 999999) : V.rep G (.nd w x t []) ⟨w,x,t,none,0,0⟩:=cV hw.1 ht (fun h=>absurd h hw.2) rfl tX rfl
theorem n7 : ∀ {ks : List V} {i : Nat},i < ks.length → ac (V.outs ks) i = (ac ks i).out
 | [],i,h=>by simp at h
 | v :: r,0,_=>rfl
 | v :: r,i + 1,h=>by
  have:=n7 (ks:=r) (i:=i) (by simpa using h)
  simpa [V.outs,ac] using this
theorem n6 (ks : List V) : (V.outs ks).length = ks.length:=by rw [V.outs_map];simp
theorem mM {ks : List V} {i : Nat} (h : i < ks.length) : V.tot (ac ks i) ≤ V.tots ks:=by
 rw [bW h];exact nR (List.getElem_mem h)
theorem i9 {t : Int} (h : t ≤ 999999) : (a7 t).length ≤ 19:=fO oM
theorem sA {w : Nat} {x : ye} {t : Int} {e : Bool} {j : ye} (ht : t ≤ 999999) : (du w x t e j).length ≤ 25 + x.length + j.length:=by
 have hd:=i9 ht
 unfold du
 split
 ·simp;omega
 split
 ·simp;omega
 split
 ·split
  ·simp;omega
  ·simp;omega
 split
 ·simp;omega
 split
 ·simp;omega
 split
 ·simp;omega
 split
 ·simp;omega
 ·omega
mutual
theorem pF {G : Gh} : ∀ {v : V} {c : VC},V.rep G v c → v.out.length + 1 ≤ 2 * v.tot
 | .nd w x t ks,c,h=>by
  rw [V.rep] at h
  obtain ⟨_,_,⟨_,h3⟩,_,cs,_,h6⟩:=h
  have h1:=lu h6
  have h2:=gW 44 (V.outs ks)
  rw [n6] at h2
  have h4:=sA (w:=w) (x:=x) (e:=ks.isEmpty) (j:=aN 44 (V.outs ks)) h3.2
  have h5:=fG ks
  rw [V.out,V.tot]
  omega
theorem lu {G : Gh} : ∀ {ks : List V} {cs : List VC},V.reps G ks cs → b5 (V.outs ks) + ks.length ≤ 2 * V.tots ks
 | [],cs,h=>by simp [V.outs,b5]
 | v :: r,cs,h=>by
  rw [V.reps] at h
  obtain ⟨c,cs',_,h1,h2⟩:=h
  have h3:=pF h1
  have h4:=lu h2
  simp only [V.outs,b5,List.map_cons,List.sum_cons,V.tots,List.length_cons] at *
  omega
end
end Go.E
