/- Contracts and plain laws that the statement rests on, part 2. Conditions: as each says. -/
import Derived.Test.YtglhncibfmhblabGreatDoorZ1
set_option linter.unusedVariables false
set_option linter.unusedSimpArgs false
namespace Go.E
section
variable {P : Program} {n : Nat} {D : List Deferred} {E : bn} {M : World → Prop} {d : Option Nat} {ty : TypeId} {pos : String} {aft : Array Edge} {gd : Option (Nat × Bool)}
theorem wS {x : Operand} {T el : TypeId} {size bytes : Nat} {zero : Value} {p : Option Addr} {len cap : Nat} [TI P T (.slice el) size bytes zero] (hx : ev E x = some (.slice p len cap)) : Gives P n D E M ⟨d,.call ⟨.builtin .cap,[x].toArray,[T].toArray⟩,ty,pos,aft,gd⟩ (I cap):=Gives.mk fun a w hs _=>by
 simp [execOp,resolve,hs.ev hx,invoke,builtin,Builtin.cap_,bZ (T:=T) (desc:=.slice el) (size:=size) (bytes:=bytes) (zero:=zero),goInt]
theorem aar {T el : TypeId} {x lo : Operand} {desc' : TypeDesc} {size bytes size' bytes' : Nat} {zero zero' : Value} {k : IntKind} {m : Int} {b o len cap : Nat} [TI P T (.slice el) size bytes zero] [TI P el desc' size' bytes' zero']
  (hx : ev E x = some (.slice (some ⟨b,o,none⟩) len cap)) (hl : ev E lo = some (.int k m)) (h0 : 0 ≤ m ∧ m ≤ len ∧ m < cap) :
  Gives P n D E M ⟨d,.slice T x (some lo) none none,ty,pos,aft,gd⟩ (.slice (some ⟨b,o + m.toNat * size',none⟩) (len - m.toNat) (cap - m.toNat)):=by
 obtain ⟨o',h1,h2⟩:=v3 (P:=P) (n:=n) (D:=D) (M:=M) (d:=d) (ty:=ty) (pos:=pos) (aft:=aft) (gd:=gd) (T:=T) (el:=el) (desc':=desc') (size':=size') (bytes':=bytes') (zero':=zero') (size:=size) (bytes:=bytes) (zero:=zero) hx hl ⟨h0.1,h0.2.1⟩
 rw [← h1 h0.2.2];exact h2
theorem pt {S : World → Prop} {G0 : Gh} {L0 : List Own} [k : Kn S G0 L0] {b : Nat} {cs : List Value} {T0 : TypeId} {fr : Nat × Nat} (hm : Own.blk b (.cells cs.toArray T0 fr) ∈ L0) {w : World} (hw : S w) : w.shape? b = some (T0,cs.length):=by
 obtain ⟨B,G,L,_,hL,hst⟩:=k.kn w hw
 have h : w.heap[b]? = some (.cells cs.toArray T0 fr):=hst.own _ (hL _ hm)
 simp [World.shape?,h]
theorem aap {T T' t T0 : TypeId} {x : Operand} {b s1 b1 js jb : Nat} {z1 jz : Value} {jd : TypeDesc} {G0 : Gh} {L0 : List Own} {cs : List Value} {fr : Nat × Nat} [t1 : TI P T (.pointer t) s1 b1 z1] [t2 : TI P t jd js jb jz] [Kn M G0 L0] [h : BlkI L0 b cs T0 fr]
  (hd : P.underlying T' = some .unsafePointer) (hx : ev E x = some (Pt b 0)) (hj : Nat.beq js 0 = false) (hc : cs.isEmpty = false) : Gives P n D E M ⟨d,.convert T T' x,ty,pos,aft,gd⟩ (Pt b 0):=Gives.mk fun a w hs hw=>by
 obtain ⟨j,hj1,hj2,_,_⟩:=t2.inf
 have hl : 0 < cs.length:=by cases cs with | nil=>cases hc | cons=>simp
 have:=Lib.run_to_unsafe (P:=P) w (src:=T) (dst:=T') (t:=t) (j:=j) ⟨b,0,none⟩ t1.und hd hj1 (by rw [hj2];intro e;subst e;simp at hj) (pt (S:=M) h.mem hw) hl
 simp only [execOp,hs.ev hx,Sem.run_bind,this,Result.andThen_ok,Sem.run_pure]
theorem xl {T T' t T0 : TypeId} {x : Operand} {b s1 b1 js jb : Nat} {z1 jz : Value} {jd : TypeDesc} {G0 : Gh} {L0 : List Own} {cs : List Value} {fr : Nat × Nat} [t1 : TI P T' (.pointer t) s1 b1 z1] [t2 : TI P t jd js jb jz] [Kn M G0 L0] [h : BlkI L0 b cs T0 fr]
  (hd : P.underlying T = some .unsafePointer) (hx : ev E x = some (Pt b 0)) (hl : liesAt P P.depth T0 (cs.length / P.cellsOf T0) 0 t 1 = true) : Gives P n D E M ⟨d,.convert T T' x,ty,pos,aft,gd⟩ (Pt b 0):=Gives.mk fun a w hs hw=>by
 obtain ⟨j,hj1,_,_,_⟩:=t2.inf
 have:=Lib.run_from_unsafe (P:=P) w (src:=T) (dst:=T') (u:=t) (j:=j) ⟨b,0,none⟩ hd t1.und hj1 (pt (S:=M) h.mem hw) hl
 simp only [execOp,hs.ev hx,Sem.run_bind,this,Result.andThen_ok,Sem.run_pure]
theorem yU {T T' el : TypeId} {x y : Operand} {size bytes js jb : Nat} {zero jz : Value} {jd : TypeDesc} {p : Addr} [t1 : TI P T (.pointer el) size bytes zero] [t2 : TI P el jd js jb jz] (hx : ev E x = some (.pointer (some p))) (hy : ev E y = some (.pointer (some p))) : Gives P n D E M ⟨d,.binOp .neq T x y T',ty,pos,aft,gd⟩ (Bo false):=dg hx hy rfl fun w=>by
 obtain ⟨j,hj1,_,_,_⟩:=t2.inf
 exact Lib.run_neq_ptr_same w p t1.und hj1
theorem xp {T T' el : TypeId} {x y : Operand} {s1 b1 js jb : Nat} {z1 jz : Value} {jd : TypeDesc} {b o m c : Nat} [t1 : TI P T (.slice el) s1 b1 z1] [t2 : TI P el jd js jb jz] (hx : ev E x = some (.slice (some ⟨b,o,none⟩) m c)) (hy : ev E y = some aK) :
  Gives P n D E M ⟨d,.call ⟨.builtin .copy,[x,y].toArray,[T,T'].toArray⟩,ty,pos,aft,gd⟩ (I (0 : Nat)):=Gives.mk fun a w hs _=>by
 obtain ⟨j,hj1,_,_,_⟩:=t2.inf
 have h1:=run_copy_nil (P:=P) w T T' ty el ⟨b,o,none⟩ m c t1.und (by rw [hj1];rfl)
 have e1 : ([x,y].toArray.map a.eval) = #[.slice (some ⟨b,o,none⟩) m c,aK]:=by simp [hs.ev hx,hs.ev hy]
 simp only [execOp,resolve,e1,Sem.run_bind,Sem.run_pure,Result.andThen_ok,invoke,builtin,h1]
 rfl
theorem yS {T : TypeId} {x : Operand} {b o m c : Nat} (hx : ev E x = some (.slice (some ⟨b,o,none⟩) m c)) (hc : Nat.beq c 0 = false) : Gives P n D E M ⟨d,.call ⟨.builtin .unsafeSliceData,[x].toArray,[T].toArray⟩,ty,pos,aft,gd⟩ (Pt b o):=Gives.mk fun a w hs _=>by
 have h1:=Lib.run_unsafeSliceData_row (P:=P) w #[T] ty ⟨b,o,none⟩ m c (by rintro rfl;simp at hc)
 have e1 : ([x].toArray.map a.eval) = #[.slice (some ⟨b,o,none⟩) m c]:=by simp [hs.ev hx]
 simp only [execOp,resolve,e1,Sem.run_bind,Sem.run_pure,Result.andThen_ok,invoke,builtin,h1]
theorem xk {T : TypeId} {x : Operand} (hx : ev E x = some aK) : Gives P n D E M ⟨d,.call ⟨.builtin .unsafeSliceData,[x].toArray,[T].toArray⟩,ty,pos,aft,gd⟩ (.pointer none):=Gives.mk fun a w hs _=>by
 have h1:=Lib.run_unsafeSliceData_nil (P:=P) w #[T] ty 0 0
 have e1 : ([x].toArray.map a.eval) = #[aK]:=by simp [hs.ev hx]
 simp only [execOp,resolve,e1,Sem.run_bind,Sem.run_pure,Result.andThen_ok,invoke,builtin,h1]
theorem xg {T T' : TypeId} {x y : Operand} {p : Option Addr} (hx : ev E x = some (.pointer p)) (hy : ev E y = some (I (0 : Nat))) : Gives P n D E M ⟨d,.call ⟨.builtin .unsafeString,[x,y].toArray,[T,T'].toArray⟩,ty,pos,aft,gd⟩ (S []):=Gives.mk fun a w hs _=>by
 have h1:=Lib.run_unsafeString_none (P:=P) w T T' ty p
 have e1 : ([x,y].toArray.map a.eval) = #[.pointer p,.int .i64 0]:=by simp [hs.ev hx,hs.ev hy]
 simp only [execOp,resolve,e1,Sem.run_bind,Sem.run_pure,Result.andThen_ok,invoke,builtin,h1]
 rfl
end
section
variable {P : Program} {n : Nat} {D : List Deferred} {E : bn} {B : Base} {G : Gh} {L : List Own} {K : Act → World → Prop} {Q : Exit → Act → World → Prop} {ty : TypeId} {pos : String} {aft : Array Edge} {gd : Option (Nat × Bool)} {d : Nat}
theorem St.freeze {w : World} {b m cap : Nat} {T : TypeId} {xs : List Value} (h : St B G (.acc (.slice (some ⟨b,0,none⟩) m cap) T 1 m xs :: L) w) (k : Nat) : St B G L (w.freeze ⟨b,0,none⟩ k):=by
 obtain ⟨h1,⟨h2,_⟩ | ⟨b',cap',rest,e,hc,hl,hb⟩⟩ : fC w _ T 1 m xs:=h.own _ List.mem_cons_self
 ·cases h2
 simp only [Value.slice.injEq,Option.some.injEq,Addr.mk.injEq,and_true,true_and] at e
 obtain ⟨rfl,rfl⟩:=e
 unfold World.freeze
 by_cases hk : k = 0
 ·rw [if_pos hk];exact h.weaken (List.sublist_cons_self _ _)
 ·rw [if_neg hk]
  have h2:=h.upd (y:=.blk b (.cells (xs ++ rest).toArray T (0,k))) (w':={ w with heap:=w.heap.modify b fun | .cells c elem (lo,hi)=>.cells c elem (if lo == hi then (0,0 + k) else (min lo 0,max hi (0 + k))) | o=>o }) (b:=b) rfl rfl (by
   show (w.heap.modify b _)[b]? = _
   rw [Array.getElem?_modify,if_pos rfl,hb]
   simp) (fun c hc=>by
    show (w.heap.modify b _)[c]? = _
    rw [Array.getElem?_modify,if_neg (fun e=>hc e.symm)]) rfl rfl rfl (by simp)
  exact h2.weaken (List.sublist_cons_self _ _)
class AccD (L : List Own) (b : Nat) (m cap : outParam Nat) (T : outParam TypeId) (sz : outParam Nat) (xs : outParam (List Value)) (L' : outParam (List Own)) : Prop where
 del : Del (.acc (.slice (some ⟨b,0,none⟩) m cap) T sz m xs) L L'
instance {b m cap : Nat} {T : TypeId} {sz : Nat} {xs : List Value} {r : List Own} : AccD (.acc (.slice (some ⟨b,0,none⟩) m cap) T sz m xs :: r) b m cap T sz xs r:=⟨.here⟩
instance {b m cap : Nat} {T : TypeId} {sz : Nat} {xs : List Value} {z : Own} {r r' : List Own} [h : AccD r b m cap T sz xs r'] : AccD (z :: r) b m cap T sz xs (z :: r'):=⟨.there h.del⟩
theorem zt {T T' el : TypeId} {x y : Operand} {b m cap s1 b1 s2 b2 : Nat} {z1 z2 : Value} {l : abL} {L' : List Own} [t1 : TI P T (.pointer el) s1 b1 z1] [t2 : TI P el (.int .u8) s2 b2 z2] [ha : AccD L b m cap el 1 (co l) L']
  (hc1 : P.cellsOf el = 1) (hx : ev E x = some (Pt b 0)) (hy : ev E y = some (I (m : Nat))) (hlt : Nat.blt d n = true) (hm : m ≤ 9223372036854775807)
  (k : Nx n D ((d,S l) :: E) B G L' K) : Nx n D E B G L (ow P ⟨some d,.call ⟨.builtin .unsafeString,[x,y].toArray,[T,T'].toArray⟩,ty,pos,aft,gd⟩ Q K):=Nx.mk fun a w hs hw=>by
 have hw1:=hw.perm ha.del.perm
 have hat : fC w (.slice (some ⟨b,0,none⟩) m cap) el 1 m (co l):=hw1.own _ List.mem_cons_self
 obtain ⟨h1,⟨h2,_⟩ | ⟨b',cap',rest,e,hc,hl,hb⟩⟩:=hat
 ·cases h2
 simp only [Value.slice.injEq,Option.some.injEq,Addr.mk.injEq,and_true,true_and] at e
 obtain ⟨rfl,rfl⟩:=e
 have hlm : l.length = m:=by simpa [co] using h1
 have e1 : ([x,y].toArray.map a.eval) = #[.pointer (some ⟨b,0,none⟩),.int .i64 (m : Nat)]:=by simp [hs.ev hx,hs.ev hy]
 unfold ow Oper.wp
 by_cases h0 : l = []
 ·subst h0
  have hm0 : m = 0:=by simpa using hlm.symm
  subst hm0
  have hr:=Lib.run_unsafeString_none (P:=P) w T T' ty (some ⟨b,0,none⟩)
  have : (execOp a.eval ⟨some d,.call ⟨.builtin .unsafeString,[x,y].toArray,[T,T'].toArray⟩,ty,pos,aft,gd⟩).run P w = .ok (.value (S [])) w:=by
   simp only [execOp,resolve,e1,Sem.run_bind,Sem.run_pure,Result.andThen_ok,invoke,builtin]
   have hr' : (Builtin.unsafeString_ [T,T'].toArray ty #[.pointer (some ⟨b,0,none⟩),.int .i64 ((0 : Nat) : Int)]).run P w = .ok (.string .empty) w:=hr
   rw [hr'];rfl
  rw [this,Oper.upon_value]
  exact k.go _ w (hs.put (by simpa using hlt)) (hw1.weaken (List.sublist_cons_self _ _))
 ·have hcell : ∀ j x,l[j]? = some x → w.cell? ((⟨b,0,none⟩ : Addr).add j) = some (.int .u8 x.toNat):=fun j x hj=>by
   have hv : (co l)[j]? = some (.int .u8 x.toNat):=by simp [co,hj]
   rw [lg]
   exact ((eE (S:=St B G (.acc (.slice (some ⟨b,0,none⟩) m cap) el 1 m (co l) :: L')) (m:=m) (cap:=cap) (T:=el) (sz:=1) (xs:=co l) List.mem_cons_self).go j _ hv).go w hw1
  have hsh : w.shape? b = some (el,(co l ++ rest).length):=by simp [World.shape?,hb]
  have hr:=Lib.run_unsafeString_row (P:=P) w T T' ty el t1.und hc1 b _ hsh l h0 (by simp [co]) oM hcell
  have : (execOp a.eval ⟨some d,.call ⟨.builtin .unsafeString,[x,y].toArray,[T,T'].toArray⟩,ty,pos,aft,gd⟩).run P w = .ok (.value (S l)) (w.freeze ⟨b,0,none⟩ l.length):=by
   simp only [execOp,resolve,e1,Sem.run_bind,Sem.run_pure,Result.andThen_ok,invoke,builtin]
   have hr' : (Builtin.unsafeString_ [T,T'].toArray ty #[.pointer (some ⟨b,0,none⟩),.int .i64 (m : Nat)]).run P w = .ok (S l) (w.freeze ⟨b,0,none⟩ l.length):=by rw [← hlm];exact hr
   rw [hr'];rfl
  rw [this,Oper.upon_value]
  exact k.go _ _ (hs.put (by simpa using hlt)) (hw1.freeze _)
theorem lu (l : abL) : Lib.strCells ⟨l.toArray⟩ = co l:=by simp [Lib.strCells,co]
theorem sf {v : Value} {m : Nat} {T T2 el : TypeId} {s1 b1 s2 b2 : Nat} {z1 z2 : Value} {xs : List Value} {l : abL} {w : World} {R : List Own} [h1' : TI P T (.slice el) s1 b1 z1] [h2' : TI P T2 .string s2 b2 z2] [he : TI P el (.int .u8) 1 1 (.int .u8 0)]
  (hb : m + l.length ≤ 1000000000) (hw : St B G (.acc v el 1 m xs :: R) w) :
  ∃ v' w',(Builtin.append_ #[T,T2] ty #[v,S l]).run P w = .ok v' w' ∧ St B G (.acc v' el 1 (m + l.length) (xs ++ co l) :: R) w' ∧ (v = aK → l = [] → v' = aK) ∧ ((v ≠ aK ∨ l ≠ []) → ∃ b cap,v' = .slice (some ⟨b,0,none⟩) (m + l.length) cap ∧ ((∀ p q,v ≠ .slice p q 0) ∨ l ≠ [] → 0 < cap)):=by
 obtain ⟨hxl,hacc⟩ : fC w v el 1 m xs:=hw.own _ List.mem_cons_self
 obtain ⟨ie,hi,hsz,hby,hze⟩:=he.inf
 have ht:=h1'.und
 have hu:=h2'.und
 have hss : (⟨l.toArray⟩ : ByteArray).size = l.length:=mX l
 have hul : (co l).length = l.length:=by simp [co]
 have mk : ∀ nc,m + l.length ≤ nc →
   St B G (.acc (.slice (some ⟨w.heap.size,0,none⟩) (m + l.length) nc) el 1 (m + l.length) (xs ++ co l) :: R) (w.drew.alloc (.cells (xs ++ co l ++ bw [.int .u8 0] (nc - (m + l.length))).toArray el)):=by
  intro nc hnc
  have h2:=hw.drew.alloc (.cells (xs ++ co l ++ bw [.int .u8 0] (nc - (m + l.length))).toArray el)
  have h3 : St B G (.blk w.drew.heap.size (.cells (xs ++ co l ++ bw [.int .u8 0] (nc - (m + l.length))).toArray el) :: R) _:=h2.weaken (.cons_cons _ (List.sublist_cons_self _ _))
  refine h3.conv F ⟨by simp [hxl,hul],.inr ⟨_,nc,bw [.int .u8 0] (nc - (m + l.length)),F,hnc,?_,h3.own _ List.mem_cons_self⟩⟩
  simp only [List.length_append,hxl,hul,fI,List.length_cons,List.length_nil]
  omega
 have ez : (Builtin.zeroCells (Value.int .u8 0).cells) = fun k=>(bw [.int .u8 0] k).toArray:=by
  funext k;rw [← iz];rfl
 rcases hacc with ⟨rfl,rfl⟩ | ⟨b,cap,rest,rfl,hmc,hrl,hblk⟩
 ·have hx0 : xs = []:=by simpa using hxl
  subst hx0
  by_cases hk : l = []
  ·subst hk
   refine ⟨aK,w,?_,by simpa [co] using hw,fun _ _=>rfl,fun h=>by rcases h with h | h <;> exact absurd F h⟩
   have hf : (Builtin.firstCells 1 0 (S [])).run P w = .ok #[] w:=by
    have:=Lib.run_firstCells_string (P:=P) w 1 ⟨([] : abL).toArray⟩
    rw [mX] at this;simpa [Lib.strCells] using this
   simp [Builtin.append_,run_underlying ht,run_underlying hu,sizeOf,typeInfo,hi,hsz,Builtin.lenOf,mX,hf]
  ·have hpos : 0 < l.length:=List.length_pos_iff.2 hk
   have hr:=run_append_nil_string (P:=P) w T T2 ty el ie (.int .u8 0) ht hu hi hze ⟨l.toArray⟩ (by rw [hss];exact hpos) (by rw [hss];omega) (by rw [hss,hby];omega)
   rw [hss] at hr
   have hg:=grownCap_ge w l.length 0 el
   have:=mk (grownCap w l.length 0 el) (by simpa using hg)
   have e1 : (⟨l.toArray⟩ : ByteArray).data.map (fun b=>Value.int .u8 b.toNat) ++ Builtin.zeroCells (Value.int .u8 0).cells (grownCap w l.length 0 el - l.length) = (co l ++ bw [.int .u8 0] (grownCap w l.length 0 el - l.length)).toArray:=by
    rw [ez];simp [co]
   rw [e1] at hr
   simp only [Nat.zero_add,List.nil_append] at this ⊢
   exact ⟨_,_,hr,this,fun _ h=>absurd h hk,fun _=>⟨_,_,F,fun _=>by omega⟩⟩
 ·by_cases hfit : m + l.length ≤ cap
  ·have hr:=Lib.run_append_room_string (P:=P) w T T2 ty el ie ht hu hi hsz b m cap (xs ++ rest).toArray hblk ⟨l.toArray⟩ (by rw [hss];exact hfit) (by rw [hss];simp only [List.size_toArray];omega)
   have hcells : (List.take m (xs ++ rest) ++ co l ++ List.drop (m + l.length) (xs ++ rest)) = xs ++ co l ++ rest.drop l.length:=by
    have : m = xs.length:=oM
    rw [this];simp [List.drop_append]
   rw [hss,lu] at hr
   simp only [hcells] at hr
   refine ⟨_,_,hr,hw.upd (b:=b) F F ⟨by simp [hxl,hul],.inr ⟨b,cap,rest.drop l.length,F,hfit,?_,setRow_heap w b _ _ el _ hblk⟩⟩ (fun c hc=>setRow_other w b c _ hc) F F F (by simp),fun h=>(by cases h),fun _=>⟨b,cap,F,fun h=>?_⟩⟩
   ·simp only [List.length_append,List.length_drop] at *;omega
   ·rcases h with h | h
    ·rcases Nat.eq_zero_or_pos cap with h0 | h0
     ·subst h0;exact absurd F (h _ _)
     ·exact h0
    ·have:=List.length_pos_iff.2 h;omega
  ·have hnsc:=i7 (m + l.length) cap oM
   have hold : ∀ j u,xs[j]? = some u → w.cell? ((⟨b,0,none⟩ : Addr).add j) = some u:=fun j u hj=>by
    rw [lg]
    exact ((eE (S:=St B G (.acc (.slice (some ⟨b,0,none⟩) m cap) el 1 m xs :: R)) (m:=m) (cap:=cap) (T:=el) (sz:=1) (xs:=xs) List.mem_cons_self).go j u hj).go w hw
   have hr:=Lib.run_append_grow_string (P:=P) w T T2 ty el ie (.int .u8 0) ht hu hi hze ⟨b,0,none⟩ m cap xs (by rw [hsz];simpa using hxl) hold ⟨l.toArray⟩ (by rw [hss];omega) (by rw [hss];omega) (by rw [hss,hby];omega)
   rw [hss,lu,ez] at hr
   have hg:=grownCap_ge w (m + l.length) cap el
   have:=mk (grownCap w (m + l.length) cap el) hg
   simp only [List.append_toArray] at hr this ⊢
   exact ⟨_,_,hr,this,fun h=>(by cases h),fun _=>⟨_,_,F,fun _=>by omega⟩⟩
theorem aa1 {m b cap : Nat} {s x : Operand} {T T2 el : TypeId} {s1 b1 s2 b2 : Nat} {z1 z2 : Value} {xs : List Value} {l : abL} {L' : List Own} [TI P T (.slice el) s1 b1 z1] [TI P T2 .string s2 b2 z2] [TI P el (.int .u8) 1 1 (.int .u8 0)] [ha : AccI L (.slice (some ⟨b,0,none⟩) m (cap + 1)) el 1 m xs L']
  (hs : ev E s = some (.slice (some ⟨b,0,none⟩) m (cap + 1))) (hx : ev E x = some (S l)) (hlt : Nat.blt d n = true) (hb : m + l.length ≤ 1000000000)
  (kk : ∀ b' cap',Nx n D ((d,.slice (some ⟨b',0,none⟩) (m + l.length) (cap' + 1)) :: E) B G (.acc (.slice (some ⟨b',0,none⟩) (m + l.length) (cap' + 1)) el 1 (m + l.length) (xs ++ co l) :: L') K) :
  Nx n D E B G L (ow P ⟨some d,.call ⟨.builtin .append,[s,x].toArray,[T,T2].toArray⟩,ty,pos,aft,gd⟩ Q K):=Nx.mk fun a w hsat hw=>by
 obtain ⟨v',w',hr,hst,_,h2⟩:=sf (P:=P) (ty:=ty) (T:=T) (T2:=T2) (el:=el) (s1:=s1) (b1:=b1) (z1:=z1) (s2:=s2) (b2:=b2) (z2:=z2) hb (hw.perm ha.del.perm)
 obtain ⟨b',cap',rfl,h3⟩:=h2 (.inl (by simp))
 obtain ⟨c,rfl⟩ : ∃ c,cap' = c + 1:=⟨cap' - 1,by have:=h3 (.inl (by simp));omega⟩
 have hrun : (execOp a.eval ⟨some d,.call ⟨.builtin .append,[s,x].toArray,[T,T2].toArray⟩,ty,pos,aft,gd⟩).run P w = .ok (.value (.slice (some ⟨b',0,none⟩) (m + l.length) (c + 1))) w':=by
  have e1 : ([s,x].toArray.map a.eval) = #[.slice (some ⟨b,0,none⟩) m (cap + 1),S l]:=by simp [hsat.ev hs,hsat.ev hx]
  simp only [execOp,resolve,e1,Sem.run_bind,Sem.run_pure,Result.andThen_ok,invoke,builtin,hr]
 unfold ow Oper.wp
 rw [hrun,Oper.upon_value]
 exact (kk b' c).go _ w' (hsat.put (by simpa using hlt)) hst
theorem zV {s x : Operand} {T T2 el : TypeId} {s1 b1 s2 b2 : Nat} {z1 z2 : Value} {l : abL} [TI P T (.slice el) s1 b1 z1] [TI P T2 .string s2 b2 z2] [TI P el (.int .u8) 1 1 (.int .u8 0)]
  (hs : ev E s = some aK) (hx : ev E x = some (S l)) (hlt : Nat.blt d n = true) (hb : 0 < l.length ∧ l.length ≤ 1000000000)
  (kk : ∀ b' cap',Nx n D ((d,.slice (some ⟨b',0,none⟩) l.length (cap' + 1)) :: E) B G (.acc (.slice (some ⟨b',0,none⟩) l.length (cap' + 1)) el 1 l.length (co l) :: L) K) :
  Nx n D E B G L (ow P ⟨some d,.call ⟨.builtin .append,[s,x].toArray,[T,T2].toArray⟩,ty,pos,aft,gd⟩ Q K):=Nx.mk fun a w hsat hw=>by
 obtain ⟨v',w',hr,hst,_,h2⟩:=sf (P:=P) (ty:=ty) (T:=T) (T2:=T2) (el:=el) (s1:=s1) (b1:=b1) (z1:=z1) (s2:=s2) (b2:=b2) (z2:=z2) (l:=l) oM (hw.addNil el 1)
 have hne : l ≠ []:=List.length_pos_iff.1 hb.1
 obtain ⟨b',cap',rfl,h3⟩:=h2 (.inr hne)
 obtain ⟨c,rfl⟩ : ∃ c,cap' = c + 1:=⟨cap' - 1,by have:=h3 (.inr hne);omega⟩
 simp only [Nat.zero_add,List.nil_append] at hr hst
 have hrun : (execOp a.eval ⟨some d,.call ⟨.builtin .append,[s,x].toArray,[T,T2].toArray⟩,ty,pos,aft,gd⟩).run P w = .ok (.value (.slice (some ⟨b',0,none⟩) l.length (c + 1))) w':=by
  have e1 : ([s,x].toArray.map a.eval) = #[aK,S l]:=by simp [hsat.ev hs,hsat.ev hx]
  simp only [execOp,resolve,e1,Sem.run_bind,Sem.run_pure,Result.andThen_ok,invoke,builtin,hr]
 unfold ow Oper.wp
 rw [hrun,Oper.upon_value]
 exact (kk b' c).go _ w' (hsat.put (by simpa using hlt)) hst
theorem aaV {fo x : Operand} {ag : Array TypeId} {f : FuncId} {fn : Func} {t el : TypeId} {m : Nat} {ps : Array TypeId}
  (hf : ev E fo = some (.func (.func f) #[] #[])) (hx : ev E x = some (I (m : Nat))) (hlt : Nat.blt d n = true) (hfn : P.funcs[f]? = some fn) (hname : (fn.name == "runtime.NumGoroutine") = false) (hbd : fn.body.isNone = true) (hnx : Extern.findNext fn = none) (he : Extern.find fn = some (Extern.BytealgMakeNoZero.makeNoZero ps #[t])) (ht : P.underlying t = some (.slice el)) (hm : 0 < m ∧ m ≤ 1000000000)
  (k : ∀ b cap,m ≤ cap + 1 → Nx n D ((d,.slice (some ⟨b,0,none⟩) m (cap + 1)) :: E) B G (.acc (.slice (some ⟨b,0,none⟩) 0 (cap + 1)) el 1 0 [] :: L) K) : Nx n D E B G L (ow P ⟨some d,.call ⟨.value fo,[x].toArray,ag⟩,ty,pos,aft,gd⟩ Q K):=Nx.mk fun a w hs hw=>by
 obtain ⟨cs,hr,hcs,_⟩:=Lib.run_makeNoZero (P:=P) w ps t el ht m oM
 have e1 : ([x].toArray.map a.eval) = #[.int .i64 (m : Nat)]:=by simp [hs.ev hx]
 have hrun : (execOp a.eval ⟨some d,.call ⟨.value fo,[x].toArray,ag⟩,ty,pos,aft,gd⟩).run P w = .ok (.value (.slice (some ⟨w.heap.size,0,none⟩) m cs.size)) (w.drew.drew.alloc (.cells cs el)):=by
  simp only [execOp,resolve,hs.ev hf,e1,Deferred.ofValue,Sem.run_bind,Sem.run_pure,Result.andThen_ok,invoke]
  rw [show (#[] ++ #[Value.int .i64 (m : Nat)] ++ #[] : Array Value) = #[Value.int .i64 (m : Nat)] from rfl,run_callFunc_extern hfn hname hbd hnx he,hr]
  rfl
 unfold ow Oper.wp
 rw [hrun,Oper.upon_value]
 have h1:=hw.drew.drew.alloc (.cells cs el)
 obtain ⟨c,hc⟩ : ∃ c,cs.size = c + 1:=⟨cs.size - 1,oM⟩
 have h2 : St B G (.acc (.slice (some ⟨w.heap.size,0,none⟩) 0 (c + 1)) el 1 0 [] :: L) (w.drew.drew.alloc (.cells cs el)):=h1.conv rfl ⟨rfl,.inr ⟨w.heap.size,c + 1,cs.toList,rfl,Nat.zero_le _,by simp [hc],h1.own _ List.mem_cons_self⟩⟩
 rw [hc]
 exact (k w.heap.size c oM).go _ _ (hs.put (by simpa using hlt)) h2
end
def dh (P : Program) (f : FuncId) (args : List Value) (G : Gh) (L : List Own) (R : Value → Gh → List Own → Prop) : Prop:=Fn P f args G L (fun v G' L'=>Gh.le G G' ∧ R v G' L')
section
variable {P : Program} {n : Nat} {D : List Deferred} {E : bn} {B : Base} {G : Gh} {L : List Own} {K : Act → World → Prop} {Q : Exit → Act → World → Prop}
theorem dI {fo : Operand} {l : List Operand} {ag : Array TypeId} {d : Nat} {ty : TypeId} {pos : String} {aft : Array Edge} {g : Option (Nat × Bool)} {f : FuncId} {fi ca az vs : List Value} {b : Nat} {cs : List Value} {T : TypeId} {R : List Own} {Post : Value → Gh → List Own → Prop}
  [hd : DelB L b cs T R] (hf : ev E fo = some (.func (.func f) fi.toArray ca.toArray)) (ha : evs E l = some az) (hv : fi ++ az ++ ca = vs) (hc : dh P f vs G [.blk b (.cells cs.toArray T (0,0))] Post) (hlt : Nat.blt d n = true)
  (k : ∀ v G' L',Gh.le G G' → Post v G' L' → Nx n D ((d,v) :: E) B G' (L' ++ R) K) : Nx n D E B G L (ow P ⟨some d,.call ⟨.value fo,l.toArray,ag⟩,ty,pos,aft,g⟩ Q K) :=
 zD hf ha hv hc hlt fun v G' L' h=>k v G' L' h.1 h.2
theorem cr {f : FuncId} {fn : Func} {c : Code} {args : List Value} {R : Value → Gh → List Own → Prop} (E0 : bn) (hf : P.funcs[f]? = some fn) (hok : dF P f = true) (hn : fn.ntmps = n) (hb : fn.body = some c)
  (hlen : Nat.ble args.length n = true) (hE : f8 E0 (params 0 args))
  (h : ∀ B,B.G = G → B.W = b7 L → Nx n [] E0 B G L (cu P (.code c) [] (bp P fn (dm B (fun v G' L'=>Gh.le G G' ∧ R v G' L'))))) : dh P f args G L R:=sZ E0 hf hok hn hb hlen hE h
end
theorem PutsR.len {cs vs cs' : List Value} {o : Nat} (h : PutsR cs o vs cs') : cs'.length = cs.length:=by
 induction h with
 | nil=>rfl
 | here _ ih=>simp [ih]
 | there _ ih=>simp [ih]
class UpdA (b : Nat) (xs' : List Value) (L : List Own) (m cap : outParam Nat) (T0 : outParam TypeId) (sz : outParam Nat) (xs : outParam (List Value)) (L' : outParam (List Own)) : Prop where
 upd : UpdO (.acc (.slice (some ⟨b,0,none⟩) m cap) T0 sz m xs) (.acc (.slice (some ⟨b,0,none⟩) m cap) T0 sz m xs') L L'
instance {b m cap : Nat} {T0 : TypeId} {sz : Nat} {xs xs' : List Value} {r : List Own} : UpdA b xs' (.acc (.slice (some ⟨b,0,none⟩) m cap) T0 sz m xs :: r) m cap T0 sz xs (.acc (.slice (some ⟨b,0,none⟩) m cap) T0 sz m xs' :: r):=⟨.here⟩
instance {b m cap : Nat} {T0 : TypeId} {sz : Nat} {xs xs' : List Value} {z : Own} {r r' : List Own} [h : UpdA b xs' r m cap T0 sz xs r'] : UpdA b xs' (z :: r) m cap T0 sz xs (z :: r'):=⟨.there h.upd⟩
section
variable {P : Program} {n : Nat} {D : List Deferred} {E : bn} {B : Base} {G : Gh} {L : List Own} {K : Act → World → Prop} {Q : Exit → Act → World → Prop} {ty : TypeId} {pos : String} {aft : Array Edge} {gd : Option (Nat × Bool)} {dd : Nat}
end
section
variable {P : Program} {n : Nat} {D : List Deferred} {E : bn} {B : Base} {G : Gh} {L : List Own} {K : Act → World → Prop} {Q : Exit → Act → World → Prop} {ty : TypeId} {pos : String} {aft : Array Edge} {gd : Option (Nat × Bool)} {dd : Nat}
end
def vz (P : Program) (fn : Func) (R : Ending → World → Prop) : Exit → Act → World → Prop
 | .normal,a,w | .ret,a,w=>Leaves P fn a.tmps R a.defers .returning w
 | .outgrown,_,w=>R .outgrown w
 | _,_,_=>False
instance {P : Program} {fn : Func} {R : Ending → World → Prop} : PQ (vz P fn R):=⟨fun _ _ _ _ _ h=>h⟩
structure FnD (P : Program) (f : FuncId) (args : List Value) (G : Gh) (L : List Own) (Post : Value → Gh → List Own → Prop) : Prop where
 ok : dF P f = true
 go : ∀ w,St ⟨w,G,b7 L⟩ G L w → CallsD P f args.toArray .returning w fun e u w'=>u = .returning ∧ dm ⟨w,G,b7 L⟩ Post e w'
section
variable {P : Program} {n : Nat} {D : List Deferred} {E : bn} {B : Base} {G : Gh} {L : List Own} {K : Act → World → Prop} {Q : Exit → Act → World → Prop}
theorem ch {f : FuncId} {fn : Func} {c : Code} {args : List Value} {Post : Value → Gh → List Own → Prop} (E0 : bn) (hf : P.funcs[f]? = some fn) (hok : dF P f = true) (hn : fn.ntmps = n) (hb : fn.body = some c)
  (hlen : Nat.ble args.length n = true) (hE : f8 E0 (params 0 args))
  (h : ∀ B,BOk B → B.G = G → B.W = b7 L → Nx n [] E0 B G L (cu P (.code c) [] (vz P fn (dm B Post)))) : Fn P f args G L Post:=by
 refine ⟨hok,fun w hw=>calls_of_wp_defers hf hb ?_⟩
 rw [hn]
 have:=(h ⟨w,G,b7 L⟩ ⟨hw.ok,fun b hb=>(hw.fresh b hb).1⟩ rfl rfl).go _ w ((ib args (by simpa using hlen)).sub hE) hw
 unfold cu at this
 dsimp only at this
 unfold kk cw at this
 refine wp_mono this fun e a' w' q=>?_
 cases e <;> first | exact q | exact q.elim
theorem xJ {f : FuncId} {fn : Func} {c : Code} {args : List Value} {Post : Value → Gh → List Own → Prop} (E0 : bn) (hf : P.funcs[f]? = some fn) (hok : dF P f = true) (hn : fn.ntmps = n) (hb : fn.body = some c)
  (hlen : Nat.ble args.length n = true) (hE : f8 E0 (params 0 args))
  (h : ∀ B,BOk B → B.G = G → B.W = b7 L → Nx n [] E0 B G L (cu P (.code c) [] (bp P fn (dm B Post)))) : FnD P f args G L Post:=by
 refine ⟨hok,fun w hw=>callsD_of_wp hf hb ?_⟩
 rw [hn]
 have:=(h ⟨w,G,b7 L⟩ ⟨hw.ok,fun b hb=>(hw.fresh b hb).1⟩ rfl rfl).go _ w ((ib args (by simpa using hlen)).sub hE) hw
 unfold cu at this
 dsimp only at this
 unfold kk cw bp at this
 exact this
def q6 (f : FuncId) (fi ca az : List Value) : Deferred:=⟨.fn (.func f) ca.toArray,(fi ++ az).toArray⟩
theorem ci {fo : Operand} {l : List Operand} {ag : Array TypeId} {ty : TypeId} {pos : String} {aft : Array Edge} {g : Option (Nat × Bool)} {f : FuncId} {fi ca az : List Value}
  (hf : ev E fo = some (.func (.func f) fi.toArray ca.toArray)) (ha : evs E l = some az)
  (k : Nx n (q6 f fi ca az :: D) E B G L K) : Nx n D E B G L (ow P ⟨none,.defer ⟨.value fo,l.toArray,ag⟩,ty,pos,aft,g⟩ Q K):=Nx.mk fun a w hs hw=>by
 unfold ow Oper.wp
 have h1 : l.toArray.map a.eval = az.toArray:=by rw [List.map_toArray,hs.evs ha]
 have : (execOp a.eval ⟨none,.defer ⟨.value fo,l.toArray,ag⟩,ty,pos,aft,g⟩).run P w = .ok (.defer (q6 f fi ca az)) w:=by
  simp only [execOp,resolve,hs.ev hf,h1,Deferred.ofValue,Sem.run_bind,Sem.run_pure,Result.andThen_ok,q6]
  simp
 rw [this,Oper.upon_defer]
 exact k.go _ w ⟨hs.size,by rw [show ({ a with defers:=q6 f fi ca az :: a.defers } : Act).put none undef = { a with defers:=q6 f fi ca az :: a.defers } from F];simp [hs.defers],hs.at'⟩ hw
theorem aan {e : Exit} {f : FuncId} {fi ca az xs : List Value} {Lp R : List Own} {PostD : Value → Gh → List Own → Prop} {fn : Func} {rs : List ResultVar} {Post : Value → Gh → List Own → Prop} (he : e = .ret ∨ e = .normal) (hv : fi ++ az ++ ca = xs) (hc : FnD P f xs G Lp PostD) (hL : L.Perm (Lp ++ R))
  (hr : fn.results = rs.toArray) (k : ∀ v G' L',PostD v G' L' → ∃ vs L'',g9 P (St B G' (L' ++ R)) E rs vs ∧ L''.Sublist (L' ++ R) ∧ Post (eh vs) G' L'') :
  Nx n [q6 f fi ca az] E B G L (cu P (.exit e) [] (vz P fn (dm B Post))):=Nx.mk fun a w hs hw=>by
 have hw':=hw.perm hL
 have main : Leaves P fn a.tmps (dm B Post) a.defers .returning w:=by
  rw [hs.defers]
  refine ⟨(fun h=>by cases h),Fn.func f,ca.toArray,f,xs.toArray,F,?_,?_⟩
  ·subst hv
   show (invoke (.fn (.func f) ca.toArray) (fi ++ az).toArray).run P w = _
   simp only [invoke]
   rw [lz hc.ok]
   simp
  ·intro c cs hu
   obtain ⟨e',u',w',fr,⟨h1,v,G',L',h2,h3,h4⟩,h5,h6,h7⟩:=hc.go w hw'.enter c cs hu
   subst h1 h2
   refine ⟨_,_,w',fr,?_,h5,h6,h7⟩
   obtain ⟨vs,L'',g1,g2,g3⟩:=k v G' L' h4
   have h8:=hw'.back h3
   exact ⟨eh vs,jw hs h8 hr g1,_,_,_,F,h8.weaken g2,g3⟩
 rcases he with rfl | rfl
 ·unfold cu;dsimp only;unfold kk;exact main
 ·unfold cu;dsimp only;unfold kk;exact main
end
attribute [irreducible] vz
section
variable {P : Program} {n : Nat} {D : List Deferred} {E : bn} {B : Base} {G : Gh} {L : List Own} {K : Act → World → Prop} {Q : Exit → Act → World → Prop} {ty : TypeId} {pos : String} {aft : Array Edge} {gd : Option (Nat × Bool)}
end
open Go.Proofs
abbrev bF : Value:=.bool false
abbrev u0 : Value:=.int .u8 0
noncomputable abbrev abK : Program:=Tryz.prog
instance ti2 : TI abK 2 (.int .i64) 1 8 (.int .i64 0):=TI.mk' kR kR kR
instance ti3 : TI abK 3 (.int .i64) 1 8 (.int .i64 0):=TI.mk' kR kR kR
instance ti4 : TI abK 4 .bool 1 1 (.bool false):=TI.mk' kR kR kR
instance ti5 : TI abK 5 (.int .u8) 1 1 (.int .u8 0):=TI.mk' kR kR kR
instance ti6 : TI abK 6 (.int .u8) 1 1 (.int .u8 0):=TI.mk' kR kR kR
instance ti7 : TI abK 7 (.struct (bH abK 7)) 4 24 (Ag [(.int .i64 0),(.int .i64 0),(.bool false),(.int .u8 0)]):=TI.mk' kR kR kR
instance ti8 : TI abK 8 (.struct (bH abK 8)) 4 24 (Ag [(.int .i64 0),(.int .i64 0),(.bool false),(.int .u8 0)]):=TI.mk' kR kR kR
instance ti9 : TI abK 9 .string 1 16 (S []):=TI.mk' kR kR kR
instance ti12 : TI abK 12 (.int .u64) 1 8 (.int .u64 0):=TI.mk' kR kR kR
instance ti13 : TI abK 13 (.struct (bH abK 13)) 2 24 (Ag [(S []),(.int .u64 0)]):=TI.mk' kR kR kR
instance ti14 : TI abK 14 (.struct (bH abK 14)) 2 24 (Ag [(S []),(.int .u64 0)]):=TI.mk' kR kR kR
instance ti17 : TI abK 17 (.pointer 242) 1 8 (.pointer none):=TI.mk' kR kR kR
instance ti18 : TI abK 18 (.struct (bH abK 18)) 1 8 (Ag [(.pointer none)]):=TI.mk' kR kR kR
instance ti19 : TI abK 19 (.struct (bH abK 19)) 1 8 (Ag [(.pointer none)]):=TI.mk' kR kR kR
instance ti25 : TI abK 25 (.slice 116) 1 24 aK:=TI.mk' kR kR kR
instance ti26 : TI abK 26 (.struct (bH abK 26)) 2 40 (Ag [(S []),aK]):=TI.mk' kR kR kR
instance ti27 : TI abK 27 (.struct (bH abK 27)) 2 40 (Ag [(S []),aK]):=TI.mk' kR kR kR
instance ti31 : TI abK 31 (.slice 67) 1 24 aK:=TI.mk' kR kR kR
instance ti32 : TI abK 32 (.struct (bH abK 32)) 2 40 (Ag [(S []),aK]):=TI.mk' kR kR kR
instance ti33 : TI abK 33 (.struct (bH abK 33)) 2 40 (Ag [(S []),aK]):=TI.mk' kR kR kR
instance ti41 : TI abK 41 (.slice 122) 1 24 aK:=TI.mk' kR kR kR
instance ti42 : TI abK 42 (.pointer 94) 1 8 (.pointer none):=TI.mk' kR kR kR
instance ti45 : TI abK 45 (.slice 3) 1 24 aK:=TI.mk' kR kR kR
instance ti55 : TI abK 55 (.slice 9) 1 24 aK:=TI.mk' kR kR kR
instance ti66 : TI abK 66 (.struct (bH abK 66)) 3 48 (Ag [(S []),(S []),(S [])]):=TI.mk' kR kR kR
instance ti67 : TI abK 67 (.struct (bH abK 67)) 3 48 (Ag [(S []),(S []),(S [])]):=TI.mk' kR kR kR
instance ti73 : TI abK 73 (.pointer 76) 1 8 (.pointer none):=TI.mk' kR kR kR
instance ti74 : TI abK 74 (.pointer 155) 1 8 (.pointer none):=TI.mk' kR kR kR
instance ti75 : TI abK 75 (.struct (bH abK 75)) 5 64 (Ag [(.pointer none),(S []),(.bool false),aK,(.int .i64 0)]):=TI.mk' kR kR kR
instance ti76 : TI abK 76 (.struct (bH abK 76)) 5 64 (Ag [(.pointer none),(S []),(.bool false),aK,(.int .i64 0)]):=TI.mk' kR kR kR
instance ti85 : TI abK 85 (.struct (bH abK 85)) 1 24 (Ag [aK]):=TI.mk' kR kR kR
instance ti86 : TI abK 86 (.struct (bH abK 86)) 1 24 (Ag [aK]):=TI.mk' kR kR kR
instance ti92 : TI abK 92 (.slice 42) 1 24 aK:=TI.mk' kR kR kR
instance ti93 : TI abK 93 (.struct (bH abK 93)) 4 80 (Ag [(S []),(S []),aK,aK]):=TI.mk' kR kR kR
instance ti94 : TI abK 94 (.struct (bH abK 94)) 4 80 (Ag [(S []),(S []),aK,aK]):=TI.mk' kR kR kR
instance ti96 : TI abK 96 (.slice 5) 1 24 aK:=TI.mk' kR kR kR
instance ti98 : TI abK 98 (.struct (bH abK 98)) 3 48 (Ag [(S []),(S []),(S [])]):=TI.mk' kR kR kR
instance ti99 : TI abK 99 (.struct (bH abK 99)) 3 48 (Ag [(S []),(S []),(S [])]):=TI.mk' kR kR kR
instance ti102 : TI abK 102 (.slice 104) 1 24 aK:=TI.mk' kR kR kR
instance ti103 : TI abK 103 (.struct (bH abK 103)) 4 56 (Ag [(.int .u8 0),(S []),(.int .i64 0),aK]):=TI.mk' kR kR kR
instance ti104 : TI abK 104 (.struct (bH abK 104)) 4 56 (Ag [(.int .u8 0),(S []),(.int .i64 0),aK]):=TI.mk' kR kR kR
instance ti116 : TI abK 116 (.struct (bH abK 116)) 3 48 (Ag [(S []),(S []),(S [])]):=TI.mk' kR kR kR
instance ti120 : TI abK 120 (.slice 128) 1 24 aK:=TI.mk' kR kR kR
instance ti121 : TI abK 121 (.struct (bH abK 121)) 3 48 (Ag [(.int .u8 0),(S []),aK]):=TI.mk' kR kR kR
instance ti122 : TI abK 122 (.struct (bH abK 122)) 3 48 (Ag [(.int .u8 0),(S []),aK]):=TI.mk' kR kR kR
instance ti127 : TI abK 127 (.struct (bH abK 127)) 4 56 (Ag [(.int .i64 0),(S []),(S []),(S [])]):=TI.mk' kR kR kR
instance ti128 : TI abK 128 (.struct (bH abK 128)) 4 56 (Ag [(.int .i64 0),(S []),(S []),(S [])]):=TI.mk' kR kR kR
instance ti152 : TI abK 152 (.map 9 157) 1 8 (.map none):=TI.mk' kR kR kR
instance ti153 : TI abK 153 (.slice 157) 1 24 aK:=TI.mk' kR kR kR
instance ti154 : TI abK 154 (.struct (bH abK 154)) 2 32 (Ag [aK,(.map none)]):=TI.mk' kR kR kR
instance ti155 : TI abK 155 (.struct (bH abK 155)) 2 32 (Ag [aK,(.map none)]):=TI.mk' kR kR kR
instance ti157 : TI abK 157 (.pointer 162) 1 8 (.pointer none):=TI.mk' kR kR kR
instance ti160 : TI abK 160 (.slice 164) 1 24 aK:=TI.mk' kR kR kR
instance ti161 : TI abK 161 (.struct (bH abK 161)) 4 64 (Ag [(.int .u8 0),(S []),aK,(S [])]):=TI.mk' kR kR kR
instance ti162 : TI abK 162 (.struct (bH abK 162)) 4 64 (Ag [(.int .u8 0),(S []),aK,(S [])]):=TI.mk' kR kR kR
instance ti163 : TI abK 163 (.struct (bH abK 163)) 6 88 (Ag [(.int .i64 0),(S []),(S []),(S []),(S []),(S [])]):=TI.mk' kR kR kR
instance ti164 : TI abK 164 (.struct (bH abK 164)) 6 88 (Ag [(.int .i64 0),(S []),(S []),(S []),(S []),(S [])]):=TI.mk' kR kR kR
instance ti169 : TI abK 169 (.pointer 164) 1 8 (.pointer none):=TI.mk' kR kR kR
instance ti173 : TI abK 173 (.pointer 175) 1 8 (.pointer none):=TI.mk' kR kR kR
instance ti174 : TI abK 174 (.struct (bH abK 174)) 2 32 (Ag [(.pointer none),aK]):=TI.mk' kR kR kR
instance ti175 : TI abK 175 (.struct (bH abK 175)) 2 32 (Ag [(.pointer none),aK]):=TI.mk' kR kR kR
instance ti181 : TI abK 181 (.pointer 183) 1 8 (.pointer none):=TI.mk' kR kR kR
instance ti182 : TI abK 182 (.struct (bH abK 182)) 3 32 (Ag [(.pointer none),(S []),(.bool false)]):=TI.mk' kR kR kR
instance ti183 : TI abK 183 (.struct (bH abK 183)) 3 32 (Ag [(.pointer none),(S []),(.bool false)]):=TI.mk' kR kR kR
instance ti189 : TI abK 189 (.array 256 4) 256 256 (Ag [bF,bF,bF,bF,bF,bF,bF,bF,bF,bF,bF,bF,bF,bF,bF,bF,bF,bF,bF,bF,bF,bF,bF,bF,bF,bF,bF,bF,bF,bF,bF,bF,bF,bF,bF,bF,bF,bF,bF,bF,bF,bF,bF,bF,bF,bF,bF,bF,bF,bF,bF,bF,bF,bF,bF,bF,bF,bF,bF,bF,bF,bF,bF,bF,bF,bF,bF,bF,bF,bF,bF,bF,bF,bF,bF,bF,bF,bF,bF,bF,bF,bF,bF,bF,bF,bF,bF,bF,bF,bF,bF,bF,bF,bF,bF,bF,bF,bF,bF,bF,bF,bF,bF,bF,bF,bF,bF,bF,bF,bF,bF,bF,bF,bF,bF,bF,bF,bF,bF,bF,bF,bF,bF,bF,bF,bF,bF,bF,bF,bF,bF,bF,bF,bF,bF,bF,bF,bF,bF,bF,bF,bF,bF,bF,bF,bF,bF,bF,bF,bF,bF,bF,bF,bF,bF,bF,bF,bF,bF,bF,bF,bF,bF,bF,bF,bF,bF,bF,bF,bF,bF,bF,bF,bF,bF,bF,bF,bF,bF,bF,bF,bF,bF,bF,bF,bF,bF,bF,bF,bF,bF,bF,bF,bF,bF,bF,bF,bF,bF,bF,bF,bF,bF,bF,bF,bF,bF,bF,bF,bF,bF,bF,bF,bF,bF,bF,bF,bF,bF,bF,bF,bF,bF,bF,bF,bF,bF,bF,bF,bF,bF,bF,bF,bF,bF,bF,bF,bF,bF,bF,bF,bF,bF,bF,bF,bF,bF,bF,bF,bF,bF,bF,bF,bF,bF,(.bool false)]):=TI.mk' kR kR kR
instance ti193 : TI abK 193 (.pointer 189) 1 8 (.pointer none):=TI.mk' kR kR kR
instance ti202 : TI abK 202 (.pointer 5) 1 8 (.pointer none):=TI.mk' kR kR kR
instance ti224 : TI abK 224 (.struct (bH abK 224)) 2 2 (Ag [(.int .u8 0),(.int .u8 0)]):=TI.mk' kR kR kR
instance ti225 : TI abK 225 (.struct (bH abK 225)) 2 2 (Ag [(.int .u8 0),(.int .u8 0)]):=TI.mk' kR kR kR
instance ti231 : TI abK 231 (.struct (bH abK 231)) 4 40 (Ag [(.pointer none),(.pointer none),(.pointer none),(S [])]):=TI.mk' kR kR kR
instance ti232 : TI abK 232 (.struct (bH abK 232)) 4 40 (Ag [(.pointer none),(.pointer none),(.pointer none),(S [])]):=TI.mk' kR kR kR
instance fa7_0 : FA abK 7 0 0:=FA.mk' kR ti2 rfl
instance fv7_0 : FV abK 7 0 false 0 1:=FV.mk' kR ti2 rfl
instance fa7_1 : FA abK 7 1 1:=FA.mk' kR ti3 rfl
instance fv7_1 : FV abK 7 1 false 1 1:=FV.mk' kR ti3 rfl
instance fa7_2 : FA abK 7 2 2:=FA.mk' kR ti4 rfl
instance fv7_2 : FV abK 7 2 false 2 1:=FV.mk' kR ti4 rfl
instance fa7_3 : FA abK 7 3 3:=FA.mk' kR ti6 rfl
instance fv7_3 : FV abK 7 3 false 3 1:=FV.mk' kR ti6 rfl
instance fa8_0 : FA abK 8 0 0:=FA.mk' kR ti2 rfl
instance fv8_0 : FV abK 8 0 false 0 1:=FV.mk' kR ti2 rfl
instance fa8_1 : FA abK 8 1 1:=FA.mk' kR ti3 rfl
instance fv8_1 : FV abK 8 1 false 1 1:=FV.mk' kR ti3 rfl
instance fa8_2 : FA abK 8 2 2:=FA.mk' kR ti4 rfl
instance fv8_2 : FV abK 8 2 false 2 1:=FV.mk' kR ti4 rfl
instance fa8_3 : FA abK 8 3 3:=FA.mk' kR ti6 rfl
instance fv8_3 : FV abK 8 3 false 3 1:=FV.mk' kR ti6 rfl
instance fa13_0 : FA abK 13 0 0:=FA.mk' kR ti9 rfl
instance fv13_0 : FV abK 13 0 false 0 1:=FV.mk' kR ti9 rfl
instance fa13_1 : FA abK 13 1 1:=FA.mk' kR ti12 rfl
instance fv13_1 : FV abK 13 1 false 1 1:=FV.mk' kR ti12 rfl
instance fa14_0 : FA abK 14 0 0:=FA.mk' kR ti9 rfl
instance fv14_0 : FV abK 14 0 false 0 1:=FV.mk' kR ti9 rfl
instance fa14_1 : FA abK 14 1 1:=FA.mk' kR ti12 rfl
instance fv14_1 : FV abK 14 1 false 1 1:=FV.mk' kR ti12 rfl
instance fa18_0 : FA abK 18 0 0:=FA.mk' kR ti17 rfl
instance fv18_0 : FV abK 18 0 false 0 1:=FV.mk' kR ti17 rfl
instance fa19_0 : FA abK 19 0 0:=FA.mk' kR ti17 rfl
instance fv19_0 : FV abK 19 0 false 0 1:=FV.mk' kR ti17 rfl
instance fa26_0 : FA abK 26 0 0:=FA.mk' kR ti9 rfl
instance fv26_0 : FV abK 26 0 false 0 1:=FV.mk' kR ti9 rfl
instance fa26_1 : FA abK 26 1 1:=FA.mk' kR ti25 rfl
instance fv26_1 : FV abK 26 1 false 1 1:=FV.mk' kR ti25 rfl
instance fa27_0 : FA abK 27 0 0:=FA.mk' kR ti9 rfl
instance fv27_0 : FV abK 27 0 false 0 1:=FV.mk' kR ti9 rfl
instance fa27_1 : FA abK 27 1 1:=FA.mk' kR ti25 rfl
instance fv27_1 : FV abK 27 1 false 1 1:=FV.mk' kR ti25 rfl
instance : BT abK 27 [(0,1),(1,1)] [(S []),aK]:=BT.mk' [(9,0,1),(25,1,1)] rfl kR kR rfl
instance fa32_0 : FA abK 32 0 0:=FA.mk' kR ti9 rfl
instance fv32_0 : FV abK 32 0 false 0 1:=FV.mk' kR ti9 rfl
instance fa32_1 : FA abK 32 1 1:=FA.mk' kR ti31 rfl
instance fv32_1 : FV abK 32 1 false 1 1:=FV.mk' kR ti31 rfl
instance fa33_0 : FA abK 33 0 0:=FA.mk' kR ti9 rfl
instance fv33_0 : FV abK 33 0 false 0 1:=FV.mk' kR ti9 rfl
instance fa33_1 : FA abK 33 1 1:=FA.mk' kR ti31 rfl
instance fv33_1 : FV abK 33 1 false 1 1:=FV.mk' kR ti31 rfl
instance : BT abK 33 [(0,1),(1,1)] [(S []),aK]:=BT.mk' [(9,0,1),(31,1,1)] rfl kR kR rfl
instance fa66_0 : FA abK 66 0 0:=FA.mk' kR ti9 rfl
instance fv66_0 : FV abK 66 0 false 0 1:=FV.mk' kR ti9 rfl
instance fa66_1 : FA abK 66 1 1:=FA.mk' kR ti9 rfl
instance fv66_1 : FV abK 66 1 false 1 1:=FV.mk' kR ti9 rfl
instance fa66_2 : FA abK 66 2 2:=FA.mk' kR ti9 rfl
instance fv66_2 : FV abK 66 2 false 2 1:=FV.mk' kR ti9 rfl
instance fa67_0 : FA abK 67 0 0:=FA.mk' kR ti9 rfl
instance fv67_0 : FV abK 67 0 false 0 1:=FV.mk' kR ti9 rfl
instance fa67_1 : FA abK 67 1 1:=FA.mk' kR ti9 rfl
instance fv67_1 : FV abK 67 1 false 1 1:=FV.mk' kR ti9 rfl
instance fa67_2 : FA abK 67 2 2:=FA.mk' kR ti9 rfl
instance fv67_2 : FV abK 67 2 false 2 1:=FV.mk' kR ti9 rfl
instance : BT abK 67 [(0,1),(1,1),(2,1)] [(S []),(S []),(S [])]:=BT.mk' [(9,0,1),(9,1,1),(9,2,1)] rfl kR kR rfl
instance fa75_0 : FA abK 75 0 0:=FA.mk' kR ti74 rfl
instance fv75_0 : FV abK 75 0 false 0 1:=FV.mk' kR ti74 rfl
instance fa75_1 : FA abK 75 1 1:=FA.mk' kR ti9 rfl
instance fv75_1 : FV abK 75 1 false 1 1:=FV.mk' kR ti9 rfl
instance fa75_2 : FA abK 75 2 2:=FA.mk' kR ti4 rfl
instance fv75_2 : FV abK 75 2 false 2 1:=FV.mk' kR ti4 rfl
instance fa75_3 : FA abK 75 3 3:=FA.mk' kR ti45 rfl
instance fv75_3 : FV abK 75 3 false 3 1:=FV.mk' kR ti45 rfl
instance fa75_4 : FA abK 75 4 4:=FA.mk' kR ti3 rfl
instance fv75_4 : FV abK 75 4 false 4 1:=FV.mk' kR ti3 rfl
instance fa76_0 : FA abK 76 0 0:=FA.mk' kR ti74 rfl
instance fv76_0 : FV abK 76 0 false 0 1:=FV.mk' kR ti74 rfl
instance fa76_1 : FA abK 76 1 1:=FA.mk' kR ti9 rfl
instance fv76_1 : FV abK 76 1 false 1 1:=FV.mk' kR ti9 rfl
instance fa76_2 : FA abK 76 2 2:=FA.mk' kR ti4 rfl
instance fv76_2 : FV abK 76 2 false 2 1:=FV.mk' kR ti4 rfl
instance fa76_3 : FA abK 76 3 3:=FA.mk' kR ti45 rfl
instance fv76_3 : FV abK 76 3 false 3 1:=FV.mk' kR ti45 rfl
instance fa76_4 : FA abK 76 4 4:=FA.mk' kR ti3 rfl
instance fv76_4 : FV abK 76 4 false 4 1:=FV.mk' kR ti3 rfl
instance : BT abK 76 [(0,1),(1,1),(2,1),(3,1),(4,1)] [(.pointer none),(S []),(.bool false),aK,(.int .i64 0)]:=BT.mk' [(74,0,1),(9,1,1),(4,2,1),(45,3,1),(3,4,1)] rfl kR kR rfl
instance fa85_0 : FA abK 85 0 0:=FA.mk' kR ti41 rfl
instance fv85_0 : FV abK 85 0 false 0 1:=FV.mk' kR ti41 rfl
instance fa86_0 : FA abK 86 0 0:=FA.mk' kR ti41 rfl
instance fv86_0 : FV abK 86 0 false 0 1:=FV.mk' kR ti41 rfl
instance : BT abK 86 [(0,1)] [aK]:=BT.mk' [(41,0,1)] rfl kR kR rfl
instance fa93_0 : FA abK 93 0 0:=FA.mk' kR ti9 rfl
instance fv93_0 : FV abK 93 0 false 0 1:=FV.mk' kR ti9 rfl
instance fa93_1 : FA abK 93 1 1:=FA.mk' kR ti9 rfl
instance fv93_1 : FV abK 93 1 false 1 1:=FV.mk' kR ti9 rfl
instance fa93_2 : FA abK 93 2 2:=FA.mk' kR ti45 rfl
instance fv93_2 : FV abK 93 2 false 2 1:=FV.mk' kR ti45 rfl
instance fa93_3 : FA abK 93 3 3:=FA.mk' kR ti92 rfl
instance fv93_3 : FV abK 93 3 false 3 1:=FV.mk' kR ti92 rfl
instance fa94_0 : FA abK 94 0 0:=FA.mk' kR ti9 rfl
instance fv94_0 : FV abK 94 0 false 0 1:=FV.mk' kR ti9 rfl
instance fa94_1 : FA abK 94 1 1:=FA.mk' kR ti9 rfl
instance fv94_1 : FV abK 94 1 false 1 1:=FV.mk' kR ti9 rfl
instance fa94_2 : FA abK 94 2 2:=FA.mk' kR ti45 rfl
instance fv94_2 : FV abK 94 2 false 2 1:=FV.mk' kR ti45 rfl
instance fa94_3 : FA abK 94 3 3:=FA.mk' kR ti92 rfl
instance fv94_3 : FV abK 94 3 false 3 1:=FV.mk' kR ti92 rfl
instance : BT abK 94 [(0,1),(1,1),(2,1),(3,1)] [(S []),(S []),aK,aK]:=BT.mk' [(9,0,1),(9,1,1),(45,2,1),(92,3,1)] rfl kR kR rfl
instance fa98_0 : FA abK 98 0 0:=FA.mk' kR ti9 rfl
instance fv98_0 : FV abK 98 0 false 0 1:=FV.mk' kR ti9 rfl
instance fa98_1 : FA abK 98 1 1:=FA.mk' kR ti9 rfl
instance fv98_1 : FV abK 98 1 false 1 1:=FV.mk' kR ti9 rfl
instance fa98_2 : FA abK 98 2 2:=FA.mk' kR ti9 rfl
instance fv98_2 : FV abK 98 2 false 2 1:=FV.mk' kR ti9 rfl
instance fa99_0 : FA abK 99 0 0:=FA.mk' kR ti9 rfl
instance fv99_0 : FV abK 99 0 false 0 1:=FV.mk' kR ti9 rfl
instance fa99_1 : FA abK 99 1 1:=FA.mk' kR ti9 rfl
instance fv99_1 : FV abK 99 1 false 1 1:=FV.mk' kR ti9 rfl
instance fa99_2 : FA abK 99 2 2:=FA.mk' kR ti9 rfl
instance fv99_2 : FV abK 99 2 false 2 1:=FV.mk' kR ti9 rfl
instance : BT abK 99 [(0,1),(1,1),(2,1)] [(S []),(S []),(S [])]:=BT.mk' [(9,0,1),(9,1,1),(9,2,1)] rfl kR kR rfl
instance fa103_0 : FA abK 103 0 0:=FA.mk' kR ti5 rfl
instance fv103_0 : FV abK 103 0 false 0 1:=FV.mk' kR ti5 rfl
instance fa103_1 : FA abK 103 1 1:=FA.mk' kR ti9 rfl
instance fv103_1 : FV abK 103 1 false 1 1:=FV.mk' kR ti9 rfl
instance fa103_2 : FA abK 103 2 2:=FA.mk' kR ti3 rfl
instance fv103_2 : FV abK 103 2 false 2 1:=FV.mk' kR ti3 rfl
instance fa103_3 : FA abK 103 3 3:=FA.mk' kR ti102 rfl
instance fv103_3 : FV abK 103 3 false 3 1:=FV.mk' kR ti102 rfl
instance fa104_0 : FA abK 104 0 0:=FA.mk' kR ti5 rfl
instance fv104_0 : FV abK 104 0 false 0 1:=FV.mk' kR ti5 rfl
instance fa104_1 : FA abK 104 1 1:=FA.mk' kR ti9 rfl
instance fv104_1 : FV abK 104 1 false 1 1:=FV.mk' kR ti9 rfl
instance fa104_2 : FA abK 104 2 2:=FA.mk' kR ti3 rfl
instance fv104_2 : FV abK 104 2 false 2 1:=FV.mk' kR ti3 rfl
instance fa104_3 : FA abK 104 3 3:=FA.mk' kR ti102 rfl
instance fv104_3 : FV abK 104 3 false 3 1:=FV.mk' kR ti102 rfl
instance : BT abK 104 [(0,1),(1,1),(2,1),(3,1)] [(.int .u8 0),(S []),(.int .i64 0),aK]:=BT.mk' [(5,0,1),(9,1,1),(3,2,1),(102,3,1)] rfl kR kR rfl
instance fa116_0 : FA abK 116 0 0:=FA.mk' kR ti9 rfl
instance fv116_0 : FV abK 116 0 false 0 1:=FV.mk' kR ti9 rfl
instance fa116_1 : FA abK 116 1 1:=FA.mk' kR ti9 rfl
instance fv116_1 : FV abK 116 1 false 1 1:=FV.mk' kR ti9 rfl
instance fa116_2 : FA abK 116 2 2:=FA.mk' kR ti9 rfl
instance fv116_2 : FV abK 116 2 false 2 1:=FV.mk' kR ti9 rfl
instance : BT abK 116 [(0,1),(1,1),(2,1)] [(S []),(S []),(S [])]:=BT.mk' [(9,0,1),(9,1,1),(9,2,1)] rfl kR kR rfl
instance fa121_0 : FA abK 121 0 0:=FA.mk' kR ti5 rfl
instance fv121_0 : FV abK 121 0 false 0 1:=FV.mk' kR ti5 rfl
instance fa121_1 : FA abK 121 1 1:=FA.mk' kR ti9 rfl
instance fv121_1 : FV abK 121 1 false 1 1:=FV.mk' kR ti9 rfl
instance fa121_2 : FA abK 121 2 2:=FA.mk' kR ti120 rfl
instance fv121_2 : FV abK 121 2 false 2 1:=FV.mk' kR ti120 rfl
instance fa122_0 : FA abK 122 0 0:=FA.mk' kR ti5 rfl
instance fv122_0 : FV abK 122 0 false 0 1:=FV.mk' kR ti5 rfl
instance fa122_1 : FA abK 122 1 1:=FA.mk' kR ti9 rfl
instance fv122_1 : FV abK 122 1 false 1 1:=FV.mk' kR ti9 rfl
instance fa122_2 : FA abK 122 2 2:=FA.mk' kR ti120 rfl
instance fv122_2 : FV abK 122 2 false 2 1:=FV.mk' kR ti120 rfl
instance : BT abK 122 [(0,1),(1,1),(2,1)] [(.int .u8 0),(S []),aK]:=BT.mk' [(5,0,1),(9,1,1),(120,2,1)] rfl kR kR rfl
instance fa127_0 : FA abK 127 0 0:=FA.mk' kR ti3 rfl
instance fv127_0 : FV abK 127 0 false 0 1:=FV.mk' kR ti3 rfl
instance fa127_1 : FA abK 127 1 1:=FA.mk' kR ti9 rfl
instance fv127_1 : FV abK 127 1 false 1 1:=FV.mk' kR ti9 rfl
instance fa127_2 : FA abK 127 2 2:=FA.mk' kR ti9 rfl
instance fv127_2 : FV abK 127 2 false 2 1:=FV.mk' kR ti9 rfl
instance fa127_3 : FA abK 127 3 3:=FA.mk' kR ti9 rfl
instance fv127_3 : FV abK 127 3 false 3 1:=FV.mk' kR ti9 rfl
instance fa128_0 : FA abK 128 0 0:=FA.mk' kR ti3 rfl
instance fv128_0 : FV abK 128 0 false 0 1:=FV.mk' kR ti3 rfl
instance fa128_1 : FA abK 128 1 1:=FA.mk' kR ti9 rfl
instance fv128_1 : FV abK 128 1 false 1 1:=FV.mk' kR ti9 rfl
instance fa128_2 : FA abK 128 2 2:=FA.mk' kR ti9 rfl
instance fv128_2 : FV abK 128 2 false 2 1:=FV.mk' kR ti9 rfl
instance fa128_3 : FA abK 128 3 3:=FA.mk' kR ti9 rfl
instance fv128_3 : FV abK 128 3 false 3 1:=FV.mk' kR ti9 rfl
instance : BT abK 128 [(0,1),(1,1),(2,1),(3,1)] [(.int .i64 0),(S []),(S []),(S [])]:=BT.mk' [(3,0,1),(9,1,1),(9,2,1),(9,3,1)] rfl kR kR rfl
instance fa154_0 : FA abK 154 0 0:=FA.mk' kR ti153 rfl
instance fv154_0 : FV abK 154 0 false 0 1:=FV.mk' kR ti153 rfl
instance fa154_1 : FA abK 154 1 1:=FA.mk' kR ti152 rfl
instance fv154_1 : FV abK 154 1 false 1 1:=FV.mk' kR ti152 rfl
instance fa155_0 : FA abK 155 0 0:=FA.mk' kR ti153 rfl
instance fv155_0 : FV abK 155 0 false 0 1:=FV.mk' kR ti153 rfl
instance fa155_1 : FA abK 155 1 1:=FA.mk' kR ti152 rfl
instance fv155_1 : FV abK 155 1 false 1 1:=FV.mk' kR ti152 rfl
instance : BT abK 155 [(0,1),(1,1)] [aK,(.map none)]:=BT.mk' [(153,0,1),(152,1,1)] rfl kR kR rfl
instance fa161_0 : FA abK 161 0 0:=FA.mk' kR ti5 rfl
instance fv161_0 : FV abK 161 0 false 0 1:=FV.mk' kR ti5 rfl
instance fa161_1 : FA abK 161 1 1:=FA.mk' kR ti9 rfl
instance fv161_1 : FV abK 161 1 false 1 1:=FV.mk' kR ti9 rfl
instance fa161_2 : FA abK 161 2 2:=FA.mk' kR ti160 rfl
instance fv161_2 : FV abK 161 2 false 2 1:=FV.mk' kR ti160 rfl
instance fa161_3 : FA abK 161 3 3:=FA.mk' kR ti9 rfl
instance fv161_3 : FV abK 161 3 false 3 1:=FV.mk' kR ti9 rfl
instance fa162_0 : FA abK 162 0 0:=FA.mk' kR ti5 rfl
instance fv162_0 : FV abK 162 0 false 0 1:=FV.mk' kR ti5 rfl
instance fa162_1 : FA abK 162 1 1:=FA.mk' kR ti9 rfl
instance fv162_1 : FV abK 162 1 false 1 1:=FV.mk' kR ti9 rfl
instance fa162_2 : FA abK 162 2 2:=FA.mk' kR ti160 rfl
instance fv162_2 : FV abK 162 2 false 2 1:=FV.mk' kR ti160 rfl
instance fa162_3 : FA abK 162 3 3:=FA.mk' kR ti9 rfl
instance fv162_3 : FV abK 162 3 false 3 1:=FV.mk' kR ti9 rfl
instance : BT abK 162 [(0,1),(1,1),(2,1),(3,1)] [(.int .u8 0),(S []),aK,(S [])]:=BT.mk' [(5,0,1),(9,1,1),(160,2,1),(9,3,1)] rfl kR kR rfl
instance fa163_0 : FA abK 163 0 0:=FA.mk' kR ti3 rfl
instance fv163_0 : FV abK 163 0 false 0 1:=FV.mk' kR ti3 rfl
instance fa163_1 : FA abK 163 1 1:=FA.mk' kR ti9 rfl
instance fv163_1 : FV abK 163 1 false 1 1:=FV.mk' kR ti9 rfl
instance fa163_2 : FA abK 163 2 2:=FA.mk' kR ti99 rfl
instance fv163_2 : FV abK 163 2 true 2 3:=FV.mk' kR ti99 rfl
instance fa163_3 : FA abK 163 3 5:=FA.mk' kR ti9 rfl
instance fv163_3 : FV abK 163 3 false 5 1:=FV.mk' kR ti9 rfl
instance fa164_0 : FA abK 164 0 0:=FA.mk' kR ti3 rfl
instance fv164_0 : FV abK 164 0 false 0 1:=FV.mk' kR ti3 rfl
instance fa164_1 : FA abK 164 1 1:=FA.mk' kR ti9 rfl
instance fv164_1 : FV abK 164 1 false 1 1:=FV.mk' kR ti9 rfl
instance fa164_2 : FA abK 164 2 2:=FA.mk' kR ti99 rfl
instance fv164_2 : FV abK 164 2 true 2 3:=FV.mk' kR ti99 rfl
instance fa164_3 : FA abK 164 3 5:=FA.mk' kR ti9 rfl
instance fv164_3 : FV abK 164 3 false 5 1:=FV.mk' kR ti9 rfl
instance : BT abK 164 [(0,1),(1,1),(2,3),(5,1)] [(.int .i64 0),(S []),(S []),(S []),(S []),(S [])]:=BT.mk' [(3,0,1),(9,1,1),(99,2,3),(9,5,1)] rfl kR kR rfl
instance fa174_0 : FA abK 174 0 0:=FA.mk' kR ti173 rfl
instance fv174_0 : FV abK 174 0 false 0 1:=FV.mk' kR ti173 rfl
instance fa174_1 : FA abK 174 1 1:=FA.mk' kR ti96 rfl
instance fv174_1 : FV abK 174 1 false 1 1:=FV.mk' kR ti96 rfl
instance fa175_0 : FA abK 175 0 0:=FA.mk' kR ti173 rfl
instance fv175_0 : FV abK 175 0 false 0 1:=FV.mk' kR ti173 rfl
instance fa175_1 : FA abK 175 1 1:=FA.mk' kR ti96 rfl
instance fv175_1 : FV abK 175 1 false 1 1:=FV.mk' kR ti96 rfl
instance : BT abK 175 [(0,1),(1,1)] [(.pointer none),aK]:=BT.mk' [(173,0,1),(96,1,1)] rfl kR kR rfl
instance fa182_0 : FA abK 182 0 0:=FA.mk' kR ti74 rfl
instance fv182_0 : FV abK 182 0 false 0 1:=FV.mk' kR ti74 rfl
instance fa182_1 : FA abK 182 1 1:=FA.mk' kR ti9 rfl
instance fv182_1 : FV abK 182 1 false 1 1:=FV.mk' kR ti9 rfl
instance fa182_2 : FA abK 182 2 2:=FA.mk' kR ti4 rfl
instance fv182_2 : FV abK 182 2 false 2 1:=FV.mk' kR ti4 rfl
instance fa183_0 : FA abK 183 0 0:=FA.mk' kR ti74 rfl
instance fv183_0 : FV abK 183 0 false 0 1:=FV.mk' kR ti74 rfl
instance fa183_1 : FA abK 183 1 1:=FA.mk' kR ti9 rfl
instance fv183_1 : FV abK 183 1 false 1 1:=FV.mk' kR ti9 rfl
instance fa183_2 : FA abK 183 2 2:=FA.mk' kR ti4 rfl
instance fv183_2 : FV abK 183 2 false 2 1:=FV.mk' kR ti4 rfl
instance : BT abK 183 [(0,1),(1,1),(2,1)] [(.pointer none),(S []),(.bool false)]:=BT.mk' [(74,0,1),(9,1,1),(4,2,1)] rfl kR kR rfl
instance fa224_0 : FA abK 224 0 0:=FA.mk' kR ti5 rfl
instance fv224_0 : FV abK 224 0 false 0 1:=FV.mk' kR ti5 rfl
instance fa224_1 : FA abK 224 1 1:=FA.mk' kR ti5 rfl
instance fv224_1 : FV abK 224 1 false 1 1:=FV.mk' kR ti5 rfl
instance fa225_0 : FA abK 225 0 0:=FA.mk' kR ti5 rfl
instance fv225_0 : FV abK 225 0 false 0 1:=FV.mk' kR ti5 rfl
instance fa225_1 : FA abK 225 1 1:=FA.mk' kR ti5 rfl
instance fv225_1 : FV abK 225 1 false 1 1:=FV.mk' kR ti5 rfl
instance fa231_0 : FA abK 231 0 0:=FA.mk' kR ti17 rfl
instance fv231_0 : FV abK 231 0 false 0 1:=FV.mk' kR ti17 rfl
instance fa231_1 : FA abK 231 1 1:=FA.mk' kR ti17 rfl
instance fv231_1 : FV abK 231 1 false 1 1:=FV.mk' kR ti17 rfl
instance fa231_2 : FA abK 231 2 2:=FA.mk' kR ti17 rfl
instance fv231_2 : FV abK 231 2 false 2 1:=FV.mk' kR ti17 rfl
instance fa231_3 : FA abK 231 3 3:=FA.mk' kR ti9 rfl
instance fv231_3 : FV abK 231 3 false 3 1:=FV.mk' kR ti9 rfl
instance fa232_0 : FA abK 232 0 0:=FA.mk' kR ti17 rfl
instance fv232_0 : FV abK 232 0 false 0 1:=FV.mk' kR ti17 rfl
instance fa232_1 : FA abK 232 1 1:=FA.mk' kR ti17 rfl
instance fv232_1 : FV abK 232 1 false 1 1:=FV.mk' kR ti17 rfl
instance fa232_2 : FA abK 232 2 2:=FA.mk' kR ti17 rfl
instance fv232_2 : FV abK 232 2 false 2 1:=FV.mk' kR ti17 rfl
instance fa232_3 : FA abK 232 3 3:=FA.mk' kR ti9 rfl
instance fv232_3 : FV abK 232 3 false 3 1:=FV.mk' kR ti9 rfl
def tb : Tbl:=⟨12,331283824645947061796868281389297221717653230664178554647801162742366304,16,3584,6440309458218909134506082027814768288134335060862653541089280,[(7,[(false,0,1),(false,1,1),(false,2,1),(false,3,1)]),(8,[(false,0,1),(false,1,1),(false,2,1),(false,3,1)]),(13,[(false,0,1),(false,1,1)]),(14,[(false,0,1),(false,1,1)]),(18,[(false,0,1)]),(19,[(false,0,1)]),(26,[(false,0,1),(false,1,1)]),(27,[(false,0,1),(false,1,1)]),(32,[(false,0,1),(false,1,1)]),(33,[(false,0,1),(false,1,1)]),(66,[(false,0,1),(false,1,1),(false,2,1)]),(67,[(false,0,1),(false,1,1),(false,2,1)]),(75,[(false,0,1),(false,1,1),(false,2,1),(false,3,1),(false,4,1)]),(76,[(false,0,1),(false,1,1),(false,2,1),(false,3,1),(false,4,1)]),(85,[(false,0,1)]),(86,[(false,0,1)]),(93,[(false,0,1),(false,1,1),(false,2,1),(false,3,1)]),(94,[(false,0,1),(false,1,1),(false,2,1),(false,3,1)]),(98,[(false,0,1),(false,1,1),(false,2,1)]),(99,[(false,0,1),(false,1,1),(false,2,1)]),(103,[(false,0,1),(false,1,1),(false,2,1),(false,3,1)]),(104,[(false,0,1),(false,1,1),(false,2,1),(false,3,1)]),(116,[(false,0,1),(false,1,1),(false,2,1)]),(121,[(false,0,1),(false,1,1),(false,2,1)]),(122,[(false,0,1),(false,1,1),(false,2,1)]),(127,[(false,0,1),(false,1,1),(false,2,1),(false,3,1)]),(128,[(false,0,1),(false,1,1),(false,2,1),(false,3,1)]),(154,[(false,0,1),(false,1,1)]),(155,[(false,0,1),(false,1,1)]),(161,[(false,0,1),(false,1,1),(false,2,1),(false,3,1)]),(162,[(false,0,1),(false,1,1),(false,2,1),(false,3,1)]),(163,[(false,0,1),(false,1,1),(true,2,3),(false,5,1)]),(164,[(false,0,1),(false,1,1),(true,2,3),(false,5,1)]),(174,[(false,0,1),(false,1,1)]),(175,[(false,0,1),(false,1,1)]),(182,[(false,0,1),(false,1,1),(false,2,1)]),(183,[(false,0,1),(false,1,1),(false,2,1)]),(224,[(false,0,1),(false,1,1)]),(225,[(false,0,1),(false,1,1)]),(231,[(false,0,1),(false,1,1),(false,2,1),(false,3,1)]),(232,[(false,0,1),(false,1,1),(false,2,1),(false,3,1)])]⟩
theorem abl : tH abK tb.fl:=⟨⟨⟨fv7_0,fa7_0⟩,⟨fv7_1,fa7_1⟩,⟨fv7_2,fa7_2⟩,⟨fv7_3,fa7_3⟩,trivial⟩,⟨⟨fv8_0,fa8_0⟩,⟨fv8_1,fa8_1⟩,⟨fv8_2,fa8_2⟩,⟨fv8_3,fa8_3⟩,trivial⟩,⟨⟨fv13_0,fa13_0⟩,⟨fv13_1,fa13_1⟩,trivial⟩,⟨⟨fv14_0,fa14_0⟩,⟨fv14_1,fa14_1⟩,trivial⟩,⟨⟨fv18_0,fa18_0⟩,trivial⟩,⟨⟨fv19_0,fa19_0⟩,trivial⟩,⟨⟨fv26_0,fa26_0⟩,⟨fv26_1,fa26_1⟩,trivial⟩,⟨⟨fv27_0,fa27_0⟩,⟨fv27_1,fa27_1⟩,trivial⟩,⟨⟨fv32_0,fa32_0⟩,⟨fv32_1,fa32_1⟩,trivial⟩,⟨⟨fv33_0,fa33_0⟩,⟨fv33_1,fa33_1⟩,trivial⟩,⟨⟨fv66_0,fa66_0⟩,⟨fv66_1,fa66_1⟩,⟨fv66_2,fa66_2⟩,trivial⟩,⟨⟨fv67_0,fa67_0⟩,⟨fv67_1,fa67_1⟩,⟨fv67_2,fa67_2⟩,trivial⟩,⟨⟨fv75_0,fa75_0⟩,⟨fv75_1,fa75_1⟩,⟨fv75_2,fa75_2⟩,⟨fv75_3,fa75_3⟩,⟨fv75_4,fa75_4⟩,trivial⟩,⟨⟨fv76_0,fa76_0⟩,⟨fv76_1,fa76_1⟩,⟨fv76_2,fa76_2⟩,⟨fv76_3,fa76_3⟩,⟨fv76_4,fa76_4⟩,trivial⟩,⟨⟨fv85_0,fa85_0⟩,trivial⟩,⟨⟨fv86_0,fa86_0⟩,trivial⟩,⟨⟨fv93_0,fa93_0⟩,⟨fv93_1,fa93_1⟩,⟨fv93_2,fa93_2⟩,⟨fv93_3,fa93_3⟩,trivial⟩,⟨⟨fv94_0,fa94_0⟩,⟨fv94_1,fa94_1⟩,⟨fv94_2,fa94_2⟩,⟨fv94_3,fa94_3⟩,trivial⟩,⟨⟨fv98_0,fa98_0⟩,⟨fv98_1,fa98_1⟩,⟨fv98_2,fa98_2⟩,trivial⟩,⟨⟨fv99_0,fa99_0⟩,⟨fv99_1,fa99_1⟩,⟨fv99_2,fa99_2⟩,trivial⟩,⟨⟨fv103_0,fa103_0⟩,⟨fv103_1,fa103_1⟩,⟨fv103_2,fa103_2⟩,⟨fv103_3,fa103_3⟩,trivial⟩,⟨⟨fv104_0,fa104_0⟩,⟨fv104_1,fa104_1⟩,⟨fv104_2,fa104_2⟩,⟨fv104_3,fa104_3⟩,trivial⟩,⟨⟨fv116_0,fa116_0⟩,⟨fv116_1,fa116_1⟩,⟨fv116_2,fa116_2⟩,trivial⟩,⟨⟨fv121_0,fa121_0⟩,⟨fv121_1,fa121_1⟩,⟨fv121_2,fa121_2⟩,trivial⟩,⟨⟨fv122_0,fa122_0⟩,⟨fv122_1,fa122_1⟩,⟨fv122_2,fa122_2⟩,trivial⟩,⟨⟨fv127_0,fa127_0⟩,⟨fv127_1,fa127_1⟩,⟨fv127_2,fa127_2⟩,⟨fv127_3,fa127_3⟩,trivial⟩,⟨⟨fv128_0,fa128_0⟩,⟨fv128_1,fa128_1⟩,⟨fv128_2,fa128_2⟩,⟨fv128_3,fa128_3⟩,trivial⟩,⟨⟨fv154_0,fa154_0⟩,⟨fv154_1,fa154_1⟩,trivial⟩,⟨⟨fv155_0,fa155_0⟩,⟨fv155_1,fa155_1⟩,trivial⟩,⟨⟨fv161_0,fa161_0⟩,⟨fv161_1,fa161_1⟩,⟨fv161_2,fa161_2⟩,⟨fv161_3,fa161_3⟩,trivial⟩,⟨⟨fv162_0,fa162_0⟩,⟨fv162_1,fa162_1⟩,⟨fv162_2,fa162_2⟩,⟨fv162_3,fa162_3⟩,trivial⟩,⟨⟨fv163_0,fa163_0⟩,⟨fv163_1,fa163_1⟩,⟨fv163_2,fa163_2⟩,⟨fv163_3,fa163_3⟩,trivial⟩,⟨⟨fv164_0,fa164_0⟩,⟨fv164_1,fa164_1⟩,⟨fv164_2,fa164_2⟩,⟨fv164_3,fa164_3⟩,trivial⟩,⟨⟨fv174_0,fa174_0⟩,⟨fv174_1,fa174_1⟩,trivial⟩,⟨⟨fv175_0,fa175_0⟩,⟨fv175_1,fa175_1⟩,trivial⟩,⟨⟨fv182_0,fa182_0⟩,⟨fv182_1,fa182_1⟩,⟨fv182_2,fa182_2⟩,trivial⟩,⟨⟨fv183_0,fa183_0⟩,⟨fv183_1,fa183_1⟩,⟨fv183_2,fa183_2⟩,trivial⟩,⟨⟨fv224_0,fa224_0⟩,⟨fv224_1,fa224_1⟩,trivial⟩,⟨⟨fv225_0,fa225_0⟩,⟨fv225_1,fa225_1⟩,trivial⟩,⟨⟨fv231_0,fa231_0⟩,⟨fv231_1,fa231_1⟩,⟨fv231_2,fa231_2⟩,⟨fv231_3,fa231_3⟩,trivial⟩,⟨⟨fv232_0,fa232_0⟩,⟨fv232_1,fa232_1⟩,⟨fv232_2,fa232_2⟩,⟨fv232_3,fa232_3⟩,trivial⟩,trivial⟩
instance : Tab abK tb:=Tab.mk' 243 kR kR kR kR kR abl
theorem ah : abK.follows .mixedOrders = true:=by kernel_rfl
section
variable {n : Nat} {D : List Deferred} {E : bn} {B : Base} {G : Gh} {L : List Own} {k : List Fr} {Q : Exit → Act → World → Prop} {K : Act → World → Prop}
theorem jT [PQ Q] {ops : List Oper} {G0 : Gh} {L0 : List Own} (fuel : Nat) (is : List Nat) {E' : bn} {p' : List Prop} {fuel' : Nat} {listed : Array Bool} (listed' : Array Bool) (hn : Nx n D E' B G L (xA abK ops.toArray Q (bX B G0 L0) fuel listed'))
    (hf : Nat.beq (fuel + is.length) fuel' = true:=by exact F) (h : ia tb n ops is E [] = some (E',p'):=by exact F) (hsel : Region.noSelect ops.toArray = true:=by kernel_rfl) (hb : m6 ops.toArray is listed listed' = true:=by kernel_rfl)
    (hG : Gh.le G0 G:=by first | exact Gh.le.refl _ | assumption) (hL : L0.Sublist L:=by repeat (first | exact List.Sublist.refl _ | exact List.nil_sublist _ | apply List.Sublist.cons_cons | apply List.Sublist.cons)) (hp : hD p':=by exact trivial) : Nx n D E B G L (xA abK ops.toArray Q (bX B G0 L0) fuel' listed):=wy is listed' hsel hb hf h hG hL hp hn
theorem jN {ops : List Oper} {G0 : Gh} {L0 : List Own} {fuel : Nat} {listed : Array Bool} (listed' : Array Bool) [PQ Q] (i : Nat) {o : Oper} {d : Nat} (hi : ops.toArray[i]? = some o)
    (k : Nx n D ((d,undef) :: E) B G L (xA abK ops.toArray Q (bX B G0 L0) fuel listed')) (hb : mD ops.toArray listed i listed' = true:=by kernel_rfl) (hgu : qP E ops o = some false:=by exact F) (hG : Gh.le G0 G:=by first | exact Gh.le.refl _ | assumption) (hL : L0.Sublist L:=by repeat (first | exact List.Sublist.refl _ | exact List.nil_sublist _ | apply List.Sublist.cons_cons | apply List.Sublist.cons)) (hd : o.dst = some d:=by exact F) (hlt : Nat.blt d n = true:=by exact F) :
    Nx n D E B G L (xA abK ops.toArray Q (bX B G0 L0) (fuel + 1) listed):=wz listed' i hi hb hgu hG hL hd hlt k
theorem jG {ops : List Oper} {G0 : Gh} {L0 : List Own} {fuel : Nat} {listed : Array Bool} (listed' : Array Bool) [PQ Q] (i : Nat) {o : Oper} {d : Nat} {v : Value} (hi : ops.toArray[i]? = some o) (hg : Gives abK n D E (bX B G0 L0) o v)
    (k : Nx n D ((d,v) :: E) B G L (xA abK ops.toArray Q (bX B G0 L0) fuel listed')) (hb : mD ops.toArray listed i listed' = true:=by kernel_rfl) (hgu : qP E ops o = some true:=by exact F) (hG : Gh.le G0 G:=by first | exact Gh.le.refl _ | assumption) (hL : L0.Sublist L:=by repeat (first | exact List.Sublist.refl _ | exact List.nil_sublist _ | apply List.Sublist.cons_cons | apply List.Sublist.cons)) (hd : o.dst = some d:=by exact F) (hlt : Nat.blt d n = true:=by exact F) :
    Nx n D E B G L (xA abK ops.toArray Q (bX B G0 L0) (fuel + 1) listed):=ta listed' i hi hb hgu hG hL hg hd hlt k
theorem jV {o : Oper} {d : Nat} {v : Value} (hg : Gives abK n D E (St B G L) o v) (k : Nx n D ((d,v) :: E) B G L K) (hd : o.dst = some d:=by exact F) (hlt : Nat.blt d n = true:=by exact F) : Nx n D E B G L (ow abK o Q K):=kh hg hd hlt k
theorem jR {E' : bn} {c c' : Cu} {k k' : List Fr} {p' : List Prop} (hn : Nx n D E' B G L (cu abK c' k' Q)) (h : qq tb n 400 E c k = some ⟨E',c',k',p'⟩:=by exact F) (hp : hD p':=by exact trivial) : Nx n D E B G L (cu abK c k Q):=run 400 h hp hn
theorem jM {E' : bn} {c c' : Cu} {k k' : List Fr} {p' : List Prop} (hn : Nx n D E' B G L (cu abK c' k' Q)) (h : qq tb n 400 E c k = some ⟨E',c',k',p'⟩:=by exact F) (hp : hD p':=by (repeat' (first | exact trivial | apply And.intro | omega));done) : Nx n D E B G L (cu abK c k Q):=run 400 h hp hn
theorem jE {f : FuncId} {fn : Func} {c : Code} {args : List Value} {R : Value → Prop} (E0 : bn) (hf : abK.funcs[f]? = some fn) (hn : fn.ntmps = n)
    (h : ∀ B,B.W = [] → Nx n [] E0 B G [] (cu abK (.code c) [] (bp abK fn (dm B (fun v G' L'=>G' = G ∧ L' = [] ∧ R v))))) (hb : fn.body = some c:=by exact F) (hok : dF abK f = true:=by kernel_rfl) (hlen : Nat.ble args.length n = true:=by exact F) (hE : f8 E0 (params 0 args):=by repeat' constructor) : am abK f args G R:=xc E0 hf hok hn hb hlen hE h
theorem jB {f : FuncId} {fn : Func} {c : Code} {args : List Value} {Post : Value → Gh → List Own → Prop} (E0 : bn) (hf : abK.funcs[f]? = some fn) (hn : fn.ntmps = n)
    (h : ∀ B,BOk B → B.G = G → B.W = b7 L → Nx n [] E0 B G L (cu abK (.code c) [] (bp abK fn (dm B Post)))) (hb : fn.body = some c:=by exact F) (hok : dF abK f = true:=by kernel_rfl) (hlen : Nat.ble args.length n = true:=by exact F) (hE : f8 E0 (params 0 args):=by repeat' constructor) : Fn abK f args G L Post:=yg E0 hf hok hn hb hlen hE h
theorem jH {f : FuncId} {fn : Func} {c : Code} {args : List Value} {R : Value → List Own → Prop} (E0 : bn) (hf : abK.funcs[f]? = some fn) (hn : fn.ntmps = n)
    (h : ∀ B,B.G = G → B.W = b7 L → Nx n [] E0 B G L (cu abK (.code c) [] (bp abK fn (dm B (fun v G' L'=>G' = G ∧ R v L'))))) (hb : fn.body = some c:=by exact F) (hok : dF abK f = true:=by kernel_rfl) (hlen : Nat.ble args.length n = true:=by exact F) (hE : f8 E0 (params 0 args):=by repeat' constructor) : bQ abK f args G L R:=xo E0 hf hok hn hb hlen hE h
theorem jK {ops : Array Oper} {G0 : Gh} {L0 : List Own} {fuel : Nat} {listed : Array Bool} (listed' : Array Bool) (h : Nx n D E B G L (xA abK ops Q (bX B G0 L0) fuel listed')) (hG : Gh.le G0 G:=by first | exact Gh.le.refl _ | assumption) (hL : L0.Sublist L:=by repeat (first | exact List.Sublist.refl _ | exact List.nil_sublist _ | apply List.Sublist.cons_cons | apply List.Sublist.cons)) (hl : (listed == listed') = true:=by kernel_rfl) : Nx n D E B G L (xK abK ops Q (bX B G0 L0) fuel listed):=abk hG hL hl h
theorem jS {ops : Array Oper} {G0 : Gh} {L0 : List Own} {fuel : Nat} {listed : Array Bool} (listed' : Array Bool) (h : Nx n D E B G L (xA abK ops Q (bX B G L) fuel listed')) (hG : Gh.le G0 G:=by first | exact Gh.le.refl _ | assumption) (hL : L0.Sublist L:=by repeat (first | exact List.Sublist.refl _ | exact List.nil_sublist _ | apply List.Sublist.cons_cons | apply List.Sublist.cons)) (hl : (listed == listed') = true:=by kernel_rfl) : Nx n D E B G L (xK abK ops Q (bX B G0 L0) fuel listed):=abj hG hL hl h
theorem jA {ops : List Oper} {S : World → Prop} {fuel : Nat} {listed : Array Bool} (i : Nat) {o : Oper} (hi : ops.toArray[i]? = some o) (h : Nx n D E B G L (ow abK o Q (xK abK ops.toArray Q S fuel (listed.setIfInBounds i true)))) (hr : Region.ready .any ops.toArray listed = [i]:=by kernel_rfl) (hgu : qP E ops o = some true:=by exact F) : Nx n D E B G L (xA abK ops.toArray Q S (fuel + 1) listed) :=
  dy [i] hr (by simp) ⟨bY hi hgu h,trivial⟩
theorem jZ {fn : Func} {rs : List ResultVar} {vs : List Value} {v : Value} {L' : List Own} {Post : Value → Gh → List Own → Prop} (hr : fn.results = rs.toArray) (h : g9 abK (St B G L) E rs vs) (hv : eh vs = v) (hP : Post v G L')
    (hL : L'.Sublist L:=by exact List.nil_sublist _) : Nx n [] E B G L (cu abK (.exit .ret) [] (bp abK fn (dm B Post))):=aZ hr h hv hL hP
theorem jX {E' : bn} {c c' : Cu} {k k' : List Fr} {p' : List Prop} (hn : Nx n D E' B G L (cu abK c' k' Q)) (h : qq tb n 400 E c k = some ⟨E',c',k',p'⟩:=by exact F) (hp : hD p':=by (repeat' (first | exact trivial | apply And.intro | omega | assumption | (simp only [List.length_append,List.length_cons,List.length_nil,Int.toNat_natCast];omega) | (simp only [List.length_append,List.length_cons,List.length_nil,List.length_take,List.length_drop];omega) | (with_reducible exact (qf _ _).1) | (with_reducible exact (qf _ _).2)));done) : Nx n D E B G L (cu abK c k Q):=run 400 h hp hn
theorem jW [PQ Q] {ops : List Oper} {G0 : Gh} {L0 : List Own} (fuel : Nat) (is : List Nat) {E' : bn} {p' : List Prop} {fuel' : Nat} {listed : Array Bool} (listed' : Array Bool) (hn : Nx n D E' B G L (xA abK ops.toArray Q (bX B G0 L0) fuel listed'))
    (hf : Nat.beq (fuel + is.length) fuel' = true:=by exact F) (h : ia tb n ops is E [] = some (E',p'):=by exact F) (hsel : Region.noSelect ops.toArray = true:=by kernel_rfl) (hb : m6 ops.toArray is listed listed' = true:=by kernel_rfl)
    (hG : Gh.le G0 G:=by first | exact Gh.le.refl _ | assumption) (hL : L0.Sublist L:=by repeat (first | exact List.Sublist.refl _ | exact List.nil_sublist _ | apply List.Sublist.cons_cons | apply List.Sublist.cons)) (hp : hD p':=by (repeat' (first | exact trivial | apply And.intro | omega | assumption | (simp only [List.length_append,List.length_cons,List.length_nil,Int.toNat_natCast];omega) | (simp only [List.length_append,List.length_cons,List.length_nil,List.length_take,List.length_drop];omega) | (with_reducible exact (qf _ _).1) | (with_reducible exact (qf _ _).2)));done) : Nx n D E B G L (xA abK ops.toArray Q (bX B G0 L0) fuel' listed):=wy is listed' hsel hb hf h hG hL hp hn
section
variable {d : Nat} {ty : TypeId} {pos : String} {aft : Array Edge} {gd : Option (Nat × Bool)} {K2 : Act → World → Prop}
theorem aj {T T0 : TypeId} {x : Operand} {desc : TypeDesc} {size bytes : Nat} {zero : Value} {b o : Nat} {v : Value} {cs : List Value} {fr : Nat × Nat} [TI abK T desc size bytes zero] [BlkI L b cs T0 fr] (hx : ev E x = some (Pt b o)) (k : Nx n D ((d,v) :: E) B G L K)
    (ha : dt desc = false:=by exact F) (hc : cs[o]? = some v:=by exact F) (hlt : Nat.blt d n = true:=by exact F) : Nx n D E B G L (ow abK ⟨some d,.load T x,ty,pos,aft,gd⟩ Q K):=kh (aq hx ha hc) F hlt k
theorem aG {T T0 : TypeId} {x : Operand} {desc : TypeDesc} {size bytes : Nat} {zero : Value} {b o : Nat} {vs : List Value} {cs : List Value} {fr : Nat × Nat} [TI abK T desc size bytes zero] [BlkI L b cs T0 fr] (hx : ev E x = some (Pt b o)) (k : Nx n D ((d,Ag vs) :: E) B G L K)
    (ha : dt desc = true:=by exact F) (hc : km cs o size = some vs:=by exact F) (hl : Nat.beq vs.length size = true:=by exact F) (hlt : Nat.blt d n = true:=by exact F) : Nx n D E B G L (ow abK ⟨some d,.load T x,ty,pos,aft,gd⟩ Q K):=kh (bq hx ha hc hl) F hlt k
theorem aL {c x y : Operand} {b : Bool} {v : Value} (hc : ev E c = some (.bool b)) (k : Nx n D ((d,v) :: E) B G L K) (hx : ev E x = some v:=by exact F) (hb : b = true:=by exact F) (hlt : Nat.blt d n = true:=by exact F) : Nx n D E B G L (ow abK ⟨some d,.pick c x y,ty,pos,aft,gd⟩ Q K):=kh (aT hc hx hb) F hlt k
theorem av {c x y : Operand} {b : Bool} {v : Value} (hc : ev E c = some (.bool b)) (k : Nx n D ((d,v) :: E) B G L K) (hy : ev E y = some v:=by exact F) (hb : b = false:=by exact F) (hlt : Nat.blt d n = true:=by exact F) : Nx n D E B G L (ow abK ⟨some d,.pick c x y,ty,pos,aft,gd⟩ Q K):=kh (aH hc hy hb) F hlt k
theorem jC {T T0 : TypeId} {x y : Operand} {desc : TypeDesc} {size bytes : Nat} {zero : Value} {b o : Nat} {cs vs cs' : List Value} {fr : Nat × Nat} {L' : List Own} [TI abK T desc size bytes zero] [BlkI L b cs T0 fr] [hu : UpdI b cs' L cs T0 L'] (hx : ev E x = some (Pt b o)) (hy : ev E y = some (Ag vs)) (hp : fS cs o vs = some cs') (k : Nx n D E B G L' K)
    (hl : Nat.beq vs.length size = true:=by exact F) (hne : vs.isEmpty = false:=by exact F) (h1 : fE vs = true:=by exact F) : Nx n D E B G L (ow abK ⟨none,.store T x y,ty,pos,aft,gd⟩ Q K):=aaP hx hy hl hne h1 hp k
theorem jD {T T0 : TypeId} {x y : Operand} {desc : TypeDesc} {bytes : Nat} {zero v : Value} {b o : Nat} {cs cs' : List Value} {fr : Nat × Nat} {L' : List Own} [TI abK T desc 1 bytes zero] [BlkI L b cs T0 fr] [hu : UpdI b cs' L cs T0 L'] (hx : ev E x = some (Pt b o)) (hy : ev E y = some v) (hp : fS cs o [v] = some cs') (k : Nx n D E B G L' K) (h1 : v.oneCell' = true:=by exact F) : Nx n D E B G L (ow abK ⟨none,.store T x y,ty,pos,aft,gd⟩ Q K):=aaQ hx hy h1 hp k
end
theorem jY {fn : Func} {rs : List ResultVar} {vs : List Value} {R : Value → Prop} (hP : R (eh vs)) (hr : fn.results = rs.toArray:=by exact F) (h : g9 abK (St B G L) E rs vs:=by repeat' (first | exact trivial | refine ⟨F,?_⟩)) : Nx n [] E B G L (cu abK (.exit .ret) [] (bp abK fn (dm B (fun v G' L'=>G' = G ∧ L' = [] ∧ R v)))):=aZ hr h F (List.nil_sublist _) ⟨F,F,hP⟩
theorem jo {a l : List Oper} {i : Nat} {pm : List Nat} {o : Oper} (h : Nx n D E B G L (ow abK o (kk abK k Q) (cu abK (.ops a l (i + 1) pm) k Q))) (hg : mS E a pm o = some true:=by exact F) : Nx n D E B G L (cu abK (.ops a (o :: l) i pm) k Q):=tB hg h
section
variable {d : Nat} {ty : TypeId} {pos : String} {aft : Array Edge} {gd : Option (Nat × Bool)}
theorem jF {T el : TypeId} {len : Nat} {ps : List (Nat × Operand)} {qs : List (Nat × List Value)} {desc : TypeDesc} {size bytes size' bytes' : Nat} {zero zero' : Value} {zs cs : List Value} [TI abK T (.slice el) size' bytes' zero'] [TI abK el desc size bytes zero] (k : ∀ b,Nx n D ((d,.slice (some ⟨b,0,none⟩) len len) :: E) B G (.blk b (.cells cs.toArray el (0,0)) :: L) K) (hz : eA zero = some zs:=by exact F)
    (hsz : Nat.beq zs.length size = true:=by exact F) (he : pQ E ps = some qs:=by exact F) (hf : oB (ic (oQ size) (bw zs len) qs) = some cs:=by exact F) (hsm : Nat.ble (len * size) 16777216 = true:=by exact F) (hlt : Nat.blt d n = true:=by exact F) : Nx n D E B G L (ow abK ⟨some d,.buildSlice T len ps.toArray,ty,pos,aft,gd⟩ Q K):=aaZ hz hsz hsm hlt he hf k
theorem jL {T : TypeId} {desc : TypeDesc} {size bytes : Nat} {zero : Value} {cs : List Value} [TI abK T desc size bytes zero] (k : ∀ b,Nx n D ((d,Pt b 0) :: E) B G (.blk b (.cells cs.toArray T (0,0)) :: L) K) (hz : eA zero = some cs:=by exact F) (hlt : Nat.blt d n = true:=by exact F) : Nx n D E B G L (ow abK ⟨some d,.alloc T,ty,pos,aft,gd⟩ Q K):=abA hz hlt k
theorem jO {T : TypeId} {x : Operand} {v : Value} {cs : List Value} (k : ∀ b,Nx n D ((d,Pt b 0) :: E) B G (.blk b (.cells cs.toArray T (0,0)) :: L) K) (hx : ev E x = some v:=by exact F) (hz : eA v = some cs:=by exact F) (hlt : Nat.blt d n = true:=by exact F) : Nx n D E B G L (ow abK ⟨some d,.box T x,ty,pos,aft,gd⟩ Q K):=abz hx hz hlt k
end
theorem jQ {ops : Array Oper} {S : World → Prop} {fuel : Nat} {listed : Array Bool} (h : Nx n D E B G L (cu abK (.exit .normal) k Q)) (hr : Region.ready .any ops listed = []:=by kernel_rfl) : Nx n D E B G L (xA abK ops (kk abK k Q) S fuel listed):=yk hr (aby h)
theorem zA {α : Type _} {a : α} {l m : List α} : a :: l ++ m = a :: (l ++ m):=rfl
theorem fA {α : Type _} {l : List α} : [] ++ l = l:=rfl
end
set_option maxRecDepth 20000
set_option maxHeartbeats 2000000
theorem vH (l : abL) (c : UInt8) : co (l ++ [c]) = co l ++ [U8 c.toNat]:=by simp [co]
def num (n : Nat) : abL:=if h : n < 128 then [u8 n] else u8 (128 + n % 128 : Nat) :: num (n / 128)
termination_by n
decreasing_by omega
theorem qD {n : Nat} (h : n < 128) : num n = [u8 n]:=by rw [num];simp [h]
theorem uy {n : Nat} (h : ¬ n < 128) : num n = u8 (128 + n % 128 : Nat) :: num (n / 128):=by rw [num];simp [h]
def bi (n : Int) : abL:=num n.toNat
theorem eR {n : Int} (h : n < 128) (h0 : 0 ≤ n) : bi n = [u8 n]:=by
 unfold bi;rw [qD oM,Int.toNat_of_nonneg h0]
theorem gw {n : Int} (h : ¬ n < 128) : bi n = u8 (128 + n % 128) :: bi (n / 128):=by
 unfold bi;rw [uy oM]
 congr 2
 ·omega
 ·omega
theorem sr (n : Nat) : ∀ k,n < 128 ^ (k + 1) → (num n).length ≤ k + 1:=by
 intro k
 induction k generalizing n with
 | zero=>intro h;rw [qD (by simpa using h)];simp
 | succ k ih =>
  intro h
  by_cases h1 : n < 128
  ·rw [qD h1];simp
  ·rw [uy h1]
   have:=ih (n / 128) (Nat.div_lt_of_lt_mul (by rw [Nat.pow_succ] at h;omega))
   simp;omega
theorem vU (n : Nat) (h : n ≤ 9223372036854775807) : (num n).length ≤ 9:=sr n 8 oM
theorem vV (n : Int) (h : n ≤ 9223372036854775807) : (bi n).length ≤ 9:=vU _ oM
def oY (n : Int) : abL → Int
 | []=>n
 | c :: l=>oY ((n * 31 + (c.toNat : Int)) % 9973) l
def d8 (l : abL) : Int:=oY 1 l
theorem tm (l : abL) : ∀ n : Int,0 ≤ n → n < 9973 → 0 ≤ oY n l ∧ oY n l < 9973:=by
 induction l with
 | nil=>intro n h1 h2;exact ⟨h1,h2⟩
 | cons c l ih=>intro n h1 h2;exact ih _ (Int.emod_nonneg _ dC) (Int.emod_lt_of_pos _ dC)
theorem kp (l : abL) : 0 ≤ d8 l ∧ d8 l < 9973:=tm l 1 dC dC
theorem fw {l : abL} {i : Nat} (h : i < l.length) : ∃ c : UInt8,l.drop i = c :: l.drop (i + 1) ∧ bt l i = c.toNat:=by
 refine ⟨l[i],(List.getElem_cons_drop (h:=h)).symm,?_⟩
 simp [bt,List.getD,List.getElem?_eq_getElem h]
def frame (s : abL) : abL:=[u8 126] ++ bi s.length ++ s ++ bi (d8 s)
theorem cd {n : Int} (h : n ≤ 999999) : (bi n).length ≤ 3:=sr _ 2 oM
theorem m7 (l : abL) : (bi (d8 l)).length ≤ 3:=cd (by have:=kp l;omega)
theorem je (s : abL) (h : s.length ≤ 999999) : (frame s).length ≤ s.length + 7:=by
 have h1:=cd (n:=s.length) oM
 have h2:=m7 s
 simp [frame];omega
def kd (s : abL) : abL:=if s.length ≤ 100 then frame s else []
def uO (s : abL) : Bool:=decide (s.length ≤ 100)
theorem aaC {s : abL} (h : ¬ s.length ≤ 100) : Tu [S [],Bo false] = Tu [S (kd s),Bo (uO s)]:=by simp [kd,uO,h]
theorem y9 {s : abL} (h : s.length ≤ 100) : Tu [S (frame s),Bo true] = Tu [S (kd s),Bo (uO s)]:=by simp [kd,uO,h]
variable {G : Gh}
theorem zG {n lo hi : Int} : am abK 68 [I n,I lo,I hi] G (· = Bo (decide (lo ≤ n) && decide (n ≤ hi))):=by
 refine jE [(0,_),(1,_),(2,_)] Tryz.func68 Tryz.ntmps68 fun B hB=>?_
 repeat' (first | refine jR ?_ | (refine jo ?_;first | refine aL F ?_ | refine av F ?_) | refine d5 F F (fun _=>?_) (fun _=>?_))
 all_goals refine jY (vs:=[_]) ?_
 all_goals (rw [ar];simp [*])
theorem ij {n : Int} : am abK 47 [I n] G (· = Bo (decide (0 ≤ n) && decide (n ≤ 999))):=by
 refine jE [(0,_)] Tryz.func47 Tryz.ntmps47 fun B hB=>?_
 repeat' (first | refine jR ?_ | (refine jo ?_;first | refine aL F ?_ | refine av F ?_) | refine d5 F F (fun _=>?_) (fun _=>?_))
 all_goals refine jY (vs:=[_]) ?_
 all_goals (rw [ar];simp [*])
theorem wi : ∀ (k : Nat) {n : Int},n.toNat ≤ k → 0 ≤ n ∧ n ≤ 9223372036854775807 → am abK 28 [I n] G (· = S (bi n)):=by
 intro k
 induction k with
 | zero =>
  intro n hk hn
  have h1 : n < 128:=oM
  refine jE [(0,_)] Tryz.func28 Tryz.ntmps28 fun B hB=>?_
  repeat' (first | refine jR ?_ | (refine jo ?_;first | refine jF fun _=>?_ | refine jV (en F F (by (repeat (first | exact BL.nil | apply BL.cons));done)) ?_) | refine ac F (ay ‹_›) ?_)
  refine jY (vs:=[_]) ?_
  rw [ar,eR h1 hn.1]
 | succ k ih =>
  intro n hk hn
  have hl:=vV (n / 128) oM
  refine jE [(0,_)] Tryz.func28 Tryz.ntmps28 fun B hB=>?_
  repeat' (first | refine jR ?_ | (refine jo ?_;first | refine jF fun _=>?_ | refine jV (en F F (by (repeat (first | exact BL.nil | apply BL.cons));done)) ?_) | refine cT F (fun _=>?_) (fun _=>?_) | (refine ai (an (id:=3) _ (fun _ h=>h) ah ?_);refine jW 5 [0,1,2,3,6,7] (aa 11 207) ?_;refine dy [4,8] kR dC ⟨?_,?_,trivial⟩;(focus (refine bY F F ?_;(refine jF fun _=>?_);refine jS (aa 11 223) ?_;((refine jG (aa 11 255) 5 F (en F F (by (repeat (first | exact BL.nil | apply BL.cons));done)) ?_));refine jA 8 F ?_;((refine ab F F F (ih ?_ ?_) F ?_;(focus omega);focus omega));refine jS (aa 11 511) ?_;refine jW 0 [9,10] (aa 11 2047) ?_;refine jQ ?_));rotate_left 1;(focus (refine bY F F ?_;((refine ab F F F (ih ?_ ?_) F ?_;(focus omega);focus omega));refine jS (aa 11 463) ?_;refine jA 4 F ?_;(refine jF fun _=>?_);refine jS (aa 11 479) ?_;((refine jG (aa 11 511) 5 F (en F F (by (repeat (first | exact BL.nil | apply BL.cons));done)) ?_));refine jW 0 [9,10] (aa 11 2047) ?_;refine jQ ?_));rotate_left 1))
  ·refine jY (vs:=[_]) ?_
   rw [ar,eR aS hn.1]
  all_goals refine jY (vs:=[_]) ?_
  all_goals (rw [ar,gw (n:=n) aS];rfl)
theorem f7 {n : Int} (hn : 0 ≤ n ∧ n ≤ 9223372036854775807) : am abK 28 [I n] G (· = S (bi n)):=wi n.toNat (Nat.le_refl _) hn
def g6 (xs : List abL) : List Value:=xs.map fun x=>S x
theorem i2 (xs : List abL) (x : abL) : g6 (xs ++ [x]) = g6 xs ++ [S x]:=by simp [g6]
abbrev jv : TypeId:=9
theorem bT {α : Type} [Inhabited α] {a : List α} {i : Nat} (h : i < a.length) : ae a i ∈ a:=by rw [a6 h];exact List.getElem_mem h
theorem j9 {α : Type} [Inhabited α] {a : List α} {x : α} (h : x ∈ a) : ∃ i,i < a.length ∧ ae a i = x:=by
 obtain ⟨i,hi,e⟩:=List.mem_iff_getElem.1 h
 exact ⟨i,hi,by rw [a6 hi,e]⟩
theorem oh (p s : abL) : p.isPrefixOf s = decide (p.length ≤ s.length ∧ s.take p.length = p):=by
 by_cases h : p <+: s
 ·have h1:=List.isPrefixOf_iff_prefix.2 h
  rw [h1];obtain ⟨r,rfl⟩:=h;simp
 ·have h1 : p.isPrefixOf s = false:=by
   cases hb : p.isPrefixOf s with
   | false=>rfl
   | true=>exact absurd (List.isPrefixOf_iff_prefix.1 hb) h
  rw [h1];symm;refine decide_eq_false fun ⟨_,h3⟩=>h ?_
  rw [← h3];exact List.take_prefix _ _
theorem gq {s p : abL} : am abK 157 [S s,S p] G (· = Bo (p.isPrefixOf s)):=by
 rw [oh]
 refine jE [(0,_),(1,_)] Tryz.func157 Tryz.ntmps157 fun B hB=>?_
 repeat' (first | refine jM ?_ | (refine jo ?_;first | refine aL F ?_ | refine av F ?_) | refine d5 F F (fun _=>?_) (fun _=>?_))
 all_goals refine jY (vs:=[_]) ?_
 all_goals (rw [ar];simp;omega)
theorem fG {s p : abL} : am abK 120 [S s,S p] G (· = Bo (p.isPrefixOf s)):=by
 refine jE [(0,_),(1,_)] Tryz.func120 Tryz.ntmps120 fun B hB=>?_
 repeat' (first | refine jR ?_ | (refine jo ?_;refine ab F F F gq F ?_))
 all_goals refine jY (vs:=[_]) ?_
 all_goals rfl
def ja (c : UInt8) : Bool:=decide (97 ≤ c.toNat ∧ c.toNat ≤ 122)
def b5 (s : abL) : Bool:=s.all ja && decide (1 ≤ s.length ∧ s.length ≤ 3)
def eg : abL → Bool
 | []=>false
 | c :: r=>if c.toNat = 91 ∨ c.toNat = 63 then eg r
  else if c.toNat = 64 then decide (((bt (c :: r) r.length : Nat) : Int) = 59) && b5 (r.take (r.length - 1))
  else decide (r = []) && (decide (c.toNat = 110) || decide (c.toNat = 116) || decide (c.toNat = 102))
def bz (s : abL) : Bool:=decide (s.length ≤ 12) && eg s
def bm : abL → abL
 | []=>[]
 | c :: r=>if c.toNat = 91 ∨ c.toNat = 63 then bm r else c :: r
theorem sy {s : abL} {i : Nat} (h : i < s.length) (h2 : ¬ (97 ≤ bt s i ∧ bt s i ≤ 122)) : b5 s = false:=by
 have e : bt s i = (s[i]).toNat:=by simp [bt,List.getD,List.getElem?_eq_getElem h]
 have : s.all ja = false:=by
  rw [List.all_eq_false]
  exact ⟨s[i],List.getElem_mem h,by rw [e] at h2;simpa [ja] using h2⟩
 rw [b5,this,Bool.false_and]
theorem vX {s : abL} (h : ∀ i,i < s.length → 97 ≤ bt s i ∧ bt s i ≤ 122) : b5 s = decide (1 ≤ s.length ∧ s.length ≤ 3):=by
 have : s.all ja = true:=by
  rw [List.all_eq_true]
  intro c hc
  obtain ⟨i,hi,rfl⟩:=List.mem_iff_getElem.1 hc
  have e : bt s i = (s[i]).toNat:=by simp [bt,List.getD,List.getElem?_eq_getElem hi]
  have:=h i hi
  rw [e] at this
  simpa [ja] using this
 rw [b5,this,Bool.true_and]
def mT (n : Nat) : abL:=if h : n < 10 then [u8 (48 + n : Nat)] else mT (n / 10) ++ [u8 (48 + n % 10 : Nat)]
termination_by n
decreasing_by omega
def br (n : Int) : abL:=mT n.toNat
theorem dw {n : Int} (h : n < 10) (h0 : 0 ≤ n) : br n = [u8 (48 + n)]:=by
 unfold br;rw [mT,dif_pos oM];congr 1;congr 1;omega
theorem iu {n : Int} (h : ¬ n < 10) : br n = br (n / 10) ++ [u8 (48 + n % 10)]:=by
 unfold br;rw [mT,dif_neg oM]
 have e1 : n.toNat / 10 = (n / 10).toNat:=oM
 have e2 : ((48 + n.toNat % 10 : Nat) : Int) = 48 + n % 10:=oM
 rw [e1,e2]
theorem sK (n : Nat) : ∀ k,n < 10 ^ (k + 1) → (mT n).length ≤ k + 1:=by
 intro k
 induction k generalizing n with
 | zero=>intro h;rw [mT,dif_pos (by simpa using h)];simp
 | succ k ih =>
  intro h
  by_cases h1 : n < 10
  ·rw [mT,dif_pos h1];simp
  ·rw [mT,dif_neg h1]
   have:=ih (n / 10) (Nat.div_lt_of_lt_mul (by rw [Nat.pow_succ] at h;omega))
   simp;omega
theorem iO {n : Int} (h : n ≤ 9223372036854775807) : (br n).length ≤ 19:=sK _ 18 oM
theorem eK {s : abL} (h : s.length ≤ 9000000000000000000) : am abK 73 [S s] G (· = Bo (b5 s)):=by
 refine jE [(0,_)] Tryz.func73 Tryz.ntmps73 fun B hB=>?_
 repeat' (refine jR ?_)
 refine aR (ι:=Nat) (fun i=>i ≤ s.length ∧ ∀ k,k < i → 97 ≤ bt s k ∧ bt s k ≤ 122) (fun i=>[(0,S s),(3,I i)]) (fun _=>G) (fun i=>[]) (fun i=>s.length - i) 0 ?_ tU F aX (fun i Hi=>?_)
 ·exact ⟨oM,fun k hk=>absurd hk oM⟩
 by_cases hi : i < s.length
 ·repeat' (first | refine jM ?_ | (refine jo ?_;first | refine aL F ?_ | refine av F ?_) | refine d5 F F (fun _=>?_) (fun _=>?_) | (refine ac F (by first | rfl | (refine decide_eq_true ?_;(omega))) ?_) | refine cT F (fun _=>?_) (fun _=>?_))
  ·rename_i hc
   refine jY (vs:=[_]) ?_
   have hc : ((bt s i : Nat) : Int) < 97:=hc
   rw [ar,sy hi oM]
  ·rename_i _ hc
   refine jY (vs:=[_]) ?_
   have hc : (122 : Int) < ((bt s i : Nat) : Int):=hc
   rw [ar,sy hi oM]
  ·rename_i h1 h2
   have h1 : ¬ ((bt s i : Nat) : Int) < 97:=h1
   have h2 : ¬ (122 : Int) < ((bt s i : Nat) : Int):=h2
   refine aW (i + 1) ⟨oM,fun k hk=>?_⟩ oM tU F aX
   rcases Nat.lt_or_ge k i with h3 | h3
   ·exact Hi.2 k h3
   ·have : k = i:=oM
    subst this;omega
 ·repeat' (first | refine jR ?_ | (refine jo ?_;refine ab F F F zG F ?_) | refine ad F (aC oM) ?_)
  refine jY (vs:=[_]) ?_
  rw [ar,vX fun k hk=>Hi.2 k oM]
  refine congrArg Bo ?_
  rw [Bool.decide_and]
  exact congr (congrArg and (decide_eq_decide.2 oM)) (decide_eq_decide.2 oM)
theorem lf (c : UInt8) (r : abL) : bt (c :: r) 0 = c.toNat:=by simp [bt,List.getD]
theorem xY {c : UInt8} {r : abL} (h : r ≠ []) (hl : r.length ≤ 1000000) : am abK 80 [S (c :: r)] G (· = Tu [S (if c.toNat = 64 then r.take (r.length - 1) else []),Bo (decide (c.toNat = 64))]):=by
 have hp:=List.length_pos_iff.2 h
 have e0:=lf c r
 refine jE [(0,_)] Tryz.func80 Tryz.ntmps80 fun B hB=>?_
 repeat' (first | refine jX ?_ | refine cT F (fun _=>?_) (fun _=>?_))
 ·rename_i hc
  refine jY (vs:=[_,_]) ?_
  have hc : ((bt (c :: r) 0 : Nat) : Int) ≠ 64:=hc
  have hc : ¬ c.toNat = 64:=oM
  rw [dD,if_neg hc,decide_eq_false hc]
 ·rename_i hc
  refine jY (vs:=[_,_]) ?_
  have hc : ¬ ((bt (c :: r) 0 : Nat) : Int) ≠ 64:=hc
  have hc : c.toNat = 64:=oM
  have e : ((((c :: r).length : Nat) : Int) - 1).toNat = (r.length - 1) + 1:=by simp only [List.length_cons];omega
  rw [dD,if_pos hc,decide_eq_true hc,e,List.take_succ_cons];rfl
theorem l4 {s : abL} : am abK 79 [S s] G (· = Bo (bz s)):=by
 induction s with
 | nil =>
  refine jE [(0,_)] Tryz.func79 Tryz.ntmps79 fun B hB=>?_
  repeat' (first | refine jR ?_ | (refine jo ?_;refine av F ?_) | refine al F F F ?_ | refine ac F F ?_)
  all_goals refine jY (vs:=[_]) ?_
  all_goals rfl
 | cons c r ih =>
  have e0 : bt (c :: r) (Int.toNat 0) = c.toNat:=lf c r
  by_cases hl : (c :: r).length ≤ 12
  ·have hl2 : r.length ≤ 12:=by simp at hl;omega
   rw [bz,decide_eq_true hl,Bool.true_and,eg]
   rw [bz,decide_eq_true hl2,Bool.true_and] at ih
   have hcons : (c :: r).length = r.length + 1:=rfl
   by_cases h1 : c.toNat = 91
   ·rw [if_pos (.inl h1)]
    refine jE [(0,_)] Tryz.func79 Tryz.ntmps79 fun B hB=>?_
    repeat' (first | refine jM ?_ | (refine jo ?_;first | refine av F ?_ | refine ab F F F ih F ?_) | refine al F F (aC oM) ?_ | refine ac F (ay oM) ?_ | refine ad F F ?_)
    refine jY (vs:=[_]) ?_
    rfl
   by_cases h2 : c.toNat = 63
   ·rw [if_pos (.inr h2)]
    refine jE [(0,_)] Tryz.func79 Tryz.ntmps79 fun B hB=>?_
    repeat' (first | refine jM ?_ | (refine jo ?_;first | refine av F ?_ | refine ab F F F ih F ?_) | refine al F F (aC oM) ?_ | refine ac F (ay oM) ?_ | (refine ad F (by first | rfl | (refine decide_eq_false ?_;(omega))) ?_))
    refine jY (vs:=[_]) ?_
    rfl
   rw [if_neg oM]
   by_cases h3 : c.toNat = 64
   ·rw [if_pos h3]
    have h5 : ((((c :: r).length : Nat) : Int) - 1).toNat = r.length:=oM
    by_cases h4 : ((bt (c :: r) r.length : Nat) : Int) = 59
    ·have h6 : ((bt (c :: r) ((((c :: r).length : Nat) : Int) - 1).toNat : Nat) : Int) = 59:=by rw [h5];exact h4
     have hp : 0 < r.length:=by
      rcases Nat.eq_zero_or_pos r.length with h0 | h0
      ·have : r = []:=List.length_eq_zero_iff.1 h0
       subst this
       have : ((bt [c] (Int.toNat 0) : Nat) : Int) = 59:=h4
       omega
      ·exact h0
     have e1 : ((((c :: r).length : Nat) : Int) - 1).toNat = (r.length - 1) + 1:=oM
     refine jE [(0,_)] Tryz.func79 Tryz.ntmps79 fun B hB=>?_
     repeat' (first | refine jM ?_ | (refine jo ?_;first | refine aL F ?_ | refine av F ?_ | (refine ab F F F (eK ?_) F ?_;(focus ((simp;omega);done)))) | refine aD F F (ay ‹_›) ?_ | refine al F F (aC oM) ?_ | refine ac F (ay oM) ?_ | (refine ad F (by first | rfl | (refine decide_eq_false ?_;(omega))) ?_))
     refine jY (vs:=[_]) ?_
     rw [ar,decide_eq_true h4,Bool.true_and,e1,List.take_succ_cons];rfl
    ·have h6 : ¬ ((bt (c :: r) ((((c :: r).length : Nat) : Int) - 1).toNat : Nat) : Int) = 59:=by rw [h5];exact h4
     refine jE [(0,_)] Tryz.func79 Tryz.ntmps79 fun B hB=>?_
     repeat' (first | refine jM ?_ | (refine jo ?_;refine av F ?_) | (refine al F F (by refine decide_eq_false ?_;first | assumption | omega) ?_) | refine ac F (ay oM) ?_ | (refine ad F (by first | rfl | (refine decide_eq_false ?_;(omega))) ?_))
     refine jY (vs:=[_]) ?_
     rw [ar,decide_eq_false h4,Bool.false_and]
   ·rw [if_neg h3]
    have n1 : ∀ x : UInt8,(c :: r = [x]) = (c.toNat = x.toNat ∧ r = []):=fun x=>by
     rw [List.cons.injEq];exact propext ⟨fun h=>⟨by rw [h.1],h.2⟩,fun h=>⟨UInt8.toNat_inj.1 h.1,h.2⟩⟩
    refine jE [(0,_)] Tryz.func79 Tryz.ntmps79 fun B hB=>?_
    repeat' (first | refine jM ?_ | (refine jo ?_;first | refine aL F ?_ | refine av F ?_) | refine aD F F F ?_ | refine al F F (aC oM) ?_ | refine d5 F F (fun _=>?_) (fun _=>?_) | (refine ad F (by first | rfl | (refine decide_eq_false ?_;(omega))) ?_))
    all_goals refine jY (vs:=[_]) ?_
    all_goals rw [ar]
    ·rename_i h;rw [n1] at h;rw [decide_eq_true h.2,decide_eq_true (p:=c.toNat = 110) h.1];rfl
    ·rename_i h;rw [n1] at h;rw [decide_eq_true h.2,decide_eq_true (p:=c.toNat = 116) h.1];simp
    ·rename_i ha hb
     refine congrArg Bo ?_
     rw [n1] at ha hb
     simp only [n1]
     by_cases hr : r = []
     ·have hx : ¬ c.toNat = 110:=fun h=>ha ⟨h,hr⟩
      have hy : ¬ c.toNat = 116:=fun h=>hb ⟨h,hr⟩
      simp [hr,hx,hy]
     ·simp [hr]
  ·rw [bz,decide_eq_false hl,Bool.false_and]
   refine jE [(0,_)] Tryz.func79 Tryz.ntmps79 fun B hB=>?_
   repeat' (first | refine jR ?_ | (refine jo ?_;refine aL F ?_) | refine aD F F (ay oM) ?_ | refine ac F F ?_)
   all_goals refine jY (vs:=[_]) ?_
   all_goals rfl
theorem rn {s : abL} (h : eg s = true) : am abK 81 [S s] G (· = S (bm s)):=by
 refine jE [(0,_)] Tryz.func81 Tryz.ntmps81 fun B hB=>?_
 repeat' (refine jR ?_)
 refine aR (ι:=abL) (fun t=>eg t = true ∧ bm t = bm s) (fun t=>[(0,S t)]) (fun _=>G) (fun t=>[]) (fun t=>t.length) s ?_ tU F aX (fun t Ht=>?_)
 ·exact ⟨h,F⟩
 match t,Ht with
 | c :: r,Ht =>
  have e0 : bt (c :: r) (Int.toNat 0) = c.toNat:=lf c r
  have hcons : (c :: r).length = r.length + 1:=rfl
  by_cases h1 : c.toNat = 91 ∨ c.toNat = 63
  ·have hk : eg r = true:=by have:=Ht.1;rw [eg,if_pos h1] at this;exact this
   have hc : bm r = bm s:=by rw [← Ht.2,bm,if_pos h1]
   rcases h1 with h1 | h1
   all_goals repeat' (first | refine jM ?_ | (refine jo ?_;first | refine aL F ?_ | refine av F ?_) | refine aD F F (ay oM) ?_ | refine al F F (aC oM) ?_ | (refine ac F (by first | rfl | (refine decide_eq_true ?_;(omega))) ?_))
   all_goals exact aW r ⟨hk,hc⟩ oM tU F aX
  ·repeat' (first | refine jM ?_ | (refine jo ?_;refine av F ?_) | refine al F F (aC oM) ?_ | refine ad F (aC oM) ?_)
   refine jY (vs:=[_]) ?_
   rw [ar,← Ht.2,bm,if_neg h1]
theorem wh : ∀ (k : Nat) {n : Int},n.toNat ≤ k → 0 ≤ n ∧ n ≤ 9223372036854775807 → am abK 86 [I n] G (· = S (br n)):=by
 intro k
 induction k with
 | zero =>
  intro n hk hn
  have h1 : n < 10:=oM
  refine jE [(0,_)] Tryz.func86 Tryz.ntmps86 fun B hB=>?_
  repeat' (first | refine jM ?_ | (refine jo ?_;first | refine jF fun _=>?_ | refine jV (en F F (by (repeat (first | exact BL.nil | apply BL.cons));done)) ?_) | refine ac F (ay ‹_›) ?_ | refine ad F (aC oM) ?_)
  refine jY (vs:=[_]) ?_
  rw [ar,dw h1 hn.1]
 | succ k ih =>
  intro n hk hn
  have hl:=iO (n:=n / 10) oM
  by_cases h1 : n < 10
  ·refine jE [(0,_)] Tryz.func86 Tryz.ntmps86 fun B hB=>?_
   repeat' (first | refine jM ?_ | (refine jo ?_;first | refine jF fun _=>?_ | refine jV (en F F (by (repeat (first | exact BL.nil | apply BL.cons));done)) ?_) | refine ac F (ay ‹_›) ?_ | refine ad F (aC oM) ?_)
   refine jY (vs:=[_]) ?_
   rw [ar,dw h1 hn.1]
  ·refine jE [(0,_)] Tryz.func86 Tryz.ntmps86 fun B hB=>?_
   repeat' (first | refine jR ?_ | (refine ad F (by refine decide_eq_false ?_;first | assumption | omega) ?_) | (refine ai (an (id:=7) _ (fun _ h=>h) ah ?_);refine jW 5 [0,1,3,4,5,6] (aa 11 123) ?_;refine dy [2,7] kR dC ⟨?_,?_,trivial⟩;(focus (refine bY F F ?_;((refine ab F F F (ih ?_ ?_) F ?_;(focus omega);focus omega));refine jS (aa 11 127) ?_;refine jA 7 F ?_;(refine jF fun _=>?_);refine jS (aa 11 255) ?_;((refine jG (aa 11 511) 8 F (en F F (by (repeat (first | exact BL.nil | apply BL.cons));done)) ?_));refine jW 0 [9,10] (aa 11 2047) ?_;refine jQ ?_));rotate_left 1;(focus (refine bY F F ?_;(refine jF fun _=>?_);refine jS (aa 11 251) ?_;((refine jG (aa 11 507) 8 F (en F F (by (repeat (first | exact BL.nil | apply BL.cons));done)) ?_));refine jA 2 F ?_;((refine ab F F F (ih ?_ ?_) F ?_;(focus omega);focus omega));refine jS (aa 11 511) ?_;refine jW 0 [9,10] (aa 11 2047) ?_;refine jQ ?_));rotate_left 1))
   all_goals refine jY (vs:=[_]) ?_
   all_goals rw [ar,iu (n:=n) h1]
theorem fz {n : Int} (hn : 0 ≤ n ∧ n ≤ 9223372036854775807) : am abK 86 [I n] G (· = S (br n)):=wh n.toNat (Nat.le_refl _) hn
def ff (s : abL) : abL:=if s = [110] then [48] else if s = [116] then [39,39] else if s = [102] then [110,111] else []
theorem pZ {s : abL} : am abK 153 [S s] G (· = S (ff s)):=by
 refine jE [(0,_)] Tryz.func153 Tryz.ntmps153 fun B hB=>?_
 repeat' (first | refine jR ?_ | refine cT F (fun _=>?_) (fun _=>?_))
 all_goals refine jY (vs:=[_]) ?_
 all_goals (rw [ar,ff];simp [*])
def hO (x : Nat) : Prop:=x = 32 ∨ (48 ≤ x ∧ x ≤ 57) ∨ (97 ≤ x ∧ x ≤ 122)
instance (x : Nat) : Decidable (hO x):=inferInstanceAs (Decidable (_ ∨ _))
def wX (s : abL) : Prop:=(2 ≤ s.length ∧ s.length ≤ 14) ∧ bt s 0 = 39 ∧ bt s (s.length - 1) = 39 ∧ ∀ i,i < s.length - 1 → i = 0 ∨ hO (bt s i)
instance (s : abL) : Decidable (wX s):=inferInstanceAs (Decidable (_ ∧ _ ∧ _ ∧ _))
def cW (s : abL) : Bool:=decide (wX s)
theorem eJ {s : abL} (h : s.length ≤ 100000000) : am abK 107 [S s] G (· = Bo (cW s)):=by
 by_cases h1 : 2 ≤ s.length ∧ s.length ≤ 14
 case neg =>
  have e : cW s = false:=decide_eq_false fun x=>h1 x.1
  rw [e]
  refine jE [(0,_)] Tryz.func107 Tryz.ntmps107 fun B hB=>?_
  repeat' (first | refine jR ?_ | (refine jo ?_;first | refine aL F ?_ | refine av F ?_) | (refine aD F F (by first | rfl | (refine decide_eq_true ?_;(omega))) ?_) | refine d5 F F (fun _=>?_) (fun _=>?_) | refine ac F F ?_)
  all_goals refine jY (vs:=[_]) ?_
  all_goals rfl
 by_cases h2 : bt s 0 = 39
 case neg =>
  have e : cW s = false:=decide_eq_false fun x=>h2 x.2.1
  have h3 : ¬ bt s (Int.toNat 0) = 39:=h2
  rw [e]
  refine jE [(0,_)] Tryz.func107 Tryz.ntmps107 fun B hB=>?_
  repeat' (first | refine jM ?_ | (refine jo ?_;first | refine aL F ?_ | refine av F ?_) | refine aD F F (ay oM) ?_ | refine al F F (aC oM) ?_ | refine ac F F ?_)
  all_goals refine jY (vs:=[_]) ?_
  all_goals rfl
 have h3 : bt s (Int.toNat 0) = 39:=h2
 have h4 : (((s.length : Nat) : Int) - 1).toNat = s.length - 1:=oM
 by_cases h5 : bt s (s.length - 1) = 39
 case neg =>
  have e : cW s = false:=decide_eq_false fun x=>h5 x.2.2.1
  have h6 : ¬ bt s (((s.length : Nat) : Int) - 1).toNat = 39:=by rw [h4];exact h5
  rw [e]
  refine jE [(0,_)] Tryz.func107 Tryz.ntmps107 fun B hB=>?_
  repeat' (first | refine jM ?_ | (refine jo ?_;refine av F ?_) | refine al F F (aC oM) ?_ | refine ac F (ay oM) ?_)
  all_goals refine jY (vs:=[_]) ?_
  all_goals rfl
 have h6 : bt s (((s.length : Nat) : Int) - 1).toNat = 39:=by rw [h4];exact h5
 refine jE [(0,_)] Tryz.func107 Tryz.ntmps107 fun B hB=>?_
 repeat' (first | refine jM ?_ | (refine jo ?_;refine av F ?_) | refine al F F (aC oM) ?_ | refine ad F (aC oM) ?_)
 refine aR (ι:=Nat) (fun i=>(1 ≤ i ∧ i ≤ s.length - 1) ∧ ∀ k,k < i → k = 0 ∨ hO (bt s k)) (fun i=>[(0,S s),(3,I i)]) (fun _=>G) (fun i=>[]) (fun i=>s.length - i) 1 ?_ tU F aX (fun i Hi=>?_)
 ·exact ⟨⟨Nat.le_refl _,oM⟩,fun k hk=>.inl oM⟩
 by_cases hi : i < s.length - 1
 ·by_cases ht : hO (bt s i)
  ·have ht2 : hO (bt s ((i : Int).toNat)):=ht
   unfold hO at ht2
   repeat' (first | refine jM ?_ | (refine jo ?_;first | refine aL F ?_ | refine av F ?_) | (refine al F F (by first | rfl | (refine decide_eq_false ?_;(omega))) ?_) | refine d5 F F (fun _=>?_) (fun _=>?_) | refine ac F (ay oM) ?_ | (refine ad F (by first | rfl | (refine decide_eq_false ?_;(omega))) ?_))
   all_goals refine aW (i + 1) ⟨⟨oM,oM⟩,fun k hk=>?_⟩ oM tU F aX
   all_goals (rcases Nat.lt_or_ge k i with h7 | h7;· exact Hi.2 k h7)
   all_goals (have : k = i:=by omega)
   all_goals (subst this;exact .inr ht)
  ·have ht2 : ¬ hO (bt s ((i : Int).toNat)):=ht
   unfold hO at ht2
   have e : cW s = false:=decide_eq_false fun x=>(x.2.2.2 i hi).elim (fun h8=>by omega) ht
   rw [e]
   repeat' (first | refine jM ?_ | (refine jo ?_;first | refine aL F ?_ | refine av F ?_) | (refine aD F F (by first | rfl | (refine decide_eq_true ?_;(omega))) ?_) | refine d5 F F (fun _=>?_) (fun _=>?_) | (refine ac F (by first | rfl | (refine decide_eq_true ?_;(omega))) ?_))
   all_goals refine jY (vs:=[_]) ?_
   all_goals rfl
 ·have e : cW s = true:=decide_eq_true ⟨h1,h2,h5,fun k hk=>Hi.2 k oM⟩
  rw [e]
  repeat' (first | refine jM ?_ | refine ad F (aC oM) ?_)
  refine jY (vs:=[_]) ?_
  rfl
def dx (k : Nat) (acc : abL) : abL → List abL
 | []=>[acc]
 | c :: r=>if c.toNat = k then acc :: dx k [] r else dx k (acc ++ [c]) r
def a7 (k : Nat) (s : abL) : List abL:=dx k [] s
theorem sX {s : abL} {k : Nat} (h : s.length ≤ 100000000) : bQ abK 55 [S s,U8 k] G [] (fun v L'=>L' = [.acc v jv 1 (a7 k s).length (g6 (a7 k s))] ∧ p7 v (a7 k s).length):=by
 refine jH [(0,_),(1,_)] Tryz.func55 Tryz.ntmps55 fun B hB hW=>?_
 repeat' (first | refine jR ?_ | (refine jo ?_;refine jF fun _=>?_))
 rename_i x
 refine Nx.blkAcc (m:=0) (sz:=1) .here F ?_
 refine aR (ι:=Value × List abL × Nat × Nat) (fun i=>(i.2.2.1 ≤ i.2.2.2 ∧ i.2.2.2 ≤ s.length ∧ i.2.1.length ≤ i.2.2.2) ∧ i.2.1 ++ dx k ((s.take i.2.2.2).drop i.2.2.1) (s.drop i.2.2.2) = a7 k s) (fun i=>[(0,S s),(1,U8 k),(5,i.1),(6,I i.2.2.1),(7,I i.2.2.2)]) (fun _=>G) (fun i=>[.acc i.1 jv 1 i.2.1.length (g6 i.2.1)]) (fun i=>s.length - i.2.2.2) (.slice (some ⟨x,0,none⟩) 0 0,[],0,0) ?_ tU F aX (fun i Hi=>?_)
 ·exact ⟨⟨Nat.le_refl _,Nat.zero_le _,Nat.zero_le _⟩,F⟩
 obtain ⟨u,xs,fr,i⟩:=i
 dsimp only at Hi ⊢
 by_cases hi : i < s.length
 ·obtain ⟨c,hc1,hc2⟩:=fw hi
  have hn : s.drop i ≠ []:=by rw [hc1];simp
  have ht : (s.take (i + 1)).drop fr = (s.take i).drop fr ++ [c]:=by
   have e : s[i] = c:=by have:=List.getElem_cons_drop (h:=hi);rw [hc1] at this;exact (List.cons.inj this).1
   rw [List.take_succ_eq_append_getElem hi,e,List.drop_append_of_le_length (by simp;omega)]
  have hcut:=Hi.2
  rw [hc1,dx] at hcut
  by_cases hk : c.toNat = k
  ·have hk2 : bt s i = k:=oM
   rw [if_pos hk] at hcut
   repeat' (first | refine jM ?_ | (refine jo ?_;first | refine jF fun _=>?_ | refine mz F F F F F F F F oM fun _=>?_) | (refine ac F ?_ ?_;(focus ((first | (refine decide_eq_true ?_;(omega)) | (simp [*];done));done))))
   refine aW (_,xs ++ [(s.take i).drop fr],i + 1,i + 1) ⟨⟨by dsimp only;omega,by dsimp only;omega,by simp;omega⟩,?_⟩ (by dsimp only;omega) tU rfl (by dsimp only;simp only [i2,List.length_append,List.length_cons,List.length_nil,Nat.zero_add];repeat (first | exact List.nil_sublist _ | apply List.Sublist.cons_cons))
   have e0 : (s.take (i + 1)).drop (i + 1) = []:=by simp
   dsimp only;rw [e0,← hcut];simp
  ·have hk2 : ¬ bt s i = k:=oM
   rw [if_neg hk] at hcut
   repeat' (first | refine jM ?_ | refine ac F (ay oM) ?_ | (refine ad F ?_ ?_;(focus ((simp;omega);done))))
   refine aW (u,xs,fr,i + 1) ⟨⟨by dsimp only;omega,by dsimp only;omega,by dsimp only;omega⟩,?_⟩ (by dsimp only;omega) tU rfl aX
   dsimp only;rw [ht];exact hcut
 ·have e : a7 k s = xs ++ [s.drop fr]:=by
   have ei : i = s.length:=oM
   rw [← Hi.2,ei,List.take_length,List.drop_length];rfl
  repeat' (first | refine jM ?_ | (refine jo ?_;first | refine jF fun _=>?_ | refine mz F F F F F F F F oM fun _=>?_) | refine ad F (aC oM) ?_)
  refine Nx.shp (.head _) fun hsh=>aZ (vs:=[_]) F ⟨F,trivial⟩ F (List.Sublist.cons_cons _ (List.nil_sublist _)) ⟨F,?_,?_⟩
  ·rw [e,i2,List.length_append];rfl
  ·rw [e,List.length_append];exact hsh
def cO (n : Int) : abL → Option Int
 | []=>some n
 | c :: r=>if 48 ≤ c.toNat ∧ c.toNat ≤ 57 then cO (10 * n + ((c.toNat : Int) - 48)) r else none
def aM (s : abL) (top : Int) : Option Int :=
 if s.length ≤ 6 then
  match cO 0 s with
  | some n=>if s = br n ∧ n ≤ top then some n else none
  | none=>none
 else none
theorem vR (i : Nat) (hi : i ≤ 5) : (10 : Int) ^ (i + 1) = 10 * 10 ^ i ∧ (10 : Int) ^ i ≤ 100000 ∧ (0 : Int) < 10 ^ i:=by
 refine ⟨by rw [Int.pow_succ,Int.mul_comm],?_⟩
 rcases (show i = 0 ∨ i = 1 ∨ i = 2 ∨ i = 3 ∨ i = 4 ∨ i = 5 by omega) with rfl | rfl | rfl | rfl | rfl | rfl <;> decide
theorem gF {s : abL} {top : Int} (h : s.length ≤ 100000000) : am abK 56 [S s,I top] G (fun v=>∃ n,v = Tu [I n,Bo (aM s top).isSome] ∧ (∀ m,aM s top = some m → n = m)):=by
 refine jE [(0,_),(1,_)] Tryz.func56 Tryz.ntmps56 fun B hB=>?_
 repeat' (refine jR ?_)
 refine aR (ι:=Nat × Int) (fun i=>(i.1 ≤ s.length ∧ i.1 ≤ 6) ∧ (0 ≤ i.2 ∧ i.2 + 1 ≤ 10 ^ i.1) ∧ cO i.2 (s.drop i.1) = cO 0 s) (fun i=>[(0,S s),(1,I top),(6,I i.2),(7,I i.1)]) (fun _=>G) (fun i=>[]) (fun i=>s.length - i.1) (0,0) ?_ tU F aX (fun i Hi=>?_)
 ·exact ⟨⟨by dsimp only;omega,by dsimp only;omega⟩,⟨by dsimp only;omega,by dsimp only;decide⟩,rfl⟩
 obtain ⟨i,n⟩:=i
 dsimp only at Hi ⊢
 by_cases hi : i < s.length
 ·obtain ⟨c,hc1,hc2⟩:=fw hi
  have hc3 : bt s ((i : Int).toNat) = c.toNat:=hc2
  have hd:=Hi.2.2
  rw [hc1,cO] at hd
  by_cases h5 : i ≤ 5
  ·have hp:=vR i h5
   by_cases hdig : 48 ≤ c.toNat ∧ c.toNat ≤ 57
   ·rw [if_pos hdig] at hd
    repeat' (first | refine jM ?_ | (refine jo ?_;refine av F ?_) | refine al F F (aC oM) ?_ | refine ac F (ay oM) ?_ | refine ad F (aC oM) ?_)
    refine aW (i + 1,10 * n + ((c.toNat : Int) - 48)) ⟨⟨by dsimp only;omega,by dsimp only;omega⟩,⟨by dsimp only;omega,by dsimp only;rw [hp.1];omega⟩,hd⟩ (by dsimp only;omega) ?_ rfl aX
    rw [← hc2];repeat (first | exact trivial | refine ⟨F,?_⟩)
   ·rw [if_neg hdig] at hd
    have hno : aM s top = none:=by unfold aM;rw [← hd];split <;> rfl
    repeat' (first | refine jM ?_ | (refine jo ?_;first | refine aL F ?_ | refine av F ?_) | (refine aD F F (by first | rfl | (refine decide_eq_true ?_;(omega))) ?_) | refine d5 F F (fun _=>?_) (fun _=>?_) | (refine ac F (by first | rfl | (refine decide_eq_true ?_;(omega))) ?_))
    all_goals refine jY (vs:=[_,_]) ?_
    all_goals exact ⟨_,by rw [hno];rfl,fun m hm=>by rw [hno] at hm;cases hm⟩
  ·have hno : aM s top = none:=by unfold aM;rw [if_neg oM]
   have e6 : i = 6:=oM
   subst e6
   repeat' (first | refine jM ?_ | (refine jo ?_;first | refine aL F ?_ | refine av F ?_) | refine aD F F F ?_ | refine d5 F F (fun _=>?_) (fun _=>?_) | (refine ac F (by first | rfl | (refine decide_eq_true ?_;(omega))) ?_))
   all_goals refine jY (vs:=[_,_]) ?_
   all_goals exact ⟨_,by rw [hno];rfl,fun m hm=>by rw [hno] at hm;cases hm⟩
 ·have ei : i = s.length:=oM
  have hd:=Hi.2.2
  rw [ei,List.drop_length,cO] at hd
  have hp : n ≤ 9223372036854775807:=by
   rcases Nat.lt_or_ge i 6 with h1 | h1
   ·have:=vR i oM;omega
   ·have e6 : i = 6:=oM
    subst e6
    have:=Hi.2.1.2
    have e : (10 : Int) ^ 6 = 1000000:=by decide
    omega
  have hno : aM s top = if s = br n ∧ n ≤ top then some n else none:=by unfold aM;rw [if_pos oM,← hd]
  repeat' (first | refine jR ?_ | (refine jo ?_;first | refine aL F ?_ | refine av F ?_ | refine ab F F F (fz oM) F ?_) | refine d5 F F (fun _=>?_) (fun _=>?_) | refine ad F (aC oM) ?_)
  ·rename_i hs
   refine jY (vs:=[_,_]) ?_
   refine ⟨n,?_,fun m hm=>?_⟩
   ·rw [hno,dD]
    by_cases ht : n ≤ top
    ·rw [if_pos ⟨hs,ht⟩,decide_eq_true ht];rfl
    ·rw [if_neg (fun h=>ht h.2),decide_eq_false ht];rfl
   ·rw [hno] at hm
    split at hm
    ·exact Option.some.inj hm
    ·cases hm
  ·rename_i hs
   refine jY (vs:=[_,_]) ?_
   refine ⟨n,by rw [hno,if_neg (fun h=>hs h.1)];rfl,fun m hm=>?_⟩
   rw [hno,if_neg (fun h=>hs h.1)] at hm;cases hm
def bG (k s : abL) : Bool :=
 if k = [110] then (aM s 999999).isSome && decide (s ≠ [48])
 else if k = [116] then cW s && decide (s ≠ [39,39])
 else if k = [102] then decide (s = [121,101,115])
 else false
theorem vi {k s : abL} (h : s.length ≤ 100000000) : am abK 178 [S k,S s] G (· = Bo (bG k s)):=by
 by_cases h1 : k = [110]
 ·have e : bG k s = ((aM s 999999).isSome && decide (s ≠ [48])):=by rw [bG,if_pos h1]
  rw [e]
  refine jE [(0,_),(1,_)] Tryz.func178 Tryz.ntmps178 fun B hB=>?_
  repeat' (first | refine jR ?_ | (refine jo ?_;first | refine aL F ?_ | refine av F ?_ | (refine cn F F F (gF oM) F ?_;rintro _ ⟨n,rfl,hnum⟩)) | refine kG F F (fun _=>?_) (fun _=>?_) | refine ac F (ay ‹_›) ?_)
  all_goals refine jY (vs:=[_]) ?_
  all_goals (rw [ar];simp [*])
 by_cases h2 : k = [116]
 ·have e : bG k s = (cW s && decide (s ≠ [39,39])):=by rw [bG,if_neg h1,if_pos h2]
  rw [e]
  refine jE [(0,_),(1,_)] Tryz.func178 Tryz.ntmps178 fun B hB=>?_
  repeat' (first | refine jR ?_ | (refine jo ?_;first | refine aL F ?_ | refine av F ?_ | refine ab F F F (eJ ‹_›) F ?_) | refine d5 F F (fun _=>?_) (fun _=>?_) | refine ac F (ay ‹_›) ?_ | refine ad F (aC ‹_›) ?_)
  all_goals refine jY (vs:=[_]) ?_
  all_goals (rw [ar];simp [*,cW])
 by_cases h3 : k = [102]
 ·have e : bG k s = decide (s = [121,101,115]):=by rw [bG,if_neg h1,if_neg h2,if_pos h3]
  rw [e]
  refine jE [(0,_),(1,_)] Tryz.func178 Tryz.ntmps178 fun B hB=>?_
  repeat' (first | refine jR ?_ | refine ac F (ay ‹_›) ?_ | refine ad F (aC ‹_›) ?_)
  all_goals refine jY (vs:=[_]) ?_
  all_goals rfl
 ·have e : bG k s = false:=by rw [bG,if_neg h1,if_neg h2,if_neg h3]
  rw [e]
  refine jE [(0,_),(1,_)] Tryz.func178 Tryz.ntmps178 fun B hB=>?_
  repeat' (first | refine jR ?_ | refine ad F (aC ‹_›) ?_)
  all_goals refine jY (vs:=[_]) ?_
  all_goals rfl
structure Fld where
 tag : Int
 name : abL
 kind : abL
 stand : abL
deriving Inhabited
def gB (f : Fld) : List Value:=[I f.tag,S f.name,S f.kind,S f.stand]
instance : RowF gB 4:=⟨fun _=>rfl⟩
def bK (s : abL) (k : Nat) : Option Fld :=
 match a7 58 s with
 | [a,b]=>if k = 69 then
   match aM a 200 with
   | some n=>if 1 ≤ n ∧ b5 b = true then some ⟨n,b,[],[]⟩ else none
   | none=>none
  else none
 | [a,b,c]=>if k = 69 then none else
   match aM a 200 with
   | some n=>if 1 ≤ n ∧ b5 b = true then
     match a7 61 c with
     | [d]=>if bz d = true then some ⟨n,b,d,[]⟩ else none
     | [d,e]=>if k = 82 ∧ bG d e = true then some ⟨n,b,d,e⟩ else none
     | _=>none
    else none
   | none=>none
 | _=>none
theorem ns {k : Nat} : ∀ {s acc : abL} {x : abL},x ∈ dx k acc s → x.length ≤ acc.length + s.length
 | [],acc,x,h=>by simp [dx] at h;subst h;simp
 | c :: r,acc,x,h=>by
  unfold dx at h
  split at h
  ·rcases List.mem_cons.1 h with rfl | h
   ·simp
   ·have:=ns h;simp at this ⊢;omega
  ·have:=ns h;simp at this ⊢;omega
theorem c8 {k : Nat} {s x : abL} (h : x ∈ a7 k s) : x.length ≤ s.length:=by have:=ns h;simpa using this
theorem nx {k : Nat} : ∀ {s acc : abL},0 < (dx k acc s).length
 | [],acc=>by simp [dx]
 | c :: r,acc=>by
  unfold dx
  split
  ·simp
  ·exact nx
theorem dH {k : Nat} {s : abL} : 0 < (a7 k s).length:=nx
theorem g8 {k : Nat} : ∀ {s acc : abL},(dx k acc s).length ≤ s.length + 1
 | [],acc=>by simp [dx]
 | c :: r,acc=>by
  unfold dx
  split
  ·have:=g8 (k:=k) (s:=r) (acc:=[]);simp;omega
  ·have:=g8 (k:=k) (s:=r) (acc:=acc ++ [c]);simp;omega
theorem jk {k : Nat} {s : abL} : (a7 k s).length ≤ s.length + 1:=g8
def aF (k : Nat) : abL → abL × abL × Bool
 | []=>([],[],false)
 | c :: r=>if c.toNat = k then ([],r,true) else (c :: (aF k r).1,(aF k r).2.1,(aF k r).2.2)
theorem dJ (c : UInt8) (r : abL) (i : Nat) : bt (c :: r) (i + 1) = bt r i:=by simp [bt,List.getD]
theorem be (c : UInt8) (r : abL) : bt (c :: r) 0 = c.toNat:=by simp [bt,List.getD]
theorem pi {k : Nat} : ∀ {s : abL},(∀ j,j < s.length → bt s j ≠ k) → aF k s = (s,[],false)
 | [],_=>rfl
 | c :: r,h=>by
  have h0:=h 0 (by simp)
  rw [be] at h0
  have ih:=pi (k:=k) (s:=r) fun j hj=>by have:=h (j + 1) (by simpa using hj);rwa [dJ] at this
  rw [aF,if_neg h0,ih]
theorem mq {k : Nat} : ∀ {s : abL} {i : Nat},i < s.length → (∀ j,j < i → bt s j ≠ k) → bt s i = k → aF k s = (s.take i,s.drop (i + 1),true)
 | [],i,h,_,_=>by simp at h
 | c :: r,0,_,_,h=>by rw [be] at h;rw [aF,if_pos h];rfl
 | c :: r,i + 1,hl,h,hi=>by
  have h0:=h 0 oM
  rw [be] at h0
  rw [dJ] at hi
  have ih:=mq (k:=k) (s:=r) (i:=i) (by simpa using hl) (fun j hj=>by have:=h (j + 1) oM;rwa [dJ] at this) hi
  rw [aF,if_neg h0,ih];rfl
structure Ty where
 sort : Nat
 name : abL
 fields : List Fld
deriving Inhabited
def fresh (f : Fld) (fs : List Fld) : Bool:=fs.all fun g=>decide (g.tag < f.tag ∧ g.name ≠ f.name)
def cK (k : Nat) : List abL → List Fld → Option (List Fld)
 | [],fs=>some fs
 | x :: xs,fs=>match bK x k with
  | none=>none
  | some f=>if fresh f fs = true then cK k xs (fs ++ [f]) else none
def dV (k : Nat) : Prop:=k = 82 ∨ k = 85 ∨ k = 69
instance (k : Nat) : Decidable (dV k):=inferInstanceAs (Decidable (_ ∨ _ ∨ _))
def cR : abL → Option Ty
 | []=>none
 | c :: r=>match aF 61 r with
  | (name,rest,true)=>if b5 name = true ∧ dV c.toNat then
    if rest = [] then (if c.toNat = 82 then some ⟨82,name,[]⟩ else none)
    else match cK c.toNat (a7 44 rest) [] with
     | some fs=>if fs.length ≤ 8 then some ⟨c.toNat,name,fs⟩ else none
     | none=>none
   else none
  | _=>none
def bE : abL → Option abL
 | []=>none
 | c :: r=>if c.toNat = 64 then some (r.take (r.length - 1)) else none
def gj (ts : List Ty) (name : abL) : Option Ty:=ts.find? fun t=>decide (t.name = name)
def aV (ts : List Ty) (k : abL) : Option Ty:=(bE k).bind (gj ts)
def fp (t : Ty) : abL:=(t.fields.headD default).kind
def bO (ts : List Ty) : Nat → Ty → Bool
 | 0,_=>false
 | n + 1,t=>if t.sort ≠ 85 then true else match aV ts (fp t) with
  | none=>true
  | some u=>bO ts n u
def dY (ts : List Ty) (k : abL) : Bool:=match bE (bm k) with
 | none=>true
 | some n=>(gj ts n).isSome
def kf (ts : List Ty) (i : Nat) : Prop:=∀ k,k < i → (ae ts k).name ≠ (ae ts i).name
def gJ (ts : List Ty) (t : Ty) : Prop:=t.sort = 69 ∨ ∀ j,j < t.fields.length → dY ts (ae t.fields j).kind = true
def gX (ts : List Ty) : Prop:=(∀ i,i < ts.length → kf ts i ∧ gJ ts (ae ts i)) ∧ ∀ i,i < ts.length → bO ts (ts.length + 1) (ae ts i) = true
instance (ts : List Ty) (i : Nat) : Decidable (kf ts i):=inferInstanceAs (Decidable (∀ k,k < i → _))
instance (ts : List Ty) (t : Ty) : Decidable (gJ ts t):=inferInstanceAs (Decidable (_ ∨ ∀ j,j < t.fields.length → _))
instance (ts : List Ty) : Decidable (gX ts):=inferInstanceAs (Decidable ((∀ i,i < ts.length → _) ∧ ∀ i,i < ts.length → _))
def bR : List abL → Option (List Ty)
 | []=>some []
 | x :: xs=>match cR x with
  | none=>none
  | some t=>(bR xs).map (t :: ·)
def aN (s : abL) : Option (List Ty) :=
 if s.length ≤ 400 ∧ (a7 10 s).length ≤ 9 ∧ (a7 10 s).getLastD [] = [] then
  match bR (a7 10 s).dropLast with
  | some ts=>if gX ts then some ts else none
  | none=>none
 else none
structure FldW (k : Nat) (f : Fld) : Prop where
 tag : 1 ≤ f.tag ∧ f.tag ≤ 200
 name : b5 f.name = true
 kind : k ≠ 69 → bz f.kind = true
 enm : k = 69 → f.kind = [] ∧ f.stand = []
 stand : f.stand ≠ [] → k = 82 ∧ bG f.kind f.stand = true
theorem dW {s : abL} {top n : Int} (h : aM s top = some n) : n ≤ top ∧ s = br n ∧ s.length ≤ 6:=by
 unfold aM at h
 split at h
 ·split at h
  ·split at h
   ·rename_i h1 _ _ _ h2;simp only [Option.some.injEq] at h;subst h;exact ⟨h2.2,h2.1,h1⟩
   ·cases h
  ·cases h
 ·cases h
theorem lv {k s : abL} (h : bG k s = true) : bz k = true:=by
 unfold bG at h
 split at h
 ·subst_vars;decide
 ·split at h
  ·subst_vars;decide
  ·split at h
   ·subst_vars;decide
   ·cases h
theorem xH {s : abL} {k : Nat} {f : Fld} (h : bK s k = some f) : FldW k f:=by
 unfold bK at h
 split at h
 ·split at h
  ·rename_i hk
   split at h
   ·rename_i n hn
    split at h
    ·rename_i hg
     simp only [Option.some.injEq] at h;subst h
     exact ⟨⟨hg.1,(dW hn).1⟩,hg.2,fun h=>absurd hk h,fun _=>⟨F,F⟩,fun h=>absurd F h⟩
    ·cases h
   ·cases h
  ·cases h
 ·split at h
  ·cases h
  ·rename_i hk
   split at h
   ·rename_i n hn
    split at h
    ·rename_i hg
     split at h
     ·split at h
      ·rename_i hd
       simp only [Option.some.injEq] at h;subst h
       exact ⟨⟨hg.1,(dW hn).1⟩,hg.2,fun _=>hd,fun h=>absurd h hk,fun h=>absurd F h⟩
      ·cases h
     ·split at h
      ·rename_i hd
       simp only [Option.some.injEq] at h;subst h
       exact ⟨⟨hg.1,(dW hn).1⟩,hg.2,fun _=>lv hd.2,fun h=>absurd h hk,fun _=>hd⟩
      ·cases h
     ·cases h
    ·cases h
   ·cases h
 ·cases h
structure TyW (t : Ty) : Prop where
 sort : dV t.sort
 name : b5 t.name = true
 ne : t.sort ≠ 82 → t.fields ≠ []
 len : t.fields.length ≤ 8
 fld : ∀ f ∈ t.fields,FldW t.sort f
 asc : t.fields.Pairwise fun g f=>g.tag < f.tag ∧ g.name ≠ f.name
theorem ou {k : Nat} : ∀ {xs : List abL} {fs gs : List Fld},cK k xs fs = some gs → (∀ f ∈ fs,FldW k f) → fs.Pairwise (fun g f=>g.tag < f.tag ∧ g.name ≠ f.name) →
  (∀ f ∈ gs,FldW k f) ∧ gs.Pairwise (fun g f=>g.tag < f.tag ∧ g.name ≠ f.name) ∧ gs.length = fs.length + xs.length
 | [],fs,gs,h,h1,h2=>by
  simp only [cK,Option.some.injEq] at h;subst h;exact ⟨h1,h2,by simp⟩
 | x :: xs,fs,gs,h,h1,h2=>by
  unfold cK at h
  split at h
  ·cases h
  ·rename_i f hf
   split at h
   ·rename_i hfr
    simp only [fresh,List.all_eq_true,decide_eq_true_eq] at hfr
    have:=ou h (fun g hg=>by
     rcases List.mem_append.1 hg with hg | hg
     ·exact h1 g hg
     ·simp only [List.mem_singleton] at hg;subst hg;exact xH hf) (List.pairwise_append.2 ⟨h2,by simp,fun a ha b hb=>by
      simp only [List.mem_singleton] at hb;subst hb;exact hfr a ha⟩)
    refine ⟨this.1,this.2.1,?_⟩
    rw [this.2.2];simp;omega
   ·cases h
theorem yn {s : abL} {t : Ty} (h : cR s = some t) : TyW t:=by
 unfold cR at h
 split at h
 ·cases h
 ·split at h
  ·split at h
   ·rename_i hn
    split at h
    ·split at h
     ·simp only [Option.some.injEq] at h;subst h
      exact ⟨.inl F,hn.1,fun h=>absurd F h,by simp,by simp,by simp⟩
     ·cases h
    ·split at h
     ·rename_i fs hfs
      split at h
      ·rename_i hl
       simp only [Option.some.injEq] at h;subst h
       have hw:=ou hfs (by simp) (by simp)
       refine ⟨hn.2,hn.1,fun _ h0=>?_,hl,hw.1,hw.2.1⟩
       have:=hw.2.2
       dsimp only at h0
       rw [h0] at this
       have:=dH (k:=44) (s:=‹abL›)
       simp at *;omega
      ·cases h
     ·cases h
   ·cases h
  ·cases h
theorem gO : ∀ {xs : List abL} {ts : List Ty},bR xs = some ts → (∀ t ∈ ts,TyW t) ∧ ts.length = xs.length
 | [],ts,h=>by simp only [bR,Option.some.injEq] at h;subst h;simp
 | x :: xs,ts,h=>by
  unfold bR at h
  split at h
  ·cases h
  ·rename_i t ht
   cases hr : bR xs with
   | none=>rw [hr] at h;cases h
   | some us =>
    rw [hr] at h
    simp only [Option.map_some,Option.some.injEq] at h;subst h
    have:=gO hr
    exact ⟨fun u hu=>by rcases List.mem_cons.1 hu with rfl | hu;exact yn ht;exact this.1 u hu,by simp [this.2]⟩
structure SchW (ts : List Ty) : Prop where
 ty : ∀ t ∈ ts,TyW t
 len : ts.length ≤ 8
 valid : gX ts
theorem cU {s : abL} {ts : List Ty} (h : aN s = some ts) : SchW ts:=by
 unfold aN at h
 split at h
 ·rename_i hc
  split at h
  ·rename_i us hus
   split at h
   ·rename_i hv
    simp only [Option.some.injEq] at h;subst h
    have:=gO hus
    exact ⟨this.1,by rw [this.2,List.length_dropLast];omega,hv⟩
   ·cases h
  ·cases h
 ·cases h
def aP (ts : List Ty) (k : abL) : Bool:=bz k && dY ts k
theorem uR {ts : List Ty} {n : abL} {t : Ty} (h : gj ts n = some t) : t ∈ ts:=List.mem_of_find?_eq_some h
theorem cS {ts : List Ty} {k : abL} {t : Ty} (h : aV ts k = some t) : t ∈ ts:=by
 unfold aV at h
 cases hr : bE k with
 | none=>rw [hr] at h;cases h
 | some n=>rw [hr] at h;exact uR h
theorem kS (ts : List Ty) : ∀ (k : Nat) (t : Ty),bO ts k t = true → bO ts (k + 1) t = true
 | 0,t,h=>by cases h
 | k + 1,t,h=>by
  unfold bO at h ⊢
  split
  ·rfl
  ·rename_i hs
   rw [if_neg hs] at h
   cases hr : aV ts (fp t) with
   | none=>rfl
   | some u=>rw [hr] at h;exact kS ts k u h
def d9 (ts : List Ty) (k : Nat) : Prop:=∀ t ∈ ts,bO ts (k + 1) t = bO ts k t
theorem mF {ts : List Ty} {k : Nat} (h : d9 ts k) : d9 ts (k + 1):=by
 intro t ht
 rw [bO,bO]
 split
 ·rfl
 ·cases hr : aV ts (fp t) with
  | none=>rfl
  | some u=>exact h u (cS hr)
theorem nM {ts : List Ty} {k : Nat} (h : d9 ts k) : ∀ (m : Nat) (t : Ty),t ∈ ts → bO ts (k + m) t = bO ts k t:=by
 have hs : ∀ m,d9 ts (k + m):=fun m=>by
  induction m with
  | zero=>exact h
  | succ m ih=>exact mF ih
 intro m t ht
 induction m with
 | zero=>rfl
 | succ m ih=>rw [← ih];exact hs m t ht
theorem q8 {α : Type} {p q : α → Bool} : ∀ {l : List α},(∀ x ∈ l,p x = true → q x = true) → (∃ x ∈ l,q x = true ∧ p x = false) → l.countP p < l.countP q
 | [],_,h=>by obtain ⟨x,hx,_⟩:=h;cases hx
 | a :: l,h1,h2=>by
  have hle : ∀ l : List α,(∀ x ∈ l,p x = true → q x = true) → l.countP p ≤ l.countP q:=fun l h=>List.countP_mono_left h
  rw [List.countP_cons,List.countP_cons]
  have h3:=hle l fun x hx=>h1 x (List.mem_cons_of_mem _ hx)
  obtain ⟨x,hx,h4,h5⟩:=h2
  rcases List.mem_cons.1 hx with rfl | hx
  ·simp [h4,h5];omega
  ·have h6:=q8 (fun x hx=>h1 x (List.mem_cons_of_mem _ hx)) ⟨x,hx,h4,h5⟩
   by_cases hp : p a = true
   ·simp [hp,h1 a (List.mem_cons_self ..) hp];exact h6
   ·simp [hp];split <;> omega
theorem mB {ts : List Ty} {k : Nat} (h : ¬ d9 ts k) : ts.countP (bO ts k) < ts.countP (bO ts (k + 1)):=by
 refine q8 (fun x _=>kS ts k x) ?_
 unfold d9 at h
 simp only [Classical.not_forall] at h
 obtain ⟨t,ht,hne⟩:=h
 refine ⟨t,ht,?_⟩
 cases h1 : bO ts k t with
 | false =>
  refine ⟨?_,F⟩
  cases h2 : bO ts (k + 1) t with
  | false=>rw [h1,h2] at hne;exact absurd F hne
  | true=>rfl
 | true=>rw [kS ts k t h1,h1] at hne;exact absurd F hne
theorem up (ts : List Ty) (k : Nat) : d9 ts k ∨ k + 1 ≤ ts.countP (bO ts (k + 1)):=by
 induction k with
 | zero =>
  by_cases h : d9 ts 0
  ·exact .inl h
  ·have:=mB h;exact .inr oM
 | succ k ih =>
  by_cases h : d9 ts (k + 1)
  ·exact .inl h
  ·have:=mB h
   rcases ih with h3 | h3
   ·exact absurd (mF h3) h
   ·exact .inr oM
theorem xI {ts : List Ty} {t : Ty} (hl : ts.length ≤ 8) (ht : t ∈ ts) : bO ts 9 t = bO ts (ts.length + 1) t:=by
 have hs : d9 ts ts.length:=by
  rcases up ts ts.length with h | h
  ·exact h
  ·have:=List.countP_le_length (p:=bO ts (ts.length + 1)) (l:=ts)
   omega
 have h1:=nM hs (9 - ts.length) t ht
 have h2:=nM hs 1 t ht
 rw [show ts.length + (9 - ts.length) = 9 by omega] at h1
 rw [h1,h2]
def eU (k : Nat) (s : abL) : Int:=if (aF k s).2.2 = true then ((aF k s).1.length : Int) else -1
theorem f3 {k : Nat} : ∀ {s a b : abL},aF k s = (a,b,true) → ∃ c : UInt8,c.toNat = k ∧ s = a ++ c :: b
 | [],a,b,h=>by simp [aF] at h
 | c :: r,a,b,h=>by
  unfold aF at h
  split at h
  ·rename_i hc
   simp only [Prod.mk.injEq,and_true] at h
   obtain ⟨rfl,rfl⟩:=h
   exact ⟨c,hc,F⟩
  ·simp only [Prod.mk.injEq] at h
   obtain ⟨rfl,h2,h3⟩:=h
   obtain ⟨d,hd,hr⟩:=f3 (k:=k) (s:=r) (a:=(aF k r).1) (b:=b) (by rw [← h2,← h3])
   exact ⟨d,hd,by rw [List.cons_append,← hr]⟩
theorem eC {k : Nat} : ∀ {s : abL},(aF k s).2.2 = false → aF k s = (s,[],false)
 | [],h=>rfl
 | c :: r,h=>by
  unfold aF at h ⊢
  split at h
  ·cases h
  ·rename_i hc
   rw [if_neg hc,eC (s:=r) h]
theorem iP {k : Nat} {s : abL} : (aF k s).1.length ≤ s.length ∧ (aF k s).2.1.length ≤ s.length:=by
 cases h : (aF k s).2.2 with
 | false=>rw [eC h];simp
 | true =>
  obtain ⟨c,_,e⟩:=f3 (k:=k) (s:=s) (a:=(aF k s).1) (b:=(aF k s).2.1) (by rw [← h])
  have:=congrArg List.length e
  simp at this
  omega
theorem o7 (s : abL) (c : UInt8) : Lib.indexByte s c = eU c.toNat s:=by
 induction s with
 | nil=>rfl
 | cons b r ih =>
  unfold Lib.indexByte
  by_cases hb : b = c
  ·subst hb;simp [eU,aF]
  ·have hb2 : ¬ b.toNat = c.toNat:=fun h=>hb (UInt8.toNat_inj.1 h)
   have hb3 : (b == c) = false:=by simpa using hb
   rw [hb3,ih]
   unfold eU
   rw [aF,if_neg hb2]
   dsimp only
   cases (aF c.toNat r).2.2 <;> simp
theorem rB {s : abL} {c : UInt8} : am abK 191 [S s,U8 c.toNat] G (· = I (eU c.toNat s)):=by
 have hx : ∀ w,(callFunc 198 [S s,U8 c.toNat].toArray).run abK w = .ok (.value (I (eU c.toNat s))) w:=fun w=>by
  rw [run_callFunc_extern Tryz.func198 kR kR kR (e:=Extern.BytealgIndexByte.indexByte) kR]
  have:=Lib.run_indexByteString (P:=abK) ⟨s.toArray⟩ (c.toNat : Int) w
  rw [this]
  simp only [Result.andThen]
  rw [o7]
  simp
 refine jE [(0,_),(1,_)] Tryz.func191 Tryz.ntmps191 fun B hB=>?_
 repeat' (refine jR ?_)
 refine tB F (kh (nj F F F hx) F F ?_)
 repeat' (refine jR ?_)
 refine jY (vs:=[_]) ?_
 rfl
theorem uD (c : UInt8) : eU c.toNat [c] = 0:=by simp [eU,aF]
theorem rA {s : abL} {c : UInt8} : am abK 179 [S s,S [c]] G (· = I (eU c.toNat s)):=by
 have e0 : ((bt [c] (Int.toNat 0) : Nat) : Int) = c.toNat:=by rw [show Int.toNat 0 = 0 from rfl,be]
 by_cases hs : [c] = s
 ·subst hs
  rw [uD]
  refine jE [(0,_),(1,_)] Tryz.func179 Tryz.ntmps179 fun B hB=>?_
  repeat' (first | refine jR ?_ | (refine jo ?_;refine av F ?_) | refine al F F F ?_ | refine ac F (ay F) ?_)
  all_goals refine jY (vs:=[_]) ?_
  all_goals rfl
 ·have cx_ib : am abK 191 [S s,U8 (bt [c] (Int.toNat 0))] G (· = I (eU c.toNat s)):=by rw [show (bt [c] (Int.toNat 0)) = c.toNat from be c []];exact rB
  refine jE [(0,_),(1,_)] Tryz.func179 Tryz.ntmps179 fun B hB=>?_
  repeat' (first | refine jX ?_ | (refine jo ?_;first | refine av F ?_ | refine ab F F F cx_ib F ?_) | refine al F F F ?_ | refine ac F F ?_ | refine ad F (aC ‹_›) ?_)
  all_goals refine jY (vs:=[_]) ?_
  all_goals rfl
theorem s5 {s : abL} {c : UInt8} : am abK 170 [S s,S [c]] G (· = I (eU c.toNat s)):=by
 refine jE [(0,_),(1,_)] Tryz.func170 Tryz.ntmps170 fun B hB=>?_
 repeat' (first | refine jR ?_ | (refine jo ?_;refine ab F F F rA F ?_))
 refine jY (vs:=[_]) ?_
 rfl
theorem oi (k : Nat) (s : abL) : (eU k s = -1 ∧ aF k s = (s,[],false)) ∨ ∃ i : Nat,eU k s = i ∧ i < s.length ∧ aF k s = (s.take i,s.drop (i + 1),true):=by
 cases h : (aF k s).2.2 with
 | false=>exact .inl ⟨by simp [eU,h],eC h⟩
 | true =>
  obtain ⟨c,_,e⟩:=f3 (k:=k) (s:=s) (a:=(aF k s).1) (b:=(aF k s).2.1) (by rw [← h])
  have h5 : aF k s = ((aF k s).1,(aF k s).2.1,true):=by rw [← h]
  have h6 : eU k s = ((aF k s).1.length : Int):=by simp [eU,h]
  generalize (aF k s).1 = a at *
  generalize (aF k s).2.1 = b at *
  refine .inr ⟨a.length,h6,?_,?_⟩
  ·have:=congrArg List.length e
   simp at this
   omega
  ·rw [h5,e];simp
theorem z0 {s : abL} {c : UInt8} (h : s.length ≤ 9000000000000000000) : am abK 154 [S s,S [c]] G (· = Tu [S (aF c.toNat s).1,S (aF c.toNat s).2.1,Bo (aF c.toNat s).2.2]):=by
 have hix:=rA (G:=G) (s:=s) (c:=c)
 rcases oi c.toNat s with ⟨h1,h2⟩ | ⟨i,h1,h3,h2⟩
 ·rw [h2]
  have cx_ix : am abK 179 [S s,S [c]] G (· = I (-1)):=by rwa [h1] at hix
  refine jE [(0,_),(1,_)] Tryz.func154 Tryz.ntmps154 fun B hB=>?_
  repeat' (first | refine jR ?_ | (refine jo ?_;refine ab F F F cx_ix F ?_) | refine ad F F ?_)
  all_goals refine jY (vs:=[_,_,_]) ?_
  all_goals rfl
 ·rw [h2]
  have cx_ix : am abK 179 [S s,S [c]] G (· = I (i : Int)):=by rwa [h1] at hix
  have e2 : ((i : Int) + (([c] : abL).length : Nat)).toNat = i + 1:=by simp only [List.length_cons,List.length_nil];omega
  refine jE [(0,_),(1,_)] Tryz.func154 Tryz.ntmps154 fun B hB=>?_
  repeat' (first | refine jR ?_ | (refine jo ?_;refine ab F F F cx_ix F ?_) | refine ac F F ?_ | (refine ai (an (id:=3) _ (fun _ h=>h) ah ?_);refine jW 0 [0,1,2,3,4,5,6,7,8,9,10,11] (aa 12 4095) ?_;refine jQ ?_))
  all_goals refine jY (vs:=[_,_,_]) ?_
  all_goals (rfl)
theorem oO {s : abL} {c : UInt8} (h : s.length ≤ 9000000000000000000) : am abK 116 [S s,S [c]] G (· = Tu [S (aF c.toNat s).1,S (aF c.toNat s).2.1,Bo (aF c.toNat s).2.2]):=by
 refine jE [(0,_),(1,_)] Tryz.func116 Tryz.ntmps116 fun B hB=>?_
 repeat' (first | refine jR ?_ | (refine jo ?_;refine ab F F F (z0 oM) F ?_))
 all_goals refine jY (vs:=[_,_,_]) ?_
 all_goals rfl
theorem t3 {s : abL} {c : UInt8} : am abK 155 [S s,S [c]] G (· = Bo (decide (0 ≤ eU c.toNat s))):=by
 refine jE [(0,_),(1,_)] Tryz.func155 Tryz.ntmps155 fun B hB=>?_
 repeat' (first | refine jR ?_ | (refine jo ?_;refine ab F F F s5 F ?_))
 all_goals refine jY (vs:=[_]) ?_
 all_goals rfl
def eW (k : Nat) (s : abL) : Prop:=∀ c ∈ s,c.toNat ≠ k
def aQ (c : UInt8) : List abL → abL
 | []=>[]
 | [x]=>x
 | x :: y :: r=>x ++ c :: aQ c (y :: r)
theorem kL (c : UInt8) (x : abL) {xs : List abL} (h : xs ≠ []) : aQ c (x :: xs) = x ++ c :: aQ c xs:=by
 cases xs with
 | nil=>exact absurd F h
 | cons y r=>rfl
theorem jl {c : UInt8} : ∀ {s acc : abL},eW c.toNat acc → aQ c (dx c.toNat acc s) = acc ++ s ∧ ∀ x ∈ dx c.toNat acc s,eW c.toNat x
 | [],acc,h=>by simp [dx,aQ];exact h
 | d :: r,acc,h=>by
  unfold dx
  split
  ·rename_i hd
   have hd : d = c:=UInt8.toNat_inj.1 hd
   subst hd
   have ih:=jl (c:=d) (s:=r) (acc:=[]) (by intro x hx;cases hx)
   have hp : dx d.toNat [] r ≠ []:=fun e=>by have:=nx (k:=d.toNat) (s:=r) (acc:=[]);rw [e] at this;simp at this
   refine ⟨by rw [kL d acc hp,ih.1];rfl,fun x hx=>?_⟩
   rcases List.mem_cons.1 hx with rfl | hx
   ·exact h
   ·exact ih.2 x hx
  ·rename_i hd
   have ih:=jl (c:=c) (s:=r) (acc:=acc ++ [d]) (by
    intro x hx
    rcases List.mem_append.1 hx with hx | hx
    ·exact h x hx
    ·simp only [List.mem_singleton] at hx;subst hx;exact hd)
   exact ⟨by rw [ih.1];simp,ih.2⟩
theorem nu (c : UInt8) (s : abL) : aQ c (a7 c.toNat s) = s:=by have:=(jl (c:=c) (s:=s) (acc:=[]) (by intro x hx;cases hx)).1;simpa [a7] using this
theorem xL {c : UInt8} {s x : abL} (h : x ∈ a7 c.toNat s) : eW c.toNat x:=(jl (c:=c) (s:=s) (acc:=[]) (by intro x hx;cases hx)).2 x h
theorem nw {k : Nat} : ∀ {s acc t : abL},eW k s → dx k acc (s ++ t) = dx k (acc ++ s) t
 | [],acc,t,_=>by simp
 | d :: r,acc,t,h=>by
  rw [List.cons_append,dx,if_neg (h d (by simp)),nw (fun c hc=>h c (by simp [hc]))];simp
theorem oA {k : Nat} {s : abL} (h : eW k s) : a7 k s = [s]:=by
 have:=nw (k:=k) (s:=s) (acc:=[]) (t:=[]) h
 simpa [a7,dx] using this
theorem ph {k : Nat} {s t : abL} {c : UInt8} (h : eW k s) (hc : c.toNat = k) : a7 k (s ++ c :: t) = s :: a7 k t:=by
 unfold a7
 rw [nw h,dx,if_pos hc];rfl
theorem ni {c : UInt8} : ∀ {xs : List abL},xs ≠ [] → (∀ x ∈ xs,eW c.toNat x) → a7 c.toNat (aQ c xs) = xs
 | [],h,_=>absurd rfl h
 | [x],_,h=>oA (h x (by simp))
 | x :: y :: r,_,h=>by
  rw [aQ,ph (h x (by simp)) rfl,ni (by simp) fun z hz=>h z (by simp at hz ⊢;exact .inr hz)]
theorem wa {k : Nat} {s t : abL} {c : UInt8} (h : eW k s) (hc : c.toNat = k) : aF k (s ++ c :: t) = (s,t,true):=by
 induction s with
 | nil=>rw [List.nil_append,aF,if_pos hc]
 | cons d r ih=>rw [List.cons_append,aF,if_neg (h d (by simp)),ih fun x hx=>h x (by simp [hx])]
theorem q7 {k : Nat} {s : abL} (h : eW k s) : aF k s = (s,[],false):=by
 induction s with
 | nil=>rfl
 | cons d r ih=>rw [aF,if_neg (h d (by simp)),ih fun x hx=>h x (by simp [hx])]
theorem ny {k : Nat} : ∀ {s : abL},eW k (aF k s).1
 | []=>by intro c hc;cases hc
 | d :: r=>by
  unfold aF
  split
  ·intro c hc;cases hc
  ·rename_i hd
   intro c hc
   rcases List.mem_cons.1 hc with rfl | hc
   ·exact hd
   ·exact ny c hc
theorem kU {k : Nat} (s : abL) : a7 k s = if (aF k s).2.2 = true then (aF k s).1 :: a7 k (aF k s).2.1 else [s]:=by
 cases h : (aF k s).2.2 with
 | false =>
  rw [if_neg (by simp)]
  have h1:=eC h
  refine oA ?_
  have:=ny (k:=k) (s:=s)
  rwa [h1] at this
 | true =>
  rw [if_pos rfl]
  obtain ⟨c,hc,e⟩:=f3 (k:=k) (s:=s) (a:=(aF k s).1) (b:=(aF k s).2.1) (by rw [← h])
  conv=>{ lhs;rw [e] }
  exact ph ny hc
theorem kM {s : abL} {k : Nat} (h : b5 s = true) (hk : k < 97) : eW k s:=by
 intro c hc
 simp only [b5,Bool.and_eq_true,List.all_eq_true] at h
 have:=h.1 c hc
 simp only [ja,decide_eq_true_eq] at this
 omega
theorem q3 {n m : Int} : ∀ {s : abL},cO n s = some m → ∀ c ∈ s,48 ≤ c.toNat ∧ c.toNat ≤ 57
 | [],_,c,hc=>by cases hc
 | d :: r,h,c,hc=>by
  unfold cO at h
  split at h
  ·rename_i hd
   rcases List.mem_cons.1 hc with rfl | hc
   ·exact hd
   ·exact q3 h c hc
  ·cases h
theorem pA {s : abL} {top n : Int} (h : aM s top = some n) : ∀ c ∈ s,48 ≤ c.toNat ∧ c.toNat ≤ 57:=by
 unfold aM at h
 split at h
 ·split at h
  ·rename_i hd;exact q3 hd
  ·cases h
 ·cases h
theorem lI {s : abL} {top n : Int} {k : Nat} (h : aM s top = some n) (hk : 57 < k) : eW k s:=fun c hc=>by
 have:=pA h c hc;omega
theorem uC {s : abL} (h : cW s = true) {c : UInt8} (hc : c ∈ s) : c.toNat = 39 ∨ hO c.toNat:=by
 unfold cW at h
 simp only [decide_eq_true_eq] at h
 obtain ⟨h1,h2,h3,h4⟩:=h
 obtain ⟨i,hi,rfl⟩:=List.mem_iff_getElem.1 hc
 have e : bt s i = (s[i]).toNat:=by simp [bt,List.getD,List.getElem?_eq_getElem hi]
 rw [← e]
 rcases Nat.lt_or_ge i (s.length - 1) with h5 | h5
 ·rcases h4 i h5 with h6 | h6
  ·subst h6;exact .inl h2
  ·exact .inr h6
 ·have : i = s.length - 1:=oM
  subst this;exact .inl h3
theorem mE {d v : abL} {k : Nat} (h : bG d v = true) (hk : k = 58 ∨ k = 61) : eW k v:=by
 intro c hc
 unfold bG at h
 split at h
 ·simp only [Bool.and_eq_true] at h
  obtain ⟨n,hn⟩:=Option.isSome_iff_exists.1 h.1
  have:=pA hn c hc;omega
 ·split at h
  ·simp only [Bool.and_eq_true] at h
   have:=uC h.1 hc
   unfold hO at this;omega
  ·split at h
   ·simp only [decide_eq_true_eq] at h
    subst h
    simp only [List.mem_cons,List.not_mem_nil,or_false] at hc
    rcases hc with rfl | rfl | rfl <;> (rcases hk with rfl | rfl <;> decide)
   ·cases h
theorem kW : ∀ s : abL,(bm s).length ≤ s.length
 | []=>Nat.le_refl _
 | c :: r=>by
  unfold bm
  split
  ·have:=kW r;simp;omega
  ·exact Nat.le_refl _
def sg (s : abL) : abL:=s.take (s.length - (bm s).length)
def oP : abL → abL
 | []=>[]
 | c :: r=>if c.toNat = 64 then [64] else c :: r
def bs (s : abL) : abL:=oP (bm s)
def nm (s : abL) : abL:=(bE (bm s)).getD []
theorem sw {k : Nat} (hk : k = 58 ∨ k = 61) : ∀ {s : abL},eg s = true → eW k s
 | [],h=>by cases h
 | c :: r,h=>by
  unfold eg at h
  split at h
  ·rename_i hc
   intro d hd
   rcases List.mem_cons.1 hd with rfl | hd
   ·omega
   ·exact sw hk h d hd
  ·split at h
   ·rename_i hc
    simp only [Bool.and_eq_true,decide_eq_true_eq] at h
    intro d hd
    rcases List.mem_cons.1 hd with rfl | hd
    ·omega
    ·obtain ⟨i,hi,rfl⟩:=List.mem_iff_getElem.1 hd
     rcases Nat.lt_or_ge i (r.length - 1) with h5 | h5
     ·refine kM h.2 oM _ ?_
      exact List.mem_iff_getElem.2 ⟨i,by simp;omega,by simp⟩
     ·have h1 : bt (c :: r) r.length = 59:=oM
      have e : i = r.length - 1:=oM
      obtain ⟨m,hm⟩ : ∃ m,r.length = m + 1:=⟨r.length - 1,oM⟩
      rw [hm,dJ] at h1
      have : bt r m = (r[m]'oM).toNat:=by simp [bt,List.getD,List.getElem?_eq_getElem (show m < r.length by omega)]
      have e2 : i = m:=oM
      subst e2
      omega
   ·simp only [Bool.and_eq_true,Bool.or_eq_true,decide_eq_true_eq] at h
    intro d hd
    obtain ⟨rfl,h⟩:=h
    simp only [List.mem_singleton] at hd
    subst hd;omega
theorem gf {k : Nat} (hk : k = 58 ∨ k = 61) {s : abL} (h : bz s = true) : eW k s:=by
 unfold bz at h;simp only [Bool.and_eq_true] at h;exact sw hk h.2
def lQ (s : abL) (k : Nat) : Option Fld :=
 match a7 58 (aF 61 s).1 with
 | [a,b]=>if k = 69 ∧ (aF 61 s).2.2 = false then
   match aM a 200 with
   | some n=>if 1 ≤ n ∧ b5 b = true then some ⟨n,b,[],[]⟩ else none
   | none=>none
  else none
 | [a,b,c]=>if k = 69 then none else
   match aM a 200 with
   | some n=>if (1 ≤ n ∧ b5 b = true) ∧ bz c = true ∧ ((aF 61 s).2.2 = true → k = 82 ∧ bG c (aF 61 s).2.1 = true) then some ⟨n,b,c,(aF 61 s).2.1⟩ else none
   | none=>none
 | _=>none
theorem fm {k : Nat} {a b : abL} : eW k (a ++ b) ↔ eW k a ∧ eW k b:=by
 constructor
 ·intro h;exact ⟨fun c hc=>h c (by simp [hc]),fun c hc=>h c (by simp [hc])⟩
 ·intro h c hc
  rcases List.mem_append.1 hc with hc | hc
  ·exact h.1 c hc
  ·exact h.2 c hc
theorem gy {k : Nat} {c : UInt8} {b : abL} : eW k (c :: b) ↔ c.toNat ≠ k ∧ eW k b:=by
 constructor
 ·intro h;exact ⟨h c (by simp),fun d hd=>h d (by simp [hd])⟩
 ·intro h d hd
  rcases List.mem_cons.1 hd with rfl | hd
  ·exact h.1
  ·exact h.2 d hd
theorem tM {s : abL} {xs : List abL} (h : a7 58 s = xs) : s = aQ 58 xs ∧ ∀ x ∈ xs,eW 58 x:=by
 subst h
 exact ⟨(nu 58 s).symm,fun x hx=>xL (c:=58) hx⟩
theorem pc (s : abL) (k : Nat) : lQ s k = bK s k:=by
 apply Option.ext
 intro f
 constructor
 ·intro h
  unfold lQ at h
  split at h
  ·rename_i a b e
   split at h
   ·rename_i hk
    have hs:=eC hk.2
    rw [hs] at e
    unfold bK
    rw [e]
    simp only [hk.1,if_true]
    exact h
   ·cases h
  ·rename_i a b c e
   split at h
   ·cases h
   ·rename_i hk
    split at h
    ·rename_i n hn
     split at h
     ·rename_i hg
      simp only [Option.some.injEq] at h;subst h
      cases ht : (aF 61 s).2.2 with
      | false =>
       have hs:=eC ht
       rw [hs] at e ⊢
       have hc61 : a7 61 c = [c]:=oA (gf (.inr rfl) hg.2.1)
       unfold bK
       rw [e]
       simp [hk,hn,hg.1.1,hg.1.2,hc61,hg.2.1]
      | true =>
       have hst:=hg.2.2 ht
       obtain ⟨d,hd,es⟩:=f3 (k:=61) (s:=s) (a:=(aF 61 s).1) (b:=(aF 61 s).2.1) (by rw [← ht])
       generalize (aF 61 s).1 = hd1 at *
       generalize (aF 61 s).2.1 = v at *
       have hd : d = 61:=UInt8.toNat_inj.1 hd
       subst hd
       obtain ⟨e1,e2⟩:=tM e
       have e3 : s = aQ 58 [a,b,c ++ 61 :: v]:=by rw [es,e1];simp [aQ]
       have e4 : a7 58 s = [a,b,c ++ 61 :: v]:=by
        rw [e3]
        refine ni (c:=58) (by simp) fun x hx=>?_
        simp only [List.mem_cons,List.not_mem_nil,or_false] at hx
        rcases hx with rfl | rfl | rfl
        ·exact e2 _ (by simp)
        ·exact e2 _ (by simp)
        ·exact fm.2 ⟨e2 _ (by simp),gy.2 ⟨by decide,mE hst.2 (.inl F)⟩⟩
       have e5 : a7 61 (c ++ 61 :: v) = [c,v]:=by
        rw [ph (k:=61) (gf (.inr rfl) hg.2.1) rfl,oA (mE hst.2 (.inr rfl))]
       unfold bK
       rw [e4]
       simp [hk,hn,hg.1.1,hg.1.2,e5,hst.1,hst.2]
     ·cases h
    ·cases h
  ·cases h
 ·intro h
  unfold bK at h
  split at h
  ·rename_i a b e
   split at h
   ·rename_i hk
    split at h
    ·rename_i n hn
     split at h
     ·rename_i hg
      obtain ⟨e1,e2⟩:=tM e
      have hno : eW 61 s:=by rw [e1];simp only [aQ];exact fm.2 ⟨lI hn oM,gy.2 ⟨by decide,kM hg.2 oM⟩⟩
      unfold lQ
      rw [q7 hno,e]
      simp only [hk,hn,hg,and_self,if_true]
      exact h
     ·cases h
    ·cases h
   ·cases h
  ·rename_i a b c e
   split at h
   ·cases h
   ·rename_i hk
    split at h
    ·rename_i n hn
     split at h
     ·rename_i hg
      obtain ⟨e1,e2⟩:=tM e
      split at h
      ·rename_i d e3
       split at h
       ·rename_i hd
        simp only [Option.some.injEq] at h;subst h
        have e4 : c = d:=by have:=nu 61 c;rw [show (61 : UInt8).toNat = 61 from rfl,e3] at this;exact this.symm
        subst e4
        have hno : eW 61 s:=by rw [e1];simp only [aQ];exact fm.2 ⟨lI hn oM,gy.2 ⟨by decide,fm.2 ⟨kM hg.2 oM,gy.2 ⟨by decide,gf (.inr F) hd⟩⟩⟩⟩
        unfold lQ
        rw [q7 hno,e]
        simp [hk,hn,hg.1,hg.2,hd]
       ·cases h
      ·rename_i d v e3
       split at h
       ·rename_i hd
        simp only [Option.some.injEq] at h;subst h
        have e4 : c = d ++ 61 :: v:=by have:=nu 61 c;rw [show (61 : UInt8).toNat = 61 from rfl,e3] at this;exact this.symm
        subst e4
        have hkd:=lv hd.2
        have es : s = aQ 58 [a,b,d] ++ 61 :: v:=by rw [e1];simp [aQ]
        have hno : eW 61 (aQ 58 [a,b,d]):=by simp only [aQ];exact fm.2 ⟨lI hn oM,gy.2 ⟨by decide,fm.2 ⟨kM hg.2 oM,gy.2 ⟨by decide,gf (.inr F) hkd⟩⟩⟩⟩
        have e5 : a7 58 (aQ 58 [a,b,d]) = [a,b,d]:=by
         refine ni (c:=58) (by simp) fun x hx=>?_
         simp only [List.mem_cons,List.not_mem_nil,or_false] at hx
         rcases hx with rfl | rfl | rfl
         ·exact e2 _ (by simp)
         ·exact e2 _ (by simp)
         ·exact gf (.inl F) hkd
        unfold lQ
        rw [es,wa (k:=61) hno rfl,e5]
        simp [hn,hg.1,hg.2,hkd,hd.1,hd.2]
       ·cases h
      ·cases h
     ·cases h
    ·cases h
  ·cases h
def tag0 (t : Ty) : Int:=(t.fields.headD default).tag
def ct (ts : List Ty) : Nat → abL → abL
 | 0,_=>[]
 | _ + 1,[]=>[]
 | n + 1,c :: r=>if c.toNat = 91 then [91,93] else if c.toNat = 63 then [45] else
   match aV ts (c :: r) with
   | none=>ff (c :: r)
   | some t=>if t.sort = 82 then [123,125] else if t.sort = 69 then 35 :: br (tag0 t) else 60 :: (br (tag0 t) ++ 61 :: (ct ts n (fp t) ++ [62]))
def qo (ts : List Ty) (k : abL) : abL:=ct ts (ts.length + 2) k
def cL (ts : List Ty) (f : Fld) : abL:=if f.stand = [] then qo ts f.kind else f.stand
def bJ (fs : List Fld) (tag : Int) : Option Fld:=fs.find? fun f=>decide (f.tag = tag)
structure AskW (ts us : List Ty) (m : List Pr) : Prop where
 nd : m.Nodup
 mem : ∀ p ∈ m,(∃ t ∈ ts,t.name = p.1) ∧ ∃ u ∈ us,u.name = p.2
theorem AskW.nil {ts us : List Ty} : AskW ts us []:=⟨List.nodup_nil,by simp⟩
theorem qF {α : Type} [DecidableEq α] : ∀ {l l' : List α},l.Nodup → (∀ x ∈ l,x ∈ l') → l.length ≤ l'.length
 | [],_,_,_=>Nat.zero_le _
 | a :: l,l',hn,hs=>by
  rw [List.nodup_cons] at hn
  have ha:=hs a (.head _)
  have:=qF (l:=l) (l':=l'.erase a) hn.2 fun x hx=>by
   have hx':=hs x (.tail _ hx)
   exact (List.mem_erase_of_ne (fun e=>hn.1 (by rw [← e];exact hx))).2 hx'
  rw [List.length_erase_of_mem ha] at this
  have hp : 0 < l'.length:=List.length_pos_of_mem ha
  simp only [List.length_cons];omega
theorem AskW.len {ts us : List Ty} {m : List Pr} (h : AskW ts us m) : m.length ≤ ts.length * us.length:=by
 have h1 : m.length ≤ (ts.flatMap fun t=>us.map fun u=>(t.name,u.name)).length:=qF h.nd fun p hp=>by
  obtain ⟨⟨t,ht,e1⟩,u,hu,e2⟩:=h.mem p hp
  exact List.mem_flatMap.2 ⟨t,ht,List.mem_map.2 ⟨u,hu,by rw [e1,e2]⟩⟩
 have h2 : ∀ ts : List Ty,(ts.flatMap fun t=>us.map fun u=>(t.name,u.name)).length = ts.length * us.length:=fun ts=>by
  induction ts with
  | nil=>simp
  | cons t ts ih=>rw [List.flatMap_cons,List.length_append,ih,List.length_map,List.length_cons,Nat.succ_mul,Nat.add_comm]
 rw [h2] at h1;exact h1
theorem lM {ts : List Ty} {k : abL} (h : aP ts k = true) (hr : (bE (bm k)).isSome = true) : ∃ t,aV ts (bm k) = some t:=by
 unfold aP dY at h
 unfold aV
 cases hc : bE (bm k) with
 | none=>rw [hc] at hr;cases hr
 | some n =>
  rw [hc] at h
  simp only [Bool.and_eq_true] at h
  obtain ⟨_,h⟩:=h
  exact Option.isSome_iff_exists.1 h
inductive V where
 | nd (what : Nat) (text : abL) (tag : Int) (kids : List V)
instance : Inhabited V:=⟨.nd 0 [] 0 []⟩
def V.what : V → Nat | .nd w _ _ _=>w
def V.text : V → abL | .nd _ x _ _=>x
def V.tag : V → Int | .nd _ _ t _=>t
def ew (w : Nat) (x : abL) (t : Int) (e : Bool) (j : abL) : abL :=
 if w = 116 then 39 :: (x ++ [39]) else if w = 91 then 91 :: (j ++ [93]) else if w = 63 then (if e = true then [45] else 43 :: j)
 else if w = 61 then br t ++ 61 :: j else if w = 82 then 123 :: (j ++ [125]) else if w = 85 then 60 :: (br t ++ 61 :: (j ++ [62])) else if w = 69 then 35 :: br t else x
mutual
def V.out : V → abL
 | .nd w x t ks=>ew w x t ks.isEmpty (aQ 44 (V.outs ks))
def V.outs : List V → List abL
 | []=>[]
 | v :: r=>V.out v :: V.outs r
end
mutual
def V.deep : V → Nat
 | .nd w _ _ ks=>if w = 61 then V.deeps ks else V.deeps ks + 1
def V.deeps : List V → Nat
 | []=>0
 | v :: r=>max (V.deep v) (V.deeps r)
end
def aak (w : Nat) (e : Bool) : Bool:=(decide (w = 110) || decide (w = 116) || decide (w = 102) || decide (w = 69)) || (decide (w = 63) && e)
mutual
def V.size : V → Nat
 | .nd w _ _ ks=>if aak w ks.isEmpty = true then 1 else V.sizes ks
def V.sizes : List V → Nat
 | []=>0
 | v :: r=>V.size v + V.sizes r
end
theorem V.outs_map : ∀ ks : List V,V.outs ks = ks.map V.out
 | []=>rfl
 | v :: r=>by rw [V.outs,V.outs_map r];rfl
def aU (c : UInt8) : Bool:=decide (48 ≤ c.toNat ∧ c.toNat ≤ 57)
def b9 (top : Int) (s : abL) : Option (Int × abL):=(aM (s.takeWhile aU) top).map fun n=>(n,s.dropWhile aU)
def a8 (f : abL → Option (V × abL)) : Nat → abL → List V → Option (List V × abL)
 | 0,_,_=>none
 | m + 1,s,acc=>match f s with
  | none=>none
  | some (v,r)=>match r with
   | []=>none
   | c :: r'=>if c.toNat = 44 then a8 f m r' (acc ++ [v]) else if c.toNat = 93 then some (acc ++ [v],r') else none
def aO (f : abL → abL → Option (V × abL)) (t : Ty) (s : abL) : Option ((Fld × V) × abL) :=
 match b9 200 s with
 | none=>none
 | some (n,r)=>match bJ t.fields n with
  | none=>none
  | some d=>match r with
   | []=>none
   | c :: r'=>if c.toNat = 61 then (f d.kind r').map fun x=>((d,x.1),x.2) else none
def bC (ts : List Ty) (f : abL → abL → Option (V × abL)) (t : Ty) : Nat → Int → abL → List V → Option (List V × abL)
 | 0,_,_,_=>none
 | m + 1,last,s,acc=>match aO f t s with
  | none=>none
  | some ((d,v),r)=>if d.tag ≤ last ∨ v.out = cL ts d then none else match r with
   | []=>none
   | c :: r'=>if c.toNat = 44 then bC ts f t m d.tag r' (acc ++ [.nd 61 [] d.tag [v]]) else if c.toNat = 125 then some (acc ++ [.nd 61 [] d.tag [v]],r') else none
def aY (ts : List Ty) (f : abL → abL → Option (V × abL)) (t : Ty) : abL → Option (V × abL)
 | []=>none
 | c :: s=>if t.sort = 82 then
   (if c.toNat = 123 then (match s with
    | []=>none
    | c' :: r=>if c'.toNat = 125 then some (.nd 82 [] 0 [],r) else (bC ts f t (s.length + 1) 0 s []).map fun x=>(.nd 82 [] 0 x.1,x.2)) else none)
  else if t.sort = 69 then
   (if c.toNat = 35 then (match b9 200 s with
    | none=>none
    | some (n,r)=>if (bJ t.fields n).isSome = true then some (.nd 69 [] n [],r) else none) else none)
  else if c.toNat = 60 then (match aO f t s with
    | none=>none
    | some ((d,v),r)=>match r with
     | []=>none
     | c' :: r'=>if c'.toNat = 62 then some (.nd 85 [] d.tag [v],r') else none)
   else none
def c7 : abL → Option (V × abL)
 | []=>none
 | c :: s=>if c.toNat = 39 then (match aF 39 s with
   | (x,r,true)=>if cW (39 :: (x ++ [39])) = true then some (.nd 116 x 0 [],r) else none
   | _=>none) else none
def dM (s : abL) : Option (V × abL) :=
 if [121,101,115].isPrefixOf s = true then some (.nd 102 [121,101,115] 0 [],s.drop 3) else if [110,111].isPrefixOf s = true then some (.nd 102 [110,111] 0 [],s.drop 2) else none
def ee (ts : List Ty) (f : abL → abL → Option (V × abL)) : abL → abL → Option (V × abL)
 | [],_=>none
 | c :: k,s =>
  if c.toNat = 91 then (match s with
   | []=>none
   | d :: s'=>if d.toNat = 91 then (match s' with
     | []=>none
     | e :: r=>if e.toNat = 93 then some (.nd 91 [] 0 [],r) else (a8 (f k) 20 s' []).map fun x=>(.nd 91 [] 0 x.1,x.2)) else none)
  else if c.toNat = 63 then (match s with
   | []=>none
   | d :: s'=>if d.toNat = 45 then some (.nd 63 [] 0 [],s') else if d.toNat = 43 then (f k s').map fun x=>(.nd 63 [] 0 [x.1],x.2) else none)
  else match aV ts (c :: k) with
   | some t=>aY ts f t s
   | none=>if c.toNat = 110 then (b9 999999 s).map fun x=>(.nd 110 (br x.1) 0 [],x.2) else if c.toNat = 116 then c7 s else if c.toNat = 102 then dM s else none
def rd (ts : List Ty) : Nat → abL → abL → Option (V × abL)
 | 0,_,_=>none
 | n + 1,k,s=>ee ts (rd ts n) k s
def cj (ts : List Ty) (k s : abL) : Option V:=if s.length ≤ 400 then (match rd ts 12 k s with
 | some (v,[])=>some v
 | _=>none) else none
theorem lC {f g : abL → Option (V × abL)} (h : ∀ s x,f s = some x → g s = some x) : ∀ (m : Nat) (s : abL) (acc : List V) {x : List V × abL},a8 f m s acc = some x → a8 g m s acc = some x
 | 0,_,_,_,e=>by cases e
 | m + 1,s,acc,x,e=>by
  unfold a8 at e ⊢
  cases hf : f s with
  | none=>rw [hf] at e;cases e
  | some y =>
   rw [hf] at e
   rw [h s y hf]
   obtain ⟨v,r⟩:=y
   cases r with
   | nil=>exact e
   | cons c r =>
    dsimp only at e ⊢
    split at e
    ·rename_i hc;rw [if_pos hc];exact lC h m r _ e
    ·rename_i hc;rw [if_neg hc];exact e
theorem lD {f g : abL → abL → Option (V × abL)} (h : ∀ k s x,f k s = some x → g k s = some x) (t : Ty) (s : abL) {x : (Fld × V) × abL} (e : aO f t s = some x) : aO g t s = some x:=by
 unfold aO at e ⊢
 cases hn : b9 200 s with
 | none=>rw [hn] at e;cases e
 | some y =>
  rw [hn] at e
  obtain ⟨n,r⟩:=y
  dsimp only at e ⊢
  cases hd : bJ t.fields n with
  | none=>rw [hd] at e;cases e
  | some d =>
   rw [hd] at e
   cases r with
   | nil=>cases e
   | cons c r' =>
    dsimp only at e ⊢
    by_cases hc : c.toNat = 61
    ·rw [if_pos hc] at e ⊢
     cases hf : f d.kind r' with
     | none=>rw [hf] at e;cases e
     | some y=>rw [hf] at e;rw [h _ _ y hf];exact e
    ·rw [if_neg hc] at e;cases e
theorem mK {ts : List Ty} {f g : abL → abL → Option (V × abL)} (h : ∀ k s x,f k s = some x → g k s = some x) (t : Ty) : ∀ (m : Nat) (last : Int) (s : abL) (acc : List V) {x : List V × abL},bC ts f t m last s acc = some x → bC ts g t m last s acc = some x
 | 0,_,_,_,_,e=>by cases e
 | m + 1,last,s,acc,x,e=>by
  unfold bC at e ⊢
  cases hf : aO f t s with
  | none=>rw [hf] at e;cases e
  | some y =>
   rw [hf] at e
   rw [lD h t s hf]
   obtain ⟨⟨d,v⟩,r⟩:=y
   dsimp only at e ⊢
   split at e
   ·cases e
   ·rename_i hd
    rw [if_neg hd]
    cases r with
    | nil=>exact e
    | cons c r =>
     dsimp only at e ⊢
     split at e
     ·rename_i hc;rw [if_pos hc];exact mK h t m _ r _ e
     ·rename_i hc;rw [if_neg hc];exact e
theorem qr {ts : List Ty} {f g : abL → abL → Option (V × abL)} (h : ∀ k s x,f k s = some x → g k s = some x) (t : Ty) : ∀ (s : abL) {x : V × abL},aY ts f t s = some x → aY ts g t s = some x
 | [],_,e=>by cases e
 | c :: s,x,e=>by
  unfold aY at e ⊢
  dsimp only at e ⊢
  by_cases h82 : t.sort = 82
  ·rw [if_pos h82] at e ⊢
   by_cases hc : c.toNat = 123
   ·rw [if_pos hc] at e ⊢
    cases s with
    | nil=>exact e
    | cons c' r =>
     dsimp only at e ⊢
     by_cases hc' : c'.toNat = 125
     ·rw [if_pos hc'] at e ⊢;exact e
     ·rw [if_neg hc'] at e ⊢
      cases hf : bC ts f t ((c' :: r).length + 1) 0 (c' :: r) [] with
      | none=>rw [hf] at e;cases e
      | some y=>rw [hf] at e;rw [mK h t _ _ _ _ hf];exact e
   ·rw [if_neg hc] at e;cases e
  ·rw [if_neg h82] at e ⊢
   by_cases h69 : t.sort = 69
   ·rw [if_pos h69] at e ⊢;exact e
   ·rw [if_neg h69] at e ⊢
    by_cases hc : c.toNat = 60
    ·rw [if_pos hc] at e ⊢
     cases hf : aO f t s with
     | none=>rw [hf] at e;cases e
     | some y=>rw [hf] at e;rw [lD h t s hf];exact e
    ·rw [if_neg hc] at e;cases e
theorem vN {ts : List Ty} {f g : abL → abL → Option (V × abL)} (ih : ∀ k s x,f k s = some x → g k s = some x) : ∀ (k s : abL) {x : V × abL},ee ts f k s = some x → ee ts g k s = some x
 | [],_,_,e=>by cases e
 | c :: k,s,x,e=>by
  unfold ee at e ⊢
  dsimp only at e ⊢
  by_cases h91 : c.toNat = 91
  ·rw [if_pos h91] at e ⊢
   cases s with
   | nil=>exact e
   | cons d s' =>
    dsimp only at e ⊢
    by_cases hd : d.toNat = 91
    ·rw [if_pos hd] at e ⊢
     cases s' with
     | nil=>exact e
     | cons e' r =>
      dsimp only at e ⊢
      by_cases he : e'.toNat = 93
      ·rw [if_pos he] at e ⊢;exact e
      ·rw [if_neg he] at e ⊢
       cases hf : a8 (f k) 20 (e' :: r) [] with
       | none=>rw [hf] at e;cases e
       | some y=>rw [hf] at e;rw [lC (ih k) _ _ _ hf];exact e
    ·rw [if_neg hd] at e;cases e
  ·rw [if_neg h91] at e ⊢
   by_cases h63 : c.toNat = 63
   ·rw [if_pos h63] at e ⊢
    cases s with
    | nil=>exact e
    | cons d s' =>
     dsimp only at e ⊢
     by_cases hd : d.toNat = 45
     ·rw [if_pos hd] at e ⊢;exact e
     ·rw [if_neg hd] at e ⊢
      by_cases hd2 : d.toNat = 43
      ·rw [if_pos hd2] at e ⊢
       cases hf : f k s' with
       | none=>rw [hf] at e;cases e
       | some y=>rw [hf] at e;rw [ih k s' y hf];exact e
      ·rw [if_neg hd2] at e;cases e
   ·rw [if_neg h63] at e ⊢
    cases hr : aV ts (c :: k) with
    | none=>rw [hr] at e;exact e
    | some t=>rw [hr] at e;exact qr ih t s e
theorem si {ts : List Ty} : ∀ (n : Nat) (k s : abL) {x : V × abL},rd ts n k s = some x → rd ts (n + 1) k s = some x
 | 0,_,_,_,e=>by cases e
 | n + 1,k,s,_,e=>vN (fun k s _ e=>si n k s e) k s e
theorem wF {ts : List Ty} {n m : Nat} (h : n ≤ m) {k s : abL} {x : V × abL} (e : rd ts n k s = some x) : rd ts m k s = some x:=by
  induction m with
  | zero => have : n = 0 := oM
            subst this;exact e
  | succ m ih =>
    by_cases hn : n = m + 1
    · subst hn;exact e
    · exact si m k s (ih oM)
theorem V.deep_mem : ∀ {ks : List V} {v : V},v ∈ ks → V.deep v ≤ V.deeps ks
 | [],_,h=>by cases h
 | u :: ks,v,h=>by
  rw [V.deeps]
  rcases List.mem_cons.1 h with rfl | h
  ·exact Nat.le_max_left _ _
  ·exact Nat.le_trans (V.deep_mem h) (Nat.le_max_right _ _)
theorem V.deeps_le : ∀ {ks : List V} {n : Nat},(∀ v ∈ ks,V.deep v ≤ n) → V.deeps ks ≤ n
 | [],_,_=>by rw [V.deeps];exact Nat.zero_le _
 | u :: ks,n,h=>by
  rw [V.deeps]
  exact Nat.max_le.2 ⟨h u (.head _),V.deeps_le fun v hv=>h v (.tail _ hv)⟩
theorem cF {w : Nat} {x : abL} {t : Int} {ks : List V} (h : ¬ w = 61) : V.deep (.nd w x t ks) = V.deeps ks + 1:=by rw [V.deep,if_neg h]
theorem nr {t : Int} {v : V} : V.deep (.nd 61 [] t [v]) = V.deep v:=by rw [V.deep,if_pos rfl,V.deeps,V.deeps,Nat.max_zero]
theorem gK {f : abL → Option (V × abL)} {p : V → Prop} (h : ∀ s x,f s = some x → p x.1) : ∀ (m : Nat) (s : abL) (acc : List V) {x : List V × abL},a8 f m s acc = some x → (∀ v ∈ acc,p v) → ∀ v ∈ x.1,p v
 | 0,_,_,_,e,_=>by cases e
 | m + 1,s,acc,x,e,ha=>by
  unfold a8 at e
  cases hf : f s with
  | none=>rw [hf] at e;cases e
  | some y =>
   rw [hf] at e
   have hy:=h s y hf
   obtain ⟨v,r⟩:=y
   have ha' : ∀ u ∈ acc ++ [v],p u:=fun u hu=>by
    rcases List.mem_append.1 hu with hu | hu
    ·exact ha u hu
    ·simp only [List.mem_singleton] at hu;subst hu;exact hy
   cases r with
   | nil=>cases e
   | cons c r =>
    dsimp only at e
    split at e
    ·exact gK h m r _ e ha'
    ·split at e
     ·simp only [Option.some.injEq] at e;subst e;exact ha'
     ·cases e
theorem mJ {f g : abL → Option (V × abL)} : ∀ (m : Nat) (s : abL) (acc : List V) {x : List V × abL},a8 f m s acc = some x → (∀ s y,f s = some y → y.1 ∈ x.1 → g s = some y) → a8 g m s acc = some x ∧ ∀ v ∈ acc,v ∈ x.1
 | 0,_,_,_,e,_=>by cases e
 | m + 1,s,acc,x,e,h=>by
  unfold a8 at e ⊢
  cases hf : f s with
  | none=>rw [hf] at e;cases e
  | some y =>
   rw [hf] at e
   have hy:=h s y hf
   obtain ⟨v,r⟩:=y
   cases r with
   | nil=>cases e
   | cons c r =>
    dsimp only at e hy
    split at e
    ·rename_i hc
     obtain ⟨h1,h2⟩:=mJ m r _ e h
     rw [hy (h2 v (by simp))]
     dsimp only
     rw [if_pos hc]
     exact ⟨h1,fun u hu=>h2 u (List.mem_append_left _ hu)⟩
    ·rename_i hc
     split at e
     ·rename_i hc2
      simp only [Option.some.injEq] at e;subst e
      rw [hy (by simp)]
      dsimp only
      rw [if_neg hc,if_pos hc2]
      exact ⟨F,fun u hu=>List.mem_append_left _ hu⟩
     ·cases e
theorem eQ {f : abL → abL → Option (V × abL)} {t : Ty} {s : abL} {x : (Fld × V) × abL} (e : aO f t s = some x) : x.1.1 ∈ t.fields ∧ ∃ s',f x.1.1.kind s' = some (x.1.2,x.2):=by
 unfold aO at e
 cases hn : b9 200 s with
 | none=>rw [hn] at e;cases e
 | some y =>
  rw [hn] at e
  obtain ⟨n,r⟩:=y
  dsimp only at e
  cases hd : bJ t.fields n with
  | none=>rw [hd] at e;cases e
  | some d =>
   rw [hd] at e
   cases r with
   | nil=>cases e
   | cons c r' =>
    dsimp only at e
    by_cases hc : c.toNat = 61
    ·rw [if_pos hc] at e
     cases hf : f d.kind r' with
     | none=>rw [hf] at e;cases e
     | some y =>
      rw [hf] at e
      simp only [Option.map_some,Option.some.injEq] at e
      subst e
      exact ⟨List.mem_of_find?_eq_some hd,r',hf⟩
    ·rw [if_neg hc] at e;cases e
theorem jI {f g : abL → abL → Option (V × abL)} {t : Ty} {s : abL} {x : (Fld × V) × abL} (e : aO f t s = some x) (h : ∀ k s y,f k s = some y → y.1 = x.1.2 → g k s = some y) : aO g t s = some x:=by
 unfold aO at e ⊢
 cases hn : b9 200 s with
 | none=>rw [hn] at e;cases e
 | some y =>
  rw [hn] at e
  obtain ⟨n,r⟩:=y
  dsimp only at e ⊢
  cases hd : bJ t.fields n with
  | none=>rw [hd] at e;cases e
  | some d =>
   rw [hd] at e
   cases r with
   | nil=>cases e
   | cons c r' =>
    dsimp only at e ⊢
    by_cases hc : c.toNat = 61
    ·rw [if_pos hc] at e ⊢
     cases hf : f d.kind r' with
     | none=>rw [hf] at e;cases e
     | some y =>
      rw [hf] at e
      simp only [Option.map_some,Option.some.injEq] at e
      subst e
      rw [h _ _ _ hf rfl];rfl
    ·rw [if_neg hc] at e;cases e
theorem nU {ts : List Ty} {f : abL → abL → Option (V × abL)} {t : Ty} {p : V → Prop} (h : ∀ k s x,f k s = some x → ∀ n,p (.nd 61 [] n [x.1])) : ∀ (m : Nat) (last : Int) (s : abL) (acc : List V) {x : List V × abL},bC ts f t m last s acc = some x → (∀ v ∈ acc,p v) → ∀ v ∈ x.1,p v
 | 0,_,_,_,_,e,_=>by cases e
 | m + 1,last,s,acc,x,e,ha=>by
  unfold bC at e
  cases hf : aO f t s with
  | none=>rw [hf] at e;cases e
  | some y =>
   rw [hf] at e
   obtain ⟨_,s',hs'⟩:=eQ hf
   have hy:=h _ s' _ hs'
   obtain ⟨⟨d,v⟩,r⟩:=y
   dsimp only at e hy
   have ha' : ∀ u ∈ acc ++ [V.nd 61 [] d.tag [v]],p u:=fun u hu=>by
    rcases List.mem_append.1 hu with hu | hu
    ·exact ha u hu
    ·simp only [List.mem_singleton] at hu;subst hu;exact hy d.tag
   split at e
   ·cases e
   ·cases r with
    | nil=>cases e
    | cons c r =>
     dsimp only at e
     split at e
     ·exact nU h m _ r _ e ha'
     ·split at e
      ·simp only [Option.some.injEq] at e;subst e;exact ha'
      ·cases e
theorem nT {ts : List Ty} {f g : abL → abL → Option (V × abL)} {t : Ty} : ∀ (m : Nat) (last : Int) (s : abL) (acc : List V) {x : List V × abL},bC ts f t m last s acc = some x → (∀ k s y,f k s = some y → (∃ n,V.nd 61 [] n [y.1] ∈ x.1) → g k s = some y) → bC ts g t m last s acc = some x ∧ ∀ v ∈ acc,v ∈ x.1
 | 0,_,_,_,_,e,_=>by cases e
 | m + 1,last,s,acc,x,e,h=>by
  unfold bC at e ⊢
  cases hf : aO f t s with
  | none=>rw [hf] at e;cases e
  | some y =>
   rw [hf] at e
   obtain ⟨⟨d,v⟩,r⟩:=y
   dsimp only at e
   split at e
   ·cases e
   ·rename_i hd
    cases r with
    | nil=>cases e
    | cons c r =>
     dsimp only at e
     split at e
     ·rename_i hc
      obtain ⟨h1,h2⟩:=nT m _ r _ e h
      have hg:=jI (g:=g) hf (fun k s y hy e2=>h k s y hy ⟨d.tag,by rw [e2];exact h2 _ (by simp)⟩)
      rw [hg]
      dsimp only
      rw [if_neg hd,if_pos hc]
      exact ⟨h1,fun u hu=>h2 u (List.mem_append_left _ hu)⟩
     ·rename_i hc
      split at e
      ·rename_i hc2
       simp only [Option.some.injEq] at e;subst e
       have hg:=jI (g:=g) hf (fun k s y hy e2=>h k s y hy ⟨d.tag,by rw [e2];simp⟩)
       rw [hg]
       dsimp only
       rw [if_neg hd,if_neg hc,if_pos hc2]
       exact ⟨F,fun u hu=>List.mem_append_left _ hu⟩
      ·cases e
theorem sj {ts : List Ty} {f g : abL → abL → Option (V × abL)} : ∀ (k s : abL) {x : V × abL},ee ts f k s = some x → ∃ w tx tg ks,x.1 = .nd w tx tg ks ∧ ¬ w = 61 ∧ ((∀ k s y,f k s = some y → V.deep y.1 ≤ V.deeps ks → g k s = some y) → ee ts g k s = some x) ∧ ∀ n,(∀ k s y,f k s = some y → V.deep y.1 ≤ n) → V.deeps ks ≤ n
 | [],_,_,e=>by cases e
 | c :: k,s,x,e=>by
  unfold ee at e ⊢
  dsimp only at e ⊢
  have leaf : ∀ {w : Nat} {tx : abL} {tg : Int} {q : Prop},x.1 = .nd w tx tg [] → ¬ w = 61 → q → ∃ w tx tg ks,x.1 = .nd w tx tg ks ∧ ¬ w = 61 ∧ ((∀ k s y,f k s = some y → V.deep y.1 ≤ V.deeps ks → g k s = some y) → q) ∧ ∀ n,(∀ k s y,f k s = some y → V.deep y.1 ≤ n) → V.deeps ks ≤ n :=
   fun h1 h2 h3=>⟨_,_,_,[],h1,h2,fun _=>h3,fun n _=>by rw [V.deeps];exact Nat.zero_le n⟩
  by_cases h91 : c.toNat = 91
  ·simp only [if_pos h91] at e ⊢
   cases s with
   | nil=>cases e
   | cons d s' =>
    dsimp only at e ⊢
    by_cases hd : d.toNat = 91
    ·simp only [if_pos hd] at e ⊢
     cases s' with
     | nil=>cases e
     | cons e' r =>
      dsimp only at e ⊢
      by_cases he : e'.toNat = 93
      ·simp only [if_pos he] at e ⊢
       have e2:=e
       simp only [Option.some.injEq] at e2;subst e2
       exact leaf F dC F
      ·simp only [if_neg he] at e ⊢
       cases hf : a8 (f k) 20 (e' :: r) [] with
       | none=>rw [hf] at e;cases e
       | some y =>
        rw [hf] at e
        simp only [Option.map_some,Option.some.injEq] at e;subst e
        refine ⟨91,[],0,y.1,F,by decide,fun h=>?_,fun n h=>?_⟩
        ·rw [(mJ (g:=g k) _ _ _ hf fun s u hu hm=>h k s u hu (V.deep_mem hm)).1];rfl
        ·exact V.deeps_le fun v hv=>gK (p:=fun v=>V.deep v ≤ n) (fun s u hu=>h k s u hu) _ _ _ hf (by simp) v hv
    ·simp only [if_neg hd] at e;cases e
  ·simp only [if_neg h91] at e ⊢
   by_cases h63 : c.toNat = 63
   ·simp only [if_pos h63] at e ⊢
    cases s with
    | nil=>cases e
    | cons d s' =>
     dsimp only at e ⊢
     by_cases hd : d.toNat = 45
     ·simp only [if_pos hd] at e ⊢
      have e2:=e
      simp only [Option.some.injEq] at e2;subst e2
      exact leaf F dC F
     ·simp only [if_neg hd] at e ⊢
      by_cases hd2 : d.toNat = 43
      ·simp only [if_pos hd2] at e ⊢
       cases hf : f k s' with
       | none=>rw [hf] at e;cases e
       | some y =>
        rw [hf] at e
        simp only [Option.map_some,Option.some.injEq] at e;subst e
        refine ⟨63,[],0,[y.1],F,by decide,fun h=>?_,fun n h=>?_⟩
        ·rw [h k s' y hf (V.deep_mem (by simp))];rfl
        ·exact V.deeps_le fun v hv=>by simp only [List.mem_singleton] at hv;subst hv;exact h k s' y hf
      ·simp only [if_neg hd2] at e;cases e
   ·simp only [if_neg h63] at e ⊢
    cases hr : aV ts (c :: k) with
    | none =>
     rw [hr] at e
     dsimp only at e ⊢
     by_cases h1 : c.toNat = 110
     ·simp only [if_pos h1] at e ⊢
      cases hn : b9 999999 s with
      | none=>rw [hn] at e;cases e
      | some y =>
       rw [hn] at e
       have e2:=e
       simp only [Option.map_some,Option.some.injEq] at e2;subst e2
       exact leaf F dC F
     ·simp only [if_neg h1] at e ⊢
      by_cases h2 : c.toNat = 116
      ·simp only [if_pos h2] at e ⊢
       refine leaf (w:=116) (tx:=x.1.text) (tg:=0) ?_ dC e
       unfold c7 at e
       split at e
       ·cases e
       ·split at e
        ·split at e
         ·split at e
          ·simp only [Option.some.injEq] at e;subst e;rfl
          ·cases e
         ·cases e
        ·cases e
      ·simp only [if_neg h2] at e ⊢
       by_cases h3 : c.toNat = 102
       ·simp only [if_pos h3] at e ⊢
        refine leaf (w:=102) (tx:=x.1.text) (tg:=0) ?_ dC e
        unfold dM at e
        split at e
        ·simp only [Option.some.injEq] at e;subst e;rfl
        ·split at e
         ·simp only [Option.some.injEq] at e;subst e;rfl
         ·cases e
       ·simp only [if_neg h3] at e;cases e
    | some t =>
     rw [hr] at e
     dsimp only at e ⊢
     unfold aY at e ⊢
     cases s with
     | nil=>cases e
     | cons d s =>
      dsimp only at e ⊢
      by_cases h82 : t.sort = 82
      ·simp only [if_pos h82] at e ⊢
       by_cases hd : d.toNat = 123
       ·simp only [if_pos hd] at e ⊢
        cases s with
        | nil=>cases e
        | cons d' r =>
         dsimp only at e ⊢
         by_cases hd' : d'.toNat = 125
         ·simp only [if_pos hd'] at e ⊢
          have e2:=e
          simp only [Option.some.injEq] at e2;subst e2
          exact leaf F dC F
         ·simp only [if_neg hd'] at e ⊢
          cases hf : bC ts f t ((d' :: r).length + 1) 0 (d' :: r) [] with
          | none=>rw [hf] at e;cases e
          | some y =>
           rw [hf] at e
           simp only [Option.map_some,Option.some.injEq] at e;subst e
           refine ⟨82,[],0,y.1,F,by decide,fun h=>?_,fun n h=>?_⟩
           ·rw [(nT (g:=g) _ _ _ _ hf fun k s u hu hm=>h k s u hu (by obtain ⟨n,hm⟩:=hm;have:=V.deep_mem hm;rwa [nr] at this)).1];rfl
           ·exact V.deeps_le fun v hv=>nU (p:=fun v=>V.deep v ≤ n) (fun k s u hu m=>by rw [nr];exact h k s u hu) _ _ _ _ hf (by simp) v hv
       ·simp only [if_neg hd] at e;cases e
      ·simp only [if_neg h82] at e ⊢
       by_cases h69 : t.sort = 69
       ·simp only [if_pos h69] at e ⊢
        refine leaf (w:=69) (tx:=[]) (tg:=x.1.tag) ?_ dC e
        split at e
        ·split at e
         ·cases e
         ·split at e
          ·simp only [Option.some.injEq] at e;subst e;rfl
          ·cases e
        ·cases e
       ·simp only [if_neg h69] at e ⊢
        by_cases hd : d.toNat = 60
        ·simp only [if_pos hd] at e ⊢
         cases hf : aO f t s with
         | none=>rw [hf] at e;cases e
         | some y =>
          rw [hf] at e
          obtain ⟨⟨fd,v⟩,r⟩:=y
          cases r with
          | nil=>cases e
          | cons c' r =>
           dsimp only at e
           by_cases hc' : c'.toNat = 62
           ·simp only [if_pos hc',Option.some.injEq] at e;subst e
            refine ⟨85,[],fd.tag,[v],F,by decide,fun h=>?_,fun n h=>?_⟩
            ·rw [jI (g:=g) hf fun k s u hu e2=>h k s u hu (by rw [e2];exact V.deep_mem (by simp))]
             dsimp only
             rw [if_pos hc']
            ·obtain ⟨_,s',hs'⟩:=eQ hf
             exact V.deeps_le fun u hu=>by simp only [List.mem_singleton] at hu;subst hu;exact h _ _ _ hs'
           ·simp only [if_neg hc'] at e;cases e
        ·simp only [if_neg hd] at e;cases e
theorem kv {ts : List Ty} : ∀ (n : Nat) (k s : abL) (x : V × abL),rd ts n k s = some x → V.deep x.1 ≤ n
 | 0,_,_,_,e=>by cases e
 | n + 1,k,s,x,e=>by
  obtain ⟨w,tx,tg,ks,h1,h2,_,h4⟩:=sj (g:=rd ts n) k s e
  rw [h1,cF h2]
  have:=h4 n fun k s y hy=>kv n k s y hy
  omega
theorem wG {ts : List Ty} : ∀ (n m : Nat) (k s : abL) (x : V × abL),rd ts n k s = some x → V.deep x.1 ≤ m → rd ts m k s = some x
 | 0,_,_,_,_,e,_=>by cases e
 | n + 1,m,k,s,x,e,hm=>by
  obtain ⟨w,tx,tg,ks,h1,h2,h3,_⟩:=sj (g:=rd ts (m - 1)) k s e
  rw [h1,cF h2] at hm
  obtain ⟨m,rfl⟩ : ∃ j,m = j + 1:=⟨m - 1,oM⟩
  exact h3 fun k s y hy hd=>wG n m k s y hy oM
theorem bo {c : UInt8} {n : Nat} (h : c.toNat = n) (hn : n < 256) : c = UInt8.ofNat n:=by
 apply UInt8.toNat_inj.1;rw [h,UInt8.toNat_ofNat'];omega
theorem i3 {top : Int} {s r : abL} {n : Int} (h : b9 top s = some (n,r)) : s = br n ++ r:=by
 unfold b9 at h
 cases hn : aM (s.takeWhile aU) top with
 | none=>rw [hn] at h;cases h
 | some q =>
  rw [hn] at h
  simp only [Option.map_some,Option.some.injEq,Prod.mk.injEq] at h
  obtain ⟨rfl,rfl⟩:=h
  rw [← (dW hn).2.1,List.takeWhile_append_dropWhile]
theorem mI {f : abL → Option (V × abL)} (h : ∀ s y,f s = some y → s = y.1.out ++ y.2) : ∀ (m : Nat) (s : abL) (acc : List V) {x : List V × abL},a8 f m s acc = some x → ∃ vs,vs ≠ [] ∧ x.1 = acc ++ vs ∧ s = aQ 44 (vs.map V.out) ++ 93 :: x.2
 | 0,_,_,_,e=>by cases e
 | m + 1,s,acc,x,e=>by
  unfold a8 at e
  cases hf : f s with
  | none=>rw [hf] at e;cases e
  | some y =>
   rw [hf] at e
   have hy:=h s y hf
   obtain ⟨v,r⟩:=y
   cases r with
   | nil=>cases e
   | cons c r =>
    dsimp only at e hy
    split at e
    ·rename_i hc
     obtain ⟨vs,h1,h2,h3⟩:=mI h m r _ e
     have hc2:=bo hc dC
     refine ⟨v :: vs,by simp,by rw [h2];simp,?_⟩
     rw [hy,h3,List.map_cons,kL _ _ (by simpa using h1),hc2]
     simp
    ·split at e
     ·rename_i hc2
      have hc3:=bo hc2 dC
      simp only [Option.some.injEq] at e;subst e
      exact ⟨[v],by simp,F,by rw [hy,hc3];rfl⟩
     ·cases e
theorem fZ {t : Int} {v : V} : V.out (.nd 61 [] t [v]) = br t ++ 61 :: v.out:=by
 rw [V.out,V.outs,V.outs];simp [ew,aQ]
theorem mM {f : abL → abL → Option (V × abL)} (h : ∀ k s y,f k s = some y → s = y.1.out ++ y.2) {t : Ty} {s : abL} {x : (Fld × V) × abL} (e : aO f t s = some x) : s = br x.1.1.tag ++ 61 :: (x.1.2.out ++ x.2):=by
 unfold aO at e
 cases hn : b9 200 s with
 | none=>rw [hn] at e;cases e
 | some y =>
  rw [hn] at e
  obtain ⟨n,r⟩:=y
  have h1:=i3 hn
  dsimp only at e
  cases hd : bJ t.fields n with
  | none=>rw [hd] at e;cases e
  | some d =>
   rw [hd] at e
   have h2 : d.tag = n:=by have:=List.find?_some hd;simpa using this
   cases r with
   | nil=>cases e
   | cons c r' =>
    dsimp only at e
    by_cases hc : c.toNat = 61
    ·rw [if_pos hc] at e
     cases hf : f d.kind r' with
     | none=>rw [hf] at e;cases e
     | some y =>
      rw [hf] at e
      simp only [Option.map_some,Option.some.injEq] at e
      subst e
      have h3:=h _ _ _ hf
      dsimp only
      rw [h1,h2,h3,bo hc dC];rfl
    ·rw [if_neg hc] at e;cases e
theorem nS {ts : List Ty} {f : abL → abL → Option (V × abL)} (h : ∀ k s y,f k s = some y → s = y.1.out ++ y.2) {t : Ty} : ∀ (m : Nat) (last : Int) (s : abL) (acc : List V) {x : List V × abL},bC ts f t m last s acc = some x → ∃ vs,vs ≠ [] ∧ x.1 = acc ++ vs ∧ s = aQ 44 (vs.map V.out) ++ 125 :: x.2
 | 0,_,_,_,_,e=>by cases e
 | m + 1,last,s,acc,x,e=>by
  unfold bC at e
  cases hf : aO f t s with
  | none=>rw [hf] at e;cases e
  | some y =>
   rw [hf] at e
   have hy:=mM h hf
   obtain ⟨⟨d,v⟩,r⟩:=y
   dsimp only at e hy
   split at e
   ·cases e
   ·cases r with
    | nil=>cases e
    | cons c r =>
     dsimp only at e
     split at e
     ·rename_i hc
      obtain ⟨vs,h1,h2,h3⟩:=nS h m _ r _ e
      have hc2:=bo hc dC
      refine ⟨V.nd 61 [] d.tag [v] :: vs,by simp,by rw [h2];simp,?_⟩
      rw [hy,h3,List.map_cons,kL _ _ (by simpa using h1),hc2,fZ]
      simp
     ·split at e
      ·rename_i hc2
       have hc3:=bo hc2 dC
       simp only [Option.some.injEq] at e;subst e
       exact ⟨[V.nd 61 [] d.tag [v]],by simp,F,by rw [hy,hc3];simp [aQ,fZ]⟩
      ·cases e
theorem pV {k : Nat} {c : UInt8} (hc : c.toNat = k) : ∀ {s x r : abL},aF k s = (x,r,true) → s = x ++ c :: r
 | [],_,_,h=>by cases h
 | d :: s,x,r,h=>by
  unfold aF at h
  split at h
  ·rename_i hd
   simp only [Prod.mk.injEq,and_true] at h
   obtain ⟨rfl,rfl⟩:=h
   have : d = c:=UInt8.toNat_inj.1 (by rw [hd,hc])
   rw [this];rfl
  ·simp only [Prod.mk.injEq] at h
   obtain ⟨h1,h2,h3⟩:=h
   have ih:=pV hc (s:=s) (x:=(aF k s).1) (r:=(aF k s).2.1) (by rw [← h3])
   rw [← h1,← h2,List.cons_append,← ih]
theorem o3 {p s : abL} (h : p.isPrefixOf s = true) : s = p ++ s.drop p.length:=by
 rw [List.isPrefixOf_iff_prefix] at h
 obtain ⟨t,rfl⟩:=h
 simp
theorem mG {s : abL} {x : V × abL} (e : c7 s = some x) : s = x.1.out ++ x.2:=by
 unfold c7 at e
 cases s with
 | nil=>cases e
 | cons c s =>
  dsimp only at e
  by_cases hc : c.toNat = 39
  ·rw [if_pos hc] at e
   rcases hq : aF 39 s with ⟨y,r,b⟩
   rw [hq] at e
   cases b with
   | false=>cases e
   | true =>
    dsimp only at e
    split at e
    ·simp only [Option.some.injEq] at e;subst e
     have h1:=pV (c:=39) rfl hq
     rw [h1,bo hc dC]
     simp [V.out,ew]
    ·cases e
  ·rw [if_neg hc] at e;cases e
theorem nV {s : abL} {x : V × abL} (e : dM s = some x) : s = x.1.out ++ x.2:=by
 unfold dM at e
 split at e
 ·rename_i h
  simp only [Option.some.injEq] at e;subst e
  have:=o3 h
  simpa [V.out,ew] using this
 ·split at e
  ·rename_i h
   simp only [Option.some.injEq] at e;subst e
   have:=o3 h
   simpa [V.out,ew] using this
  ·cases e
theorem nb {ks : List V} {r : abL} : V.out (.nd 91 [] 0 ks) ++ r = 91 :: (aQ 44 (ks.map V.out) ++ 93 :: r):=by
 rw [V.out,V.outs_map];simp [ew]
theorem o5 {ks : List V} {r : abL} : V.out (.nd 82 [] 0 ks) ++ r = 123 :: (aQ 44 (ks.map V.out) ++ 125 :: r):=by
 rw [V.out,V.outs_map];simp [ew]
theorem sq {v : V} {r : abL} : V.out (.nd 63 [] 0 [v]) ++ r = 43 :: (v.out ++ r):=by
 rw [V.out,V.outs_map];simp [ew,aQ]
theorem sn {v : V} {n : Int} {r : abL} : V.out (.nd 85 [] n [v]) ++ r = 60 :: (br n ++ 61 :: (v.out ++ 62 :: r)):=by
 rw [V.out,V.outs_map];simp [ew,aQ]
theorem xb {ts : List Ty} {f : abL → abL → Option (V × abL)} (h : ∀ k s y,f k s = some y → s = y.1.out ++ y.2) : ∀ (k s : abL) {x : V × abL},ee ts f k s = some x → s = x.1.out ++ x.2
 | [],_,_,e=>by cases e
 | c :: k,s,x,e=>by
  unfold ee at e
  dsimp only at e
  by_cases h91 : c.toNat = 91
  ·simp only [if_pos h91] at e
   cases s with
   | nil=>cases e
   | cons d s' =>
    dsimp only at e
    by_cases hd : d.toNat = 91
    ·simp only [if_pos hd] at e
     cases s' with
     | nil=>cases e
     | cons e' r =>
      dsimp only at e
      by_cases he : e'.toNat = 93
      ·simp only [if_pos he,Option.some.injEq] at e;subst e
       rw [nb,bo hd dC,bo he dC];rfl
      ·simp only [if_neg he] at e
       cases hf : a8 (f k) 20 (e' :: r) [] with
       | none=>rw [hf] at e;cases e
       | some y =>
        rw [hf] at e
        simp only [Option.map_some,Option.some.injEq] at e;subst e
        obtain ⟨vs,_,h2,h3⟩:=mI (h k) _ _ _ hf
        rw [nb,h2,h3,bo hd dC];rfl
    ·simp only [if_neg hd] at e;cases e
  ·simp only [if_neg h91] at e
   by_cases h63 : c.toNat = 63
   ·simp only [if_pos h63] at e
    cases s with
    | nil=>cases e
    | cons d s' =>
     dsimp only at e
     by_cases hd : d.toNat = 45
     ·simp only [if_pos hd,Option.some.injEq] at e;subst e
      rw [bo hd dC];simp [V.out,ew]
     ·simp only [if_neg hd] at e
      by_cases hd2 : d.toNat = 43
      ·simp only [if_pos hd2] at e
       cases hf : f k s' with
       | none=>rw [hf] at e;cases e
       | some y =>
        rw [hf] at e
        simp only [Option.map_some,Option.some.injEq] at e;subst e
        rw [sq,← h k s' y hf,bo hd2 dC];rfl
      ·simp only [if_neg hd2] at e;cases e
   ·simp only [if_neg h63] at e
    cases hr : aV ts (c :: k) with
    | none =>
     rw [hr] at e
     dsimp only at e
     by_cases h1 : c.toNat = 110
     ·simp only [if_pos h1] at e
      cases hn : b9 999999 s with
      | none=>rw [hn] at e;cases e
      | some y =>
       rw [hn] at e
       simp only [Option.map_some,Option.some.injEq] at e;subst e
       rw [i3 hn];simp [V.out,ew]
     ·simp only [if_neg h1] at e
      by_cases h2 : c.toNat = 116
      ·simp only [if_pos h2] at e;exact mG e
      ·simp only [if_neg h2] at e
       by_cases h3 : c.toNat = 102
       ·simp only [if_pos h3] at e;exact nV e
       ·simp only [if_neg h3] at e;cases e
    | some t =>
     rw [hr] at e
     dsimp only at e
     unfold aY at e
     cases s with
     | nil=>cases e
     | cons d s =>
      dsimp only at e
      by_cases h82 : t.sort = 82
      ·simp only [if_pos h82] at e
       by_cases hd : d.toNat = 123
       ·simp only [if_pos hd] at e
        cases s with
        | nil=>cases e
        | cons d' r =>
         dsimp only at e
         by_cases hd' : d'.toNat = 125
         ·simp only [if_pos hd',Option.some.injEq] at e;subst e
          rw [o5,bo hd dC,bo hd' dC];rfl
         ·simp only [if_neg hd'] at e
          cases hf : bC ts f t ((d' :: r).length + 1) 0 (d' :: r) [] with
          | none=>rw [hf] at e;cases e
          | some y =>
           rw [hf] at e
           simp only [Option.map_some,Option.some.injEq] at e;subst e
           obtain ⟨vs,_,h2,h3⟩:=nS h _ _ _ _ hf
           rw [o5,h2,h3,bo hd dC];rfl
       ·simp only [if_neg hd] at e;cases e
      ·simp only [if_neg h82] at e
       by_cases h69 : t.sort = 69
       ·simp only [if_pos h69] at e
        by_cases hd : d.toNat = 35
        ·simp only [if_pos hd] at e
         cases hn : b9 200 s with
         | none=>rw [hn] at e;cases e
         | some y =>
          rw [hn] at e
          obtain ⟨n,r⟩:=y
          dsimp only at e
          split at e
          ·simp only [Option.some.injEq] at e;subst e
           rw [i3 hn,bo hd dC];simp [V.out,ew]
          ·cases e
        ·simp only [if_neg hd] at e;cases e
       ·simp only [if_neg h69] at e
        by_cases hd : d.toNat = 60
        ·simp only [if_pos hd] at e
         cases hf : aO f t s with
         | none=>rw [hf] at e;cases e
         | some y =>
          rw [hf] at e
          have h3:=mM h hf
          obtain ⟨⟨fd,v⟩,r⟩:=y
          cases r with
          | nil=>cases e
          | cons c' r =>
           dsimp only at e h3
           by_cases hc' : c'.toNat = 62
           ·simp only [if_pos hc',Option.some.injEq] at e;subst e
            rw [sn,h3,bo hd dC,bo hc' dC];rfl
           ·simp only [if_neg hc'] at e;cases e
        ·simp only [if_neg hd] at e;cases e
theorem uq {ts : List Ty} : ∀ (n : Nat) (k s : abL) (x : V × abL),rd ts n k s = some x → s = x.1.out ++ x.2
 | 0,_,_,_,e=>by cases e
 | n + 1,k,s,x,e=>xb (fun k s y hy=>uq n k s y hy) k s e
theorem t9 {ts : List Ty} {k s : abL} {v : V} (h : cj ts k s = some v) : v.out = s ∧ s.length ≤ 400 ∧ V.deep v ≤ 12:=by
 unfold cj at h
 split at h
 ·rename_i hl
  split at h
  ·rename_i w hw
   simp only [Option.some.injEq] at h;subst h
   have h1:=uq _ _ _ _ hw
   have h2:=kv _ _ _ _ hw
   simp only [List.append_nil] at h1
   exact ⟨h1.symm,hl,h2⟩
  ·cases h
 ·cases h
inductive RdK (ts : List Ty) (f : abL → abL → Option (V × abL)) : abL → abL → V → abL → Prop
 | lst0 (k r : abL) : RdK ts f (91 :: k) (91 :: 93 :: r) (.nd 91 [] 0 []) r
 | lst (k s r : abL) (vs : List V) : a8 (f k) 20 s [] = some (vs,r) → RdK ts f (91 :: k) (91 :: s) (.nd 91 [] 0 vs) r
 | non (k r : abL) : RdK ts f (63 :: k) (45 :: r) (.nd 63 [] 0 []) r
 | opt (k s r : abL) (v : V) : f k s = some (v,r) → RdK ts f (63 :: k) (43 :: s) (.nd 63 [] 0 [v]) r
 | num (k s r : abL) (n : Int) : aV ts (110 :: k) = none → b9 999999 s = some (n,r) → RdK ts f (110 :: k) s (.nd 110 (br n) 0 []) r
 | txt (k s r : abL) (v : V) : aV ts (116 :: k) = none → c7 s = some (v,r) → RdK ts f (116 :: k) s v r
 | flg (k s r : abL) (v : V) : aV ts (102 :: k) = none → dM s = some (v,r) → RdK ts f (102 :: k) s v r
 | recd0 (k r : abL) (t : Ty) : aV ts k = some t → t.sort = 82 → RdK ts f k (123 :: 125 :: r) (.nd 82 [] 0 []) r
 | recd (k s r : abL) (t : Ty) (vs : List V) : aV ts k = some t → t.sort = 82 → bC ts f t (s.length + 1) 0 s [] = some (vs,r) → RdK ts f k (123 :: s) (.nd 82 [] 0 vs) r
 | enm (k s r : abL) (t : Ty) (n : Int) : aV ts k = some t → t.sort = 69 → b9 200 s = some (n,r) → (bJ t.fields n).isSome = true → RdK ts f k (35 :: s) (.nd 69 [] n []) r
 | uni (k s r : abL) (t : Ty) (d : Fld) (v : V) : aV ts k = some t → t.sort ≠ 82 → t.sort ≠ 69 → aO f t s = some ((d,v),62 :: r) → RdK ts f k (60 :: s) (.nd 85 [] d.tag [v]) r
theorem oZ {ts : List Ty} {f : abL → abL → Option (V × abL)} : ∀ (k s : abL) {x : V × abL},ee ts f k s = some x → RdK ts f k s x.1 x.2
 | [],_,_,e=>by cases e
 | c :: k,s,x,e=>by
  unfold ee at e
  dsimp only at e
  by_cases h91 : c.toNat = 91
  ·simp only [if_pos h91] at e
   obtain rfl:=bo h91 dC
   cases s with
   | nil=>cases e
   | cons d s' =>
    dsimp only at e
    by_cases hd : d.toNat = 91
    ·simp only [if_pos hd] at e
     obtain rfl:=bo hd dC
     cases s' with
     | nil=>cases e
     | cons e' r =>
      dsimp only at e
      by_cases he : e'.toNat = 93
      ·simp only [if_pos he,Option.some.injEq] at e;subst e
       obtain rfl:=bo he dC
       exact .lst0 _ _
      ·simp only [if_neg he] at e
       cases hf : a8 (f k) 20 (e' :: r) [] with
       | none=>rw [hf] at e;cases e
       | some y =>
        rw [hf] at e
        simp only [Option.map_some,Option.some.injEq] at e;subst e
        exact .lst _ _ _ _ hf
    ·simp only [if_neg hd] at e;cases e
  ·simp only [if_neg h91] at e
   by_cases h63 : c.toNat = 63
   ·simp only [if_pos h63] at e
    obtain rfl:=bo h63 dC
    cases s with
    | nil=>cases e
    | cons d s' =>
     dsimp only at e
     by_cases hd : d.toNat = 45
     ·simp only [if_pos hd,Option.some.injEq] at e;subst e
      obtain rfl:=bo hd dC
      exact .non _ _
     ·simp only [if_neg hd] at e
      by_cases hd2 : d.toNat = 43
      ·simp only [if_pos hd2] at e
       obtain rfl:=bo hd2 dC
       cases hf : f k s' with
       | none=>rw [hf] at e;cases e
       | some y =>
        rw [hf] at e
        simp only [Option.map_some,Option.some.injEq] at e;subst e
        exact .opt _ _ _ _ hf
      ·simp only [if_neg hd2] at e;cases e
   ·simp only [if_neg h63] at e
    cases hr : aV ts (c :: k) with
    | none =>
     rw [hr] at e
     dsimp only at e
     by_cases h1 : c.toNat = 110
     ·simp only [if_pos h1] at e
      obtain rfl:=bo h1 dC
      cases hn : b9 999999 s with
      | none=>rw [hn] at e;cases e
      | some y =>
       rw [hn] at e
       simp only [Option.map_some,Option.some.injEq] at e;subst e
       exact .num _ _ _ _ hr hn
     ·simp only [if_neg h1] at e
      by_cases h2 : c.toNat = 116
      ·simp only [if_pos h2] at e
       obtain rfl:=bo h2 dC
       exact .txt _ _ _ _ hr e
      ·simp only [if_neg h2] at e
       by_cases h3 : c.toNat = 102
       ·simp only [if_pos h3] at e
        obtain rfl:=bo h3 dC
        exact .flg _ _ _ _ hr e
       ·simp only [if_neg h3] at e;cases e
    | some t =>
     rw [hr] at e
     dsimp only at e
     unfold aY at e
     cases s with
     | nil=>cases e
     | cons d s =>
      dsimp only at e
      by_cases h82 : t.sort = 82
      ·simp only [if_pos h82] at e
       by_cases hd : d.toNat = 123
       ·simp only [if_pos hd] at e
        obtain rfl:=bo hd dC
        cases s with
        | nil=>cases e
        | cons d' r =>
         dsimp only at e
         by_cases hd' : d'.toNat = 125
         ·simp only [if_pos hd',Option.some.injEq] at e;subst e
          obtain rfl:=bo hd' dC
          exact .recd0 _ _ t hr h82
         ·simp only [if_neg hd'] at e
          cases hf : bC ts f t ((d' :: r).length + 1) 0 (d' :: r) [] with
          | none=>rw [hf] at e;cases e
          | some y =>
           rw [hf] at e
           simp only [Option.map_some,Option.some.injEq] at e;subst e
           exact .recd _ _ _ t _ hr h82 hf
       ·simp only [if_neg hd] at e;cases e
      ·simp only [if_neg h82] at e
       by_cases h69 : t.sort = 69
       ·simp only [if_pos h69] at e
        by_cases hd : d.toNat = 35
        ·simp only [if_pos hd] at e
         obtain rfl:=bo hd dC
         cases hn : b9 200 s with
         | none=>rw [hn] at e;cases e
         | some y =>
          rw [hn] at e
          obtain ⟨n,r⟩:=y
          dsimp only at e
          split at e
          ·rename_i hs
           simp only [Option.some.injEq] at e;subst e
           exact .enm _ _ _ t _ hr h69 hn hs
          ·cases e
        ·simp only [if_neg hd] at e;cases e
       ·simp only [if_neg h69] at e
        by_cases hd : d.toNat = 60
        ·simp only [if_pos hd] at e
         obtain rfl:=bo hd dC
         cases hf : aO f t s with
         | none=>rw [hf] at e;cases e
         | some y =>
          rw [hf] at e
          obtain ⟨⟨fd,v⟩,r⟩:=y
          cases r with
          | nil=>cases e
          | cons c' r =>
           dsimp only at e
           by_cases hc' : c'.toNat = 62
           ·simp only [if_pos hc',Option.some.injEq] at e;subst e
            obtain rfl:=bo hc' dC
            exact .uni _ _ _ t _ _ hr h82 h69 hf
           ·simp only [if_neg hc'] at e;cases e
        ·simp only [if_neg hd] at e;cases e
mutual
def V.tot : V → Nat
 | .nd _ x _ ks=>20 + x.length + V.tots ks
def V.tots : List V → Nat
 | []=>0
 | v :: r=>V.tot v + V.tots r
end
theorem fN : ∀ (a b : List V),V.tots (a ++ b) = V.tots a + V.tots b
 | [],b=>by simp [V.tots]
 | v :: a,b=>by simp only [List.cons_append,V.tots,fN a b];omega
theorem io (v : V) : 20 ≤ v.tot:=by obtain ⟨w,x,t,ks⟩:=v;rw [V.tot];omega
theorem qm : ∀ {ks : List V} {v : V},v ∈ ks → V.tot v ≤ V.tots ks
 | u :: ks,v,h=>by
  rw [V.tots]
  rcases List.mem_cons.1 h with rfl | h
  ·omega
  ·have:=qm h;omega
theorem dT : ∀ (ks : List V),20 * ks.length ≤ V.tots ks
 | []=>by simp [V.tots]
 | u :: ks=>by rw [V.tots,List.length_cons];have:=dT ks;have:=io u;omega
theorem iN (n : Int) : 1 ≤ (br n).length:=by
 by_cases h : n < 10
 ·by_cases h0 : 0 ≤ n
  ·rw [dw h h0];simp
  ·have : n.toNat = (0 : Int).toNat:=oM
   have e : br n = br 0:=by unfold br;rw [this]
   rw [e,dw dC dC];simp
 ·rw [iu h];simp
theorem lA {top : Int} {s r : abL} {n : Int} (h : b9 top s = some (n,r)) : (br n).length + r.length = s.length ∧ 1 ≤ (br n).length:=by
 have:=i3 h
 exact ⟨by rw [this];simp,iN n⟩
theorem mH {f : abL → Option (V × abL)} (h : ∀ s y,f s = some y → y.1.tot + 100 * y.2.length ≤ 100 * s.length) : ∀ (m : Nat) (s : abL) (acc : List V) {x : List V × abL},a8 f m s acc = some x → V.tots x.1 + 100 * (x.2.length + 1) ≤ V.tots acc + 100 * s.length
 | 0,_,_,_,e=>by cases e
 | m + 1,s,acc,x,e=>by
  unfold a8 at e
  cases hf : f s with
  | none=>rw [hf] at e;cases e
  | some y =>
   rw [hf] at e
   have hy:=h s y hf
   obtain ⟨v,r⟩:=y
   cases r with
   | nil=>cases e
   | cons c r =>
    dsimp only at e hy
    have e2 : V.tots (acc ++ [v]) = V.tots acc + v.tot:=by simp [fN,V.tots]
    rw [List.length_cons] at hy
    split at e
    ·have:=mH h m r _ e
     omega
    ·split at e
     ·simp only [Option.some.injEq] at e;subst e
      dsimp only;omega
     ·cases e
theorem mL {f : abL → abL → Option (V × abL)} (h : ∀ k s y,f k s = some y → y.1.tot + 100 * y.2.length ≤ 100 * s.length) {t : Ty} {s : abL} {x : (Fld × V) × abL} (e : aO f t s = some x) : x.1.2.tot + 100 * x.2.length + 200 ≤ 100 * s.length:=by
 unfold aO at e
 cases hn : b9 200 s with
 | none=>rw [hn] at e;cases e
 | some y =>
  rw [hn] at e
  obtain ⟨n,r⟩:=y
  obtain ⟨h1,h2⟩:=lA hn
  dsimp only at e
  cases hd : bJ t.fields n with
  | none=>rw [hd] at e;cases e
  | some d =>
   rw [hd] at e
   cases r with
   | nil=>cases e
   | cons c r' =>
    dsimp only at e
    rw [List.length_cons] at h1
    by_cases hc : c.toNat = 61
    ·rw [if_pos hc] at e
     cases hf : f d.kind r' with
     | none=>rw [hf] at e;cases e
     | some y =>
      rw [hf] at e
      simp only [Option.map_some,Option.some.injEq] at e
      subst e
      have h3:=h _ _ _ hf
      dsimp only
      omega
    ·rw [if_neg hc] at e;cases e
theorem nR {ts : List Ty} {f : abL → abL → Option (V × abL)} (h : ∀ k s y,f k s = some y → y.1.tot + 100 * y.2.length ≤ 100 * s.length) {t : Ty} : ∀ (m : Nat) (last : Int) (s : abL) (acc : List V) {x : List V × abL},bC ts f t m last s acc = some x → V.tots x.1 + 100 * (x.2.length + 1) ≤ V.tots acc + 100 * s.length
 | 0,_,_,_,_,e=>by cases e
 | m + 1,last,s,acc,x,e=>by
  unfold bC at e
  cases hf : aO f t s with
  | none=>rw [hf] at e;cases e
  | some y =>
   rw [hf] at e
   have hy:=mL h hf
   obtain ⟨⟨d,v⟩,r⟩:=y
   dsimp only at e hy
   split at e
   ·cases e
   ·cases r with
    | nil=>cases e
    | cons c r =>
     dsimp only at e
     have e2 : V.tots (acc ++ [V.nd 61 [] d.tag [v]]) = V.tots acc + (20 + v.tot):=by simp [fN,V.tots,V.tot]
     rw [List.length_cons] at hy
     split at e
     ·have:=nR h m _ r _ e
      omega
     ·split at e
      ·simp only [Option.some.injEq] at e;subst e
       dsimp only;omega
      ·cases e
theorem iG {ts : List Ty} : ∀ (n : Nat) (k s : abL) (x : V × abL),rd ts n k s = some x → x.1.tot + 100 * x.2.length ≤ 100 * s.length
 | 0,_,_,_,e=>by cases e
 | n + 1,k,s,x,e=>by
  have ih : ∀ k s y,rd ts n k s = some y → y.1.tot + 100 * y.2.length ≤ 100 * s.length:=fun k s y hy=>iG n k s y hy
  have h:=oZ k s (x:=x) e
  obtain ⟨v,r⟩:=x
  dsimp only at h ⊢
  cases h with
  | lst0=>simp only [V.tot,V.tots,List.length_cons,List.length_nil];omega
  | lst k s r vs h =>
   have:=mH (ih k) _ _ _ h
   simp only [V.tot,V.tots,List.length_cons,List.length_nil] at this ⊢;omega
  | non=>simp only [V.tot,V.tots,List.length_cons,List.length_nil];omega
  | opt k s r v h =>
   have:=ih _ _ _ h
   simp only [V.tot,V.tots,List.length_cons,List.length_nil] at this ⊢;omega
  | num k s r n _ h =>
   have:=lA h
   simp only [V.tot,V.tots];omega
  | txt k s r v _ h =>
   have e1:=mG h
   have h2 : v.out.length = 2 + v.text.length ∧ v.tot = 20 + v.text.length:=by
    unfold c7 at h
    split at h
    ·cases h
    ·split at h
     ·split at h
      ·split at h
       ·simp only [Option.some.injEq,Prod.mk.injEq] at h
        obtain ⟨rfl,_⟩:=h
        simp [V.out,ew,V.text,V.tot,V.tots];omega
       ·cases h
      ·cases h
     ·cases h
   rw [e1]
   simp only [List.length_append]
   omega
  | flg k s r v _ h =>
   have e1:=nV h
   have h2 : 2 ≤ v.out.length ∧ v.tot ≤ 23:=by
    unfold dM at h
    split at h
    ·simp only [Option.some.injEq,Prod.mk.injEq] at h
     obtain ⟨rfl,_⟩:=h
     simp [V.out,ew,V.tot,V.tots]
    ·split at h
     ·simp only [Option.some.injEq,Prod.mk.injEq] at h
      obtain ⟨rfl,_⟩:=h
      simp [V.out,ew,V.tot,V.tots]
     ·cases h
   rw [e1]
   simp only [List.length_append]
   omega
  | recd0=>simp only [V.tot,V.tots,List.length_cons,List.length_nil];omega
  | recd k s r t vs _ _ h =>
   have:=nR ih _ _ _ _ h
   simp only [V.tot,V.tots,List.length_cons,List.length_nil] at this ⊢;omega
  | enm k s r t n _ _ h _ =>
   have:=lA h
   simp only [V.tot,V.tots,List.length_cons,List.length_nil];omega
  | uni k s r t d v _ _ _ h =>
   have:=mL ih h
   simp only [V.tot,V.tots,List.length_cons,List.length_nil] at this ⊢;omega
abbrev dU : TypeId:=175
abbrev gc : TypeId:=5
theorem zB {n : Nat} {D : List Deferred} {E : bn} {B : Base} {L : List Own} {K : Act → World → Prop} {Q : Exit → Act → World → Prop} {ty : TypeId} {pos : String} {aft : Array Edge} {gd : Option (Nat × Bool)} {d : Nat} {fo x : Operand} {ag : Array TypeId} {m : Nat}
  (hf : ev E fo = some (.func (.func 183) #[] #[])) (hx : ev E x = some (I (m : Nat))) (hlt : Nat.blt d n = true) (hm : 0 < m ∧ m ≤ 1000000000)
  (k : ∀ b cap,m ≤ cap + 1 → Nx n D ((d,.slice (some ⟨b,0,none⟩) m (cap + 1)) :: E) B G (.acc (.slice (some ⟨b,0,none⟩) 0 (cap + 1)) gc 1 0 [] :: L) K) : Nx n D E B G L (ow abK ⟨some d,.call ⟨.value fo,[x].toArray,ag⟩,ty,pos,aft,gd⟩ Q K) :=
 aaV (ps:=#[3]) hf hx hlt Tryz.func183 kR kR kR kR (TI.und (T:=96)) hm k
theorem wW {b : Nat} {v : Value} : bQ abK 160 [Pt b 0] G [.blk b (.cells (List.toArray [.pointer none,v]) dU (0,0))] (fun r L'=>L' = [.blk b (.cells (List.toArray [Pt b 0,v]) dU (0,0))]):=by
 have hx : ∀ w,(callFunc 182 [Pt b 0].toArray).run abK w = .ok (.value (Pt b 0)) w:=fun w=>by
  rw [run_callFunc_extern Tryz.func182 kR kR kR (e:=Extern.AbiNoEscape.same) kR]
  rw [Lib.run_noEscape];rfl
 refine jH [(0,_)] Tryz.func160 Tryz.ntmps160 fun B hB hW=>?_
 repeat' (first | refine jR ?_ | (refine jo ?_;first | refine aj F ?_ | refine jV (cp F F) ?_ | refine jV (aap kR F F F) ?_) | refine ac F F ?_)
 refine tB F (kh (nj F F F hx) F F ?_)
 repeat' (first | refine jR ?_ | (refine jo ?_;first | refine jV (xl kR F kR) ?_ | refine jD F F F ?_))
 exact nh (vs:=[]) F trivial F aX ⟨F,F⟩
theorem aaX {b : Nat} {v : Value} : bQ abK 160 [Pt b 0] G [.blk b (.cells (List.toArray [Pt b 0,v]) dU (0,0))] (fun r L'=>L' = [.blk b (.cells (List.toArray [Pt b 0,v]) dU (0,0))]):=by
 refine jH [(0,_)] Tryz.func160 Tryz.ntmps160 fun B hB hW=>?_
 repeat' (first | refine jR ?_ | (refine jo ?_;first | refine aj F ?_ | refine jV (cp F F) ?_ | refine jV (yU F F) ?_) | refine ad F F ?_)
 exact nh (vs:=[]) F trivial F aX ⟨F,F⟩
theorem xZ {b m : Nat} (hm : 0 < m ∧ m ≤ 1000000000) : bQ abK 161 [Pt b 0,I (m : Nat)] G [.blk b (.cells (List.toArray [Pt b 0,aK]) dU (0,0))] (fun r L'=>∃ b2 c2,L' = [.acc (.slice (some ⟨b2,0,none⟩) 0 (c2 + 1)) gc 1 0 [],.blk b (.cells (List.toArray [Pt b 0,.slice (some ⟨b2,0,none⟩) 0 (c2 + 1)]) dU (0,0))]):=by
 refine jH [(0,_),(1,_)] Tryz.func161 Tryz.ntmps161 fun B hB hW=>?_
 repeat' (first | refine jR ?_ | (refine jo ?_;first | refine aj F ?_ | refine jV (xp F F) ?_ | refine jD F F F ?_) | (refine ai (an (id:=0) _ (fun _ h=>h) ah ?_);refine jT 9 [0,1,2,6,9,10,11] (aa 16 3655) ?_;(refine jG (aa 16 3663) 3 F (aq F F F) ?_);(refine jG (aa 16 3679) 4 F (wS F) ?_);refine jW 5 [5,7] (aa 16 3839) ?_;(refine jG (aa 16 7935) 12 F (aq F F F) ?_);(refine jG (aa 16 16127) 13 F (aw F) ?_);refine jA 8 F ?_;(refine zB F F F oM (fun _ _ _=>?_));refine jS (aa 16 16383) ?_;(refine jG (aa 16 32767) 14 F (uH F F oM) ?_);refine jT 0 [15] (aa 16 65535) ?_;refine jQ ?_))
 exact nh (vs:=[]) F trivial F (List.Sublist.refl _) ⟨F,_,_,F⟩
theorem yd {b m : Nat} (hm : 0 < m ∧ m ≤ 1000000000) : bQ abK 130 [Pt b 0,I (m : Nat)] G [.blk b (.cells (List.toArray [.pointer none,aK]) dU (0,0))] (fun r L'=>∃ b2 c2,L' = [.acc (.slice (some ⟨b2,0,none⟩) 0 (c2 + 1)) gc 1 0 [],.blk b (.cells (List.toArray [Pt b 0,.slice (some ⟨b2,0,none⟩) 0 (c2 + 1)]) dU (0,0))]):=by
 refine jH [(0,_),(1,_)] Tryz.func130 Tryz.ntmps130 fun B hB hW=>?_
 repeat' (first | refine jR ?_ | (refine jo ?_;first | (refine af F F F wW F ?_;rintro _ _ rfl;dsimp only [zA,fA]) | (refine af F F F (xZ oM) F ?_;rintro _ _ ⟨b2,c2,hb2,rfl⟩;dsimp only [zA,fA])) | refine ac F (ay oM) ?_ | refine ad F F ?_ | (refine ai (an (id:=3) _ (fun _ h=>h) ah ?_);refine jT 6 [0,1,2,5,6,7,11] (aa 13 2279) ?_;(refine jG (aa 13 2287) 3 F (aq F F F) ?_);(refine jG (aa 13 2303) 4 F (wS F) ?_);(refine jG (aa 13 2559) 8 F (aq F F F) ?_);(refine jG (aa 13 3071) 9 F (aw F) ?_);refine jW 0 [10,12] (aa 13 8191) ?_;refine jQ ?_))
 exact nh (vs:=[]) F trivial F (List.Sublist.refl _) ⟨F,_,_,F⟩
theorem oE {b b1 c1 m : Nat} {xs : List Value} {l : abL} (hm : m + l.length ≤ 1000000000) : bQ abK 131 [Pt b 0,S l] G [.blk b (.cells (List.toArray [Pt b 0,.slice (some ⟨b1,0,none⟩) m (c1 + 1)]) dU (0,0)),.acc (.slice (some ⟨b1,0,none⟩) m (c1 + 1)) gc 1 m xs]
  (fun r L'=>∃ b2 c2,r = Tu [I l.length,.nilIface] ∧ L' = [.acc (.slice (some ⟨b2,0,none⟩) (m + l.length) (c2 + 1)) gc 1 (m + l.length) (xs ++ co l),.blk b (.cells (List.toArray [Pt b 0,.slice (some ⟨b2,0,none⟩) (m + l.length) (c2 + 1)]) dU (0,0))]):=by
 refine jH [(0,_),(1,_)] Tryz.func131 Tryz.ntmps131 fun B hB hW=>?_
 repeat' (first | refine jR ?_ | (refine jo ?_;first | refine aj F ?_ | refine aa1 F F F oM fun _ _=>?_ | refine jD F F F ?_ | (refine af F F F aaX F ?_;rintro _ _ rfl;dsimp only [zA,fA])))
 exact aZ (vs:=[_,_]) F ⟨F,F,trivial⟩ F (List.Sublist.refl _) ⟨F,_,_,F,F⟩
theorem rx {b b1 c1 m : Nat} {l : abL} (hm : m ≤ 1000000000) : bQ abK 132 [Pt b 0] G [.blk b (.cells (List.toArray [Pt b 0,.slice (some ⟨b1,0,none⟩) m (c1 + 1)]) dU (0,0)),.acc (.slice (some ⟨b1,0,none⟩) m (c1 + 1)) gc 1 m (co l)]
  (fun r L'=>r = S l ∧ L' = []):=by
 refine jH [(0,_)] Tryz.func132 Tryz.ntmps132 fun B hB hW=>?_
 repeat' (refine jR ?_)
 (refine ai (an (id:=1) [.blk b (.cells (List.toArray [Pt b 0,.slice (some ⟨b1,0,none⟩) m (c1 + 1)]) dU (0,0))] (by intro y hy;simp only [List.mem_cons,List.not_mem_nil,or_false] at hy ⊢;simp [hy]) ah ?_);refine jW 6 [0,1,2,5,6,7] (aa 12 231) ?_;(refine jG (aa 12 239) 3 F (aq F F F) ?_);(refine jG (aa 12 255) 4 F (yS F F) ?_);(refine jG (aa 12 511) 8 F (aq F F F) ?_);(refine jG (aa 12 1023) 9 F (aw F) ?_);refine jA 10 F ?_;(refine zt kR F F F oM ?_);refine jS (aa 12 2047) ?_;refine jT 0 [11] (aa 12 4095) ?_;refine jQ ?_)
 repeat' (refine jR ?_)
 refine jZ (vs:=[_]) F ⟨F,trivial⟩ F ⟨F,F,?_⟩
 rfl
def c0 (xs : List abL) : Nat:=(xs.map List.length).sum
theorem tz (xs : List abL) (x : abL) : c0 (xs ++ [x]) = c0 xs + x.length:=by simp [c0]
theorem d3 : ∀ (xs : List abL) (i : Nat),c0 (xs.take i) ≤ c0 xs
 | [],i=>by simp [c0]
 | x :: xs,0=>by simp [c0]
 | x :: xs,i + 1=>by
  have:=d3 xs i
  simp only [c0,List.take_succ_cons,List.map_cons,List.sum_cons] at this ⊢;omega
theorem kK (c : UInt8) (y : abL) : ∀ (xs : List abL),xs ≠ [] → aQ c (xs ++ [y]) = aQ c xs ++ c :: y
 | [],h=>absurd rfl h
 | [x],_=>by simp [aQ]
 | x :: z :: r,_=>by
  have:=kK c y (z :: r) (by simp)
  simp only [List.cons_append,aQ] at this ⊢
  rw [this];simp
theorem e9 (c : UInt8) : ∀ (xs : List abL),(aQ c xs).length ≤ c0 xs + xs.length
 | []=>by simp [aQ]
 | [x]=>by simp [aQ,c0]
 | x :: z :: r=>by
  have:=e9 c (z :: r)
  simp only [aQ,c0,List.map_cons,List.sum_cons,List.length_append,List.length_cons] at this ⊢;omega
theorem Nx.cast {n : Nat} {D : List Deferred} {E : bn} {B : Base} {L L' : List Own} {K : Act → World → Prop} (e : L = L') (h : Nx n D E B G L' K) : Nx n D E B G L K:=by subst e;exact h
theorem bh.cap {G : Gh} {p : Option Addr} {c sz m : Nat} {xs : List Value} (h : bh G (.slice p m c) sz m xs) : m ≤ c:=by
 obtain ⟨_,⟨h1,h2⟩ | ⟨b,o,cap,e,h1,_⟩⟩:=h
 ·omega
 ·simp only [Value.slice.injEq,true_and] at e;omega
theorem bW.tailS {G : Gh} {b o : Nat} {xs : List abL} (h : bW G b o (aA dv xs)) : bW G b (o + 1) (aA dv (xs.drop 1)):=by
 cases xs with
 | nil=>obtain ⟨cs,h1,_⟩:=h;exact ⟨cs,h1,fun i v hv=>by simp [aA] at hv⟩
 | cons x r =>
  obtain ⟨cs,h1,h2⟩:=h
  refine ⟨cs,h1,fun i v hv=>?_⟩
  have:=h2 (i + 1) v (by simpa [aA,dv] using hv)
  rw [show o + 1 + i = o + (i + 1) by omega];exact this
theorem pJ (xs : List abL) (i : Nat) : ae (xs.drop 1) i = ae xs (i + 1):=by
 cases xs with
 | nil=>simp [ae]
 | cons x r=>simp [ae,List.getD]
theorem lL {xs : List abL} {i : Nat} (h : i < xs.length) : c0 (xs.take (i + 1)) = c0 (xs.take i) + (ae xs i).length:=by
 rw [dK h,tz]
theorem zW {v : Value} {xs : List abL} {c : UInt8} (hs : bh G v 1 xs.length (aA dv xs)) (hl : c0 xs + xs.length ≤ 100000000) : am abK 95 [v,S [c]] G (· = S (aQ c xs)):=by
 by_cases h0 : xs = []
 ·subst h0
  refine jE [(0,_),(1,_)] Tryz.func95 Tryz.ntmps95 fun B hB=>?_
  repeat' (first | refine jR ?_ | (refine jo ?_;refine jV (cY F aS) ?_) | refine ac F F ?_)
  refine jY (vs:=[_]) ?_
  rfl
 have hpos:=List.length_pos_iff.2 h0
 obtain ⟨bv,ov,cv,rfl,hsv⟩:=hs.expl oM
 by_cases h1 : xs.length = 1
 ·obtain ⟨x,rfl⟩:=List.length_eq_one_iff.1 h1
  refine jE [(0,_),(1,_)] Tryz.func95 Tryz.ntmps95 fun B hB=>?_
  repeat' (first | refine jR ?_ | (refine jo ?_;first | refine jV (aw F) ?_ | refine jV (ax F F oM) ?_ | refine jV (aI F F aS F F) ?_) | refine ac F F ?_ | refine ad F F ?_)
  refine jY (vs:=[_]) ?_
  rfl
 have hcap:=hs.cap
 have hq : ¬ (9223372036854775807 / ((xs.length : Int) - 1) ≤ ((([c] : abL).length : Nat) : Int)):=by
  have : (2 : Int) ≤ 9223372036854775807 / ((xs.length : Int) - 1):=Int.le_ediv_of_mul_le oM oM
  have e : ((([c] : abL).length : Nat) : Int) = 1:=rfl
  omega
 have e1 : ((([c] : abL).length : Nat) : Int) * ((xs.length : Int) - 1) = (xs.length : Int) - 1:=by
  have e : ((([c] : abL).length : Nat) : Int) = 1:=rfl
  rw [e];omega
 have p1 : ((([c] : abL).length : Nat) : Int) * ((xs.length : Int) - 1) ≤ 9223372036854775807:=by rw [e1];omega
 have p2 : -9223372036854775808 ≤ ((([c] : abL).length : Nat) : Int) * ((xs.length : Int) - 1):=by rw [e1];omega
 have p3 : 0 + ((([c] : abL).length : Nat) : Int) * ((xs.length : Int) - 1) ≤ 9223372036854775807:=by rw [e1];omega
 have p4 : -9223372036854775808 ≤ 0 + ((([c] : abL).length : Nat) : Int) * ((xs.length : Int) - 1):=by rw [e1];omega
 refine jE [(0,_),(1,_)] Tryz.func95 Tryz.ntmps95 fun B hB=>?_
 repeat' (first | refine jM ?_ | (refine jo ?_;refine jV (aw F) ?_) | refine ac F F ?_ | (refine ad F (by refine decide_eq_false ?_;first | assumption | omega) ?_))
 refine Nx.re (d:=5) (v':=I ((xs.length : Int) - 1 + (c0 (xs.take 0) : Nat))) F (congrArg (Value.int .i64) (by rw [e1];simp [c0])) ?_
 refine aR (ι:=Nat) (fun i=>i ≤ xs.length) (fun i=>[(0,.slice (some ⟨bv,ov,none⟩) xs.length cv),(1,S [c]),(39,.slice (some ⟨bv,ov,none⟩) xs.length cv),(40,I xs.length),(41,I i),(5,I ((xs.length : Int) - 1 + (c0 (xs.take i) : Nat)))]) (fun _=>G) (fun i=>[]) (fun i=>xs.length - i) 0 ?_ tU F aX (fun i Hi=>?_)
 ·exact Nat.zero_le _
 have hb1:=d3 xs i
 by_cases hi : i < xs.length
 ·have hb2:=lL hi
  have hb3:=d3 xs (i + 1)
  repeat' (first | refine jM ?_ | (refine jo ?_;first | refine jV (ax F F oM) ?_ | (refine jV (gS F F aS ?_) ?_;focus omega)) | refine ac F (ay oM) ?_ | refine ad F (aC oM) ?_)
  refine Nx.re (d:=5) (v':=I ((xs.length : Int) - 1 + (c0 (xs.take (i + 1)) : Nat))) F (congrArg (Value.int .i64) (by rw [hb2];omega)) ?_
  exact aW (i + 1) oM oM tU F aX
 have hin : i = xs.length:=oM
 subst hin
 rw [List.take_length] at *
 refine Nx.re (d:=5) (v':=I ((xs.length - 1 + c0 xs : Nat) : Int)) F (congrArg (Value.int .i64) oM) ?_
 have hb0 : (ae xs 0).length ≤ c0 xs:=by have:=lL (i:=0) hpos;have:=d3 xs (0 + 1);omega
 have hw0 : 0 + (ae xs 0).length ≤ 1000000000:=oM
 have hsv1:=hsv.tailS
 have hdl : (xs.drop 1).length = xs.length - 1:=by rw [List.length_drop]
 have eJ0 : aQ c (xs.take (0 + 1)) = ae xs 0:=by rw [dK hpos];rfl
 repeat' (first | refine jR ?_ | (refine jo ?_;first | refine jV (aw F) ?_ | refine jV (ax F F oM) ?_ | (refine jV (gS F F aS ?_) ?_;focus omega) | refine jL fun _=>?_ | refine jV (aar F F oM) ?_ | (refine af F F F (yd oM) F ?_;rintro _ _ ⟨b2,c2,rfl⟩;dsimp only [zA,fA]) | (refine k8 F F F (oE (by (repeat (assumption));done)) rfl ?_;rintro _ _ ⟨b3,c3,rfl,rfl⟩;dsimp only [zA,fA])) | refine ad F (aC oM) ?_)
 rename_i x _
 refine Nx.cast (L':=[.acc (.slice (some ⟨b3,0,none⟩) (aQ c (xs.take (0 + 1))).length (c3 + 1)) gc 1 (aQ c (xs.take (0 + 1))).length (co (aQ c (xs.take (0 + 1)))),.blk x (.cells (List.toArray [Pt x 0,.slice (some ⟨b3,0,none⟩) (aQ c (xs.take (0 + 1))).length (c3 + 1)]) dU (0,0))]) (by rw [eJ0];simp only [Nat.zero_add]) ?_
 refine aR (ι:=Nat × Nat × Nat) (fun q=>q.1 ≤ xs.length - 1) (fun q=>[(1,S [c]),(63,.slice (some ⟨bv,ov + 1,none⟩) (xs.length - 1) (cv - 1)),(64,I (xs.length - 1 : Nat)),(65,I q.1),(8,Pt x 0)]) (fun _=>G) (fun q=>[.acc (.slice (some ⟨q.2.1,0,none⟩) (aQ c (xs.take (q.1 + 1))).length (q.2.2 + 1)) gc 1 (aQ c (xs.take (q.1 + 1))).length (co (aQ c (xs.take (q.1 + 1)))),.blk x (.cells (List.toArray [Pt x 0,.slice (some ⟨q.2.1,0,none⟩) (aQ c (xs.take (q.1 + 1))).length (q.2.2 + 1)]) dU (0,0))]) (fun q=>xs.length - q.1) (0,b3,c3) ?_ tU F aX (fun q Hq=>?_)
 ·exact Nat.zero_le _
 obtain ⟨i,b4,c4⟩:=q
 dsimp only at Hq ⊢
 have hj1:=e9 c (xs.take (i + 1))
 have hj2:=d3 xs (i + 1)
 have hj3 : (xs.take (i + 1)).length ≤ xs.length:=by rw [List.length_take];omega
 by_cases hi2 : i < xs.length - 1
 ·have hwA : (aQ c (xs.take (i + 1))).length + ([c] : abL).length ≤ 1000000000:=by rw [List.length_singleton];omega
  have hy1:=lL (xs:=xs) (i:=i + 1) oM
  have hy2:=d3 xs (i + 1 + 1)
  have hwB : (aQ c (xs.take (i + 1))).length + ([c] : abL).length + (ae (xs.drop 1) i).length ≤ 1000000000:=by rw [pJ,List.length_singleton];omega
  have ej : aQ c (xs.take (i + 1 + 1)) = aQ c (xs.take (i + 1)) ++ c :: ae (xs.drop 1) i:=by
   rw [dK oM,kK c _ _ (by rw [ne_eq,List.take_eq_nil_iff];simp [h0]),pJ]
  repeat' (first | refine jM ?_ | (refine jo ?_;first | refine jV (ax F F oM) ?_ | (refine jV (gS F F aS ?_) ?_;focus omega) | (refine k8 F F F (oE (by (repeat (assumption));done)) rfl ?_;rintro _ _ ⟨b3,c3,rfl,rfl⟩;dsimp only [zA,fA])) | refine ac F (ay oM) ?_)
  refine Nx.cast (L':=[.acc (.slice (some ⟨b3,0,none⟩) (aQ c (xs.take (i + 1 + 1))).length (c3 + 1)) gc 1 (aQ c (xs.take (i + 1 + 1))).length (co (aQ c (xs.take (i + 1 + 1)))),.blk x (.cells (List.toArray [Pt x 0,.slice (some ⟨b3,0,none⟩) (aQ c (xs.take (i + 1 + 1))).length (c3 + 1)]) dU (0,0))]) (by
   have e2 : (aQ c (xs.take (i + 1 + 1))).length = (aQ c (xs.take (i + 1))).length + ([c] : abL).length + (ae (xs.drop 1) i).length:=by rw [ej];simp;omega
   have e3 : co (aQ c (xs.take (i + 1 + 1))) = co (aQ c (xs.take (i + 1))) ++ co [c] ++ co (ae (xs.drop 1) i):=by rw [ej];simp [co]
   rw [e2,e3]) ?_
  exact aW (i + 1,b3,c3) (by dsimp only;omega) (by dsimp only;omega) tU rfl aX
 ·have ei : xs.take (i + 1) = xs:=List.take_of_length_le oM
  rw [ei] at hj1 ⊢
  repeat' (first | refine jR ?_ | (refine jo ?_;(refine k8 F F F (rx oM) F ?_;rintro _ _ ⟨rfl,rfl⟩;dsimp only [zA,fA])) | refine ad F (aC oM) ?_)
  refine jY (vs:=[_]) ?_
  rfl
structure VC where
 what : Nat
 text : abL
 tag : Int
 a : Option Addr
 n : Nat
 c : Nat
instance : Inhabited VC:=⟨⟨0,[],0,none,0,0⟩⟩
abbrev VC.sl (v : VC) : Value:=.slice v.a v.n v.c
def b6 (v : VC) : List Value:=[U8 (v.what : Nat),S v.text,I v.tag,v.sl]
instance : RowF b6 4:=⟨fun _=>rfl⟩
mutual
def V.rep (G : Gh) : V → VC → Prop
 | .nd w x t ks,c=>(c.what = w ∧ w ≤ 255) ∧ c.text = x ∧ (c.tag = t ∧ 0 ≤ t ∧ t ≤ 999999) ∧ (c.n = ks.length ∧ (w = 61 → ks.length = 1)) ∧ ∃ cs,bh G c.sl 4 cs.length (aA b6 cs) ∧ V.reps G ks cs
def V.reps (G : Gh) : List V → List VC → Prop
 | [],cs=>cs = []
 | v :: r,cs=>∃ c cs',cs = c :: cs' ∧ V.rep G v c ∧ V.reps G r cs'
end
theorem gu {G : Gh} : ∀ {ks : List V} {cs : List VC},V.reps G ks cs → cs.length = ks.length
 | [],cs,h=>by rw [V.reps] at h;subst h;rfl
 | v :: r,cs,h=>by
  rw [V.reps] at h
  obtain ⟨c,cs',rfl,_,h2⟩:=h
  rw [List.length_cons,List.length_cons,gu h2]
theorem iF {G : Gh} : ∀ {ks : List V} {cs : List VC},V.reps G ks cs → ∀ i,i < ks.length → V.rep G (ae ks i) (ae cs i)
 | [],_,_,i,hi=>by simp at hi
 | v :: r,cs,h,i,hi=>by
  rw [V.reps] at h
  obtain ⟨c,cs',rfl,h1,h2⟩:=h
  cases i with
  | zero=>exact h1
  | succ i=>exact iF h2 i (by simpa using hi)
theorem gQ {G : Gh} {v : V} {c : VC} (h2 : V.rep G v c) : ∀ {ks : List V} {cs : List VC},V.reps G ks cs → V.reps G (ks ++ [v]) (cs ++ [c])
 | [],cs,h=>by
  rw [V.reps] at h;subst h
  exact ⟨c,[],F,h2,F⟩
 | u :: r,cs,h=>by
  rw [V.reps] at h
  obtain ⟨d,cs',rfl,h1,h3⟩:=h
  exact ⟨d,cs' ++ [c],F,h1,gQ h2 h3⟩
mutual
theorem fP {G G' : Gh} (hl : Gh.le G G') : ∀ {v : V} {c : VC},V.rep G v c → V.rep G' v c
 | .nd w x t ks,c,h=>by
  rw [V.rep] at h ⊢
  obtain ⟨h1,h2,h3,h4,cs,h5,h6⟩:=h
  exact ⟨h1,h2,h3,h4,cs,h5.mono hl,bU hl h6⟩
theorem bU {G G' : Gh} (hl : Gh.le G G') : ∀ {ks : List V} {cs : List VC},V.reps G ks cs → V.reps G' ks cs
 | [],cs,h=>h
 | v :: r,cs,h=>by
  rw [V.reps] at h ⊢
  obtain ⟨c,cs',e,h1,h2⟩:=h
  exact ⟨c,cs',e,fP hl h1,bU hl h2⟩
end
theorem mj {G : Gh} {w : Nat} {x : abL} {t : Int} {ks : List V} {c : VC} (h : V.rep G (.nd w x t ks) c) : ∃ (a : Option Addr) (k : Nat) (cs : List VC),c = ⟨w,x,t,a,ks.length,k⟩ ∧ w ≤ 255 ∧ (0 ≤ t ∧ t ≤ 999999) ∧ (w = 61 → ks.length = 1) ∧ cs.length = ks.length ∧ bh G (.slice a ks.length k) 4 cs.length (aA b6 cs) ∧ V.reps G ks cs:=by
 rw [V.rep] at h
 obtain ⟨⟨h1,h1'⟩,h2,⟨h3,h3'⟩,⟨h4,h4'⟩,cs,h5,h6⟩:=h
 obtain ⟨w',x',t',a,n,k⟩:=c
 dsimp only at h1 h2 h3 h4 h5
 subst h1;subst h2;subst h3;subst h4
 exact ⟨a,k,cs,F,h1',h3',h4',gu h6,h5,h6⟩
theorem cM {G : Gh} {w : Nat} {x : abL} {t : Int} {ks : List V} {a : Option Addr} {k m : Nat} {cs : List VC} (hw : w ≤ 255) (ht : 0 ≤ t ∧ t ≤ 999999) (h61 : w = 61 → ks.length = 1) (hm : m = ks.length) (hs : bh G (.slice a m k) 4 cs.length (aA b6 cs)) (hk : V.reps G ks cs) : V.rep G (.nd w x t ks) ⟨w,x,t,a,m,k⟩:=by
 rw [V.rep];exact ⟨⟨F,hw⟩,F,⟨F,ht⟩,⟨hm,h61⟩,cs,hs,hk⟩
theorem w6 {G : Gh} : bh G aK 4 ([] : List VC).length (aA b6 []):=⟨rfl,.inl ⟨rfl,rfl⟩⟩
theorem bj {G : Gh} {w : Nat} {x : abL} {t : Int} (hw : w ≤ 255 ∧ w ≠ 61) (ht : 0 ≤ t ∧ t ≤ 999999) : V.rep G (.nd w x t []) ⟨w,x,t,none,0,0⟩:=cM hw.1 ht (fun h=>absurd h hw.2) rfl w6 rfl
theorem kD : ∀ {ks : List V} {i : Nat},i < ks.length → ae (V.outs ks) i = (ae ks i).out
 | [],i,h=>by simp at h
 | v :: r,0,_=>rfl
 | v :: r,i + 1,h=>by
  have:=kD (ks:=r) (i:=i) (by simpa using h)
  simpa [V.outs,ae] using this
theorem iI (ks : List V) : (V.outs ks).length = ks.length:=by rw [V.outs_map];simp
theorem fU {ks : List V} {i : Nat} (h : i < ks.length) : V.tot (ae ks i) ≤ V.tots ks:=by
 rw [a6 h];exact qm (List.getElem_mem h)
theorem fx {t : Int} (h : t ≤ 999999) : (br t).length ≤ 19:=iO oM
theorem qB {w : Nat} {x : abL} {t : Int} {e : Bool} {j : abL} (ht : t ≤ 999999) : (ew w x t e j).length ≤ 25 + x.length + j.length:=by
 have hd:=fx ht
 unfold ew
 split
 ·simp;omega
 split
 ·simp;omega
 split
 ·split
  ·simp;omega
  ·simp;omega
 split
 ·simp;omega
 split
 ·simp;omega
 split
 ·simp;omega
 split
 ·simp;omega
 ·omega
mutual
theorem o4 {G : Gh} : ∀ {v : V} {c : VC},V.rep G v c → v.out.length + 1 ≤ 2 * v.tot
 | .nd w x t ks,c,h=>by
  rw [V.rep] at h
  obtain ⟨_,_,⟨_,h3⟩,_,cs,_,h6⟩:=h
  have h1:=na h6
  have h2:=e9 44 (V.outs ks)
  rw [iI] at h2
  have h4:=qB (w:=w) (x:=x) (e:=ks.isEmpty) (j:=aQ 44 (V.outs ks)) h3.2
  have h5:=dT ks
  rw [V.out,V.tot]
  omega
theorem na {G : Gh} : ∀ {ks : List V} {cs : List VC},V.reps G ks cs → c0 (V.outs ks) + ks.length ≤ 2 * V.tots ks
 | [],cs,h=>by simp [V.outs,c0]
 | v :: r,cs,h=>by
  rw [V.reps] at h
  obtain ⟨c,cs',_,h1,h2⟩:=h
  have h3:=o4 h1
  have h4:=na h2
  simp only [V.outs,c0,List.map_cons,List.sum_cons,V.tots,List.length_cons] at *
  omega
end
end Go.E
