/- Contracts and plain laws that the statement rests on, part 2. Conditions: as each says. -/
import Derived.Test.YtlkjjgmfhafnaaaGreatDoorQ1
set_option linter.unusedVariables false
set_option linter.unusedSimpArgs false
namespace Go.E
section
variable {P : Program} {n : Nat} {D : List Deferred} {E : bm} {M : World → Prop} {d : Option Nat} {ty : TypeId} {pos : String} {aft : Array Edge} {gd : Option (Nat × Bool)}
theorem xv {x : Operand} {T el : TypeId} {size bytes : Nat} {zero : Value} {p : Option Addr} {len cap : Nat} [TI P T (.slice el) size bytes zero] (hx : ev E x = some (.slice p len cap)) : Gives P n D E M ⟨d,.call ⟨.builtin .cap,[x].toArray,[T].toArray⟩,ty,pos,aft,gd⟩ (I cap):=Gives.mk fun a w hs _=>by
 simp [execOp,resolve,hs.ev hx,invoke,builtin,Builtin.cap_,b5 (T:=T) (desc:=.slice el) (size:=size) (bytes:=bytes) (zero:=zero),goInt]
theorem abh {T el : TypeId} {x lo : Operand} {desc' : TypeDesc} {size bytes size' bytes' : Nat} {zero zero' : Value} {k : IntKind} {m : Int} {b o len cap : Nat} [TI P T (.slice el) size bytes zero] [TI P el desc' size' bytes' zero']
  (hx : ev E x = some (.slice (some ⟨b,o,none⟩) len cap)) (hl : ev E lo = some (.int k m)) (h0 : 0 ≤ m ∧ m ≤ len ∧ m < cap) :
  Gives P n D E M ⟨d,.slice T x (some lo) none none,ty,pos,aft,gd⟩ (.slice (some ⟨b,o + m.toNat * size',none⟩) (len - m.toNat) (cap - m.toNat)):=by
 obtain ⟨o',h1,h2⟩:=wG (P:=P) (n:=n) (D:=D) (M:=M) (d:=d) (ty:=ty) (pos:=pos) (aft:=aft) (gd:=gd) (T:=T) (el:=el) (desc':=desc') (size':=size') (bytes':=bytes') (zero':=zero') (size:=size) (bytes:=bytes) (zero:=zero) hx hl ⟨h0.1,h0.2.1⟩
 rw [← h1 h0.2.2];exact h2
theorem pH {S : World → Prop} {G0 : Gh} {L0 : List Own} [k : Kn S G0 L0] {b : Nat} {cs : List Value} {T0 : TypeId} {fr : Nat × Nat} (hm : Own.blk b (.cells cs.toArray T0 fr) ∈ L0) {w : World} (hw : S w) : w.shape? b = some (T0,cs.length):=by
 obtain ⟨B,G,L,_,hL,hst⟩:=k.kn w hw
 have h : w.heap[b]? = some (.cells cs.toArray T0 fr):=hst.own _ (hL _ hm)
 simp [World.shape?,h]
theorem abf {T T' t T0 : TypeId} {x : Operand} {b s1 b1 js jb : Nat} {z1 jz : Value} {jd : TypeDesc} {G0 : Gh} {L0 : List Own} {cs : List Value} {fr : Nat × Nat} [t1 : TI P T (.pointer t) s1 b1 z1] [t2 : TI P t jd js jb jz] [Kn M G0 L0] [h : BlkI L0 b cs T0 fr]
  (hd : P.underlying T' = some .unsafePointer) (hx : ev E x = some (Pt b 0)) (hj : Nat.beq js 0 = false) (hc : cs.isEmpty = false) : Gives P n D E M ⟨d,.convert T T' x,ty,pos,aft,gd⟩ (Pt b 0):=Gives.mk fun a w hs hw=>by
 obtain ⟨j,hj1,hj2,_,_⟩:=t2.inf
 have hl : 0 < cs.length:=by cases cs with | nil=>cases hc | cons=>simp
 have:=Lib.run_to_unsafe (P:=P) w (src:=T) (dst:=T') (t:=t) (j:=j) ⟨b,0,none⟩ t1.und hd hj1 (by rw [hj2];intro e;subst e;simp at hj) (pH (S:=M) h.mem hw) hl
 simp only [execOp,hs.ev hx,Sem.run_bind,this,Result.andThen_ok,Sem.run_pure]
theorem yg {T T' t T0 : TypeId} {x : Operand} {b s1 b1 js jb : Nat} {z1 jz : Value} {jd : TypeDesc} {G0 : Gh} {L0 : List Own} {cs : List Value} {fr : Nat × Nat} [t1 : TI P T' (.pointer t) s1 b1 z1] [t2 : TI P t jd js jb jz] [Kn M G0 L0] [h : BlkI L0 b cs T0 fr]
  (hd : P.underlying T = some .unsafePointer) (hx : ev E x = some (Pt b 0)) (hl : liesAt P P.depth T0 (cs.length / P.cellsOf T0) 0 t 1 = true) : Gives P n D E M ⟨d,.convert T T' x,ty,pos,aft,gd⟩ (Pt b 0):=Gives.mk fun a w hs hw=>by
 obtain ⟨j,hj1,_,_,_⟩:=t2.inf
 have:=Lib.run_from_unsafe (P:=P) w (src:=T) (dst:=T') (u:=t) (j:=j) ⟨b,0,none⟩ hd t1.und hj1 (pH (S:=M) h.mem hw) hl
 simp only [execOp,hs.ev hx,Sem.run_bind,this,Result.andThen_ok,Sem.run_pure]
theorem zX {T T' el : TypeId} {x y : Operand} {size bytes js jb : Nat} {zero jz : Value} {jd : TypeDesc} {p : Addr} [t1 : TI P T (.pointer el) size bytes zero] [t2 : TI P el jd js jb jz] (hx : ev E x = some (.pointer (some p))) (hy : ev E y = some (.pointer (some p))) : Gives P n D E M ⟨d,.binOp .neq T x y T',ty,pos,aft,gd⟩ (Bo false):=dp hx hy rfl fun w=>by
 obtain ⟨j,hj1,_,_,_⟩:=t2.inf
 exact Lib.run_neq_ptr_same w p t1.und hj1
theorem yj {T T' el : TypeId} {x y : Operand} {s1 b1 js jb : Nat} {z1 jz : Value} {jd : TypeDesc} {b o m c : Nat} [t1 : TI P T (.slice el) s1 b1 z1] [t2 : TI P el jd js jb jz] (hx : ev E x = some (.slice (some ⟨b,o,none⟩) m c)) (hy : ev E y = some aH) :
  Gives P n D E M ⟨d,.call ⟨.builtin .copy,[x,y].toArray,[T,T'].toArray⟩,ty,pos,aft,gd⟩ (I (0 : Nat)):=Gives.mk fun a w hs _=>by
 obtain ⟨j,hj1,_,_,_⟩:=t2.inf
 have h1:=run_copy_nil (P:=P) w T T' ty el ⟨b,o,none⟩ m c t1.und (by rw [hj1];rfl)
 have e1 : ([x,y].toArray.map a.eval) = #[.slice (some ⟨b,o,none⟩) m c,aH]:=by simp [hs.ev hx,hs.ev hy]
 simp only [execOp,resolve,e1,Sem.run_bind,Sem.run_pure,Result.andThen_ok,invoke,builtin,h1]
 rfl
theorem zV {T : TypeId} {x : Operand} {b o m c : Nat} (hx : ev E x = some (.slice (some ⟨b,o,none⟩) m c)) (hc : Nat.beq c 0 = false) : Gives P n D E M ⟨d,.call ⟨.builtin .unsafeSliceData,[x].toArray,[T].toArray⟩,ty,pos,aft,gd⟩ (Pt b o):=Gives.mk fun a w hs _=>by
 have h1:=Lib.run_unsafeSliceData_row (P:=P) w #[T] ty ⟨b,o,none⟩ m c (by rintro rfl;simp at hc)
 have e1 : ([x].toArray.map a.eval) = #[.slice (some ⟨b,o,none⟩) m c]:=by simp [hs.ev hx]
 simp only [execOp,resolve,e1,Sem.run_bind,Sem.run_pure,Result.andThen_ok,invoke,builtin,h1]
theorem yf {T : TypeId} {x : Operand} (hx : ev E x = some aH) : Gives P n D E M ⟨d,.call ⟨.builtin .unsafeSliceData,[x].toArray,[T].toArray⟩,ty,pos,aft,gd⟩ (.pointer none):=Gives.mk fun a w hs _=>by
 have h1:=Lib.run_unsafeSliceData_nil (P:=P) w #[T] ty 0 0
 have e1 : ([x].toArray.map a.eval) = #[aH]:=by simp [hs.ev hx]
 simp only [execOp,resolve,e1,Sem.run_bind,Sem.run_pure,Result.andThen_ok,invoke,builtin,h1]
theorem ya {T T' : TypeId} {x y : Operand} {p : Option Addr} (hx : ev E x = some (.pointer p)) (hy : ev E y = some (I (0 : Nat))) : Gives P n D E M ⟨d,.call ⟨.builtin .unsafeString,[x,y].toArray,[T,T'].toArray⟩,ty,pos,aft,gd⟩ (S []):=Gives.mk fun a w hs _=>by
 have h1:=Lib.run_unsafeString_none (P:=P) w T T' ty p
 have e1 : ([x,y].toArray.map a.eval) = #[.pointer p,.int .i64 0]:=by simp [hs.ev hx,hs.ev hy]
 simp only [execOp,resolve,e1,Sem.run_bind,Sem.run_pure,Result.andThen_ok,invoke,builtin,h1]
 rfl
end
section
variable {P : Program} {n : Nat} {D : List Deferred} {E : bm} {B : Base} {G : Gh} {L : List Own} {K : Act → World → Prop} {Q : Exit → Act → World → Prop} {ty : TypeId} {pos : String} {aft : Array Edge} {gd : Option (Nat × Bool)} {d : Nat}
theorem St.freeze {w : World} {b m cap : Nat} {T : TypeId} {xs : List Value} (h : St B G (.acc (.slice (some ⟨b,0,none⟩) m cap) T 1 m xs :: L) w) (k : Nat) : St B G L (w.freeze ⟨b,0,none⟩ k):=by
 obtain ⟨h1,⟨h2,_⟩ | ⟨b',cap',rest,e,hc,hl,hb⟩⟩ : fP w _ T 1 m xs:=h.own _ List.mem_cons_self
 ·cases h2
 simp only [Value.slice.injEq,Option.some.injEq,Addr.mk.injEq,and_true,true_and] at e
 obtain ⟨rfl,rfl⟩:=e
 unfold World.freeze
 by_cases hk : k = 0
 ·rw [if_pos hk];exact h.weaken (List.sublist_cons_self _ _)
 ·rw [if_neg hk]
  have h2:=h.upd (y:=.blk b (.cells (xs ++ rest).toArray T (0,k))) (w':={ w with heap:=w.heap.modify b fun | .cells c elem (lo,hi)=>.cells c elem (if lo == hi then (0,0 + k) else (min lo 0,max hi (0 + k))) | o=>o }) (b:=b) rfl rfl (by
   show (w.heap.modify b _)[b]? = _
   rw [Array.getElem?_modify,if_pos rfl,hb]
   simp) (fun c hc=>by
    show (w.heap.modify b _)[c]? = _
    rw [Array.getElem?_modify,if_neg (fun e=>hc e.symm)]) rfl rfl rfl (by simp)
  exact h2.weaken (List.sublist_cons_self _ _)
class AccD (L : List Own) (b : Nat) (m cap : outParam Nat) (T : outParam TypeId) (sz : outParam Nat) (xs : outParam (List Value)) (L' : outParam (List Own)) : Prop where
 del : Del (.acc (.slice (some ⟨b,0,none⟩) m cap) T sz m xs) L L'
instance {b m cap : Nat} {T : TypeId} {sz : Nat} {xs : List Value} {r : List Own} : AccD (.acc (.slice (some ⟨b,0,none⟩) m cap) T sz m xs :: r) b m cap T sz xs r:=⟨.here⟩
instance {b m cap : Nat} {T : TypeId} {sz : Nat} {xs : List Value} {z : Own} {r r' : List Own} [h : AccD r b m cap T sz xs r'] : AccD (z :: r) b m cap T sz xs (z :: r'):=⟨.there h.del⟩
theorem aas {T T' el : TypeId} {x y : Operand} {b m cap s1 b1 s2 b2 : Nat} {z1 z2 : Value} {l : act} {L' : List Own} [t1 : TI P T (.pointer el) s1 b1 z1] [t2 : TI P el (.int .u8) s2 b2 z2] [ha : AccD L b m cap el 1 (bi l) L']
  (hc1 : P.cellsOf el = 1) (hx : ev E x = some (Pt b 0)) (hy : ev E y = some (I (m : Nat))) (hlt : Nat.blt d n = true) (hm : m ≤ 9223372036854775807)
  (k : Nx n D ((d,S l) :: E) B G L' K) : Nx n D E B G L (ow P ⟨some d,.call ⟨.builtin .unsafeString,[x,y].toArray,[T,T'].toArray⟩,ty,pos,aft,gd⟩ Q K):=Nx.mk fun a w hs hw=>by
 have hw1:=hw.perm ha.del.perm
 have hat : fP w (.slice (some ⟨b,0,none⟩) m cap) el 1 m (bi l):=hw1.own _ List.mem_cons_self
 obtain ⟨h1,⟨h2,_⟩ | ⟨b',cap',rest,e,hc,hl,hb⟩⟩:=hat
 ·cases h2
 simp only [Value.slice.injEq,Option.some.injEq,Addr.mk.injEq,and_true,true_and] at e
 obtain ⟨rfl,rfl⟩:=e
 have hlm : l.length = m:=by simpa [bi] using h1
 have e1 : ([x,y].toArray.map a.eval) = #[.pointer (some ⟨b,0,none⟩),.int .i64 (m : Nat)]:=by simp [hs.ev hx,hs.ev hy]
 unfold ow Oper.wp
 by_cases h0 : l = []
 ·subst h0
  have hm0 : m = 0:=by simpa using hlm.symm
  subst hm0
  have hr:=Lib.run_unsafeString_none (P:=P) w T T' ty (some ⟨b,0,none⟩)
  have : (execOp a.eval ⟨some d,.call ⟨.builtin .unsafeString,[x,y].toArray,[T,T'].toArray⟩,ty,pos,aft,gd⟩).run P w = .ok (.value (S [])) w:=by
   simp only [execOp,resolve,e1,Sem.run_bind,Sem.run_pure,Result.andThen_ok,invoke,builtin]
   have hr' : (Builtin.unsafeString_ [T,T'].toArray ty #[.pointer (some ⟨b,0,none⟩),.int .i64 ((0 : Nat) : Int)]).run P w = .ok (.string .empty) w:=hr
   rw [hr'];rfl
  rw [this,Oper.upon_value]
  exact k.go _ w (hs.put (by simpa using hlt)) (hw1.weaken (List.sublist_cons_self _ _))
 ·have hcell : ∀ j x,l[j]? = some x → w.cell? ((⟨b,0,none⟩ : Addr).add j) = some (.int .u8 x.toNat):=fun j x hj=>by
   have hv : (bi l)[j]? = some (.int .u8 x.toNat):=by simp [bi,hj]
   rw [lB]
   exact ((eL (S:=St B G (.acc (.slice (some ⟨b,0,none⟩) m cap) el 1 m (bi l) :: L')) (m:=m) (cap:=cap) (T:=el) (sz:=1) (xs:=bi l) List.mem_cons_self).go j _ hv).go w hw1
  have hsh : w.shape? b = some (el,(bi l ++ rest).length):=by simp [World.shape?,hb]
  have hr:=Lib.run_unsafeString_row (P:=P) w T T' ty el t1.und hc1 b _ hsh l h0 (by simp [bi]) oM hcell
  have : (execOp a.eval ⟨some d,.call ⟨.builtin .unsafeString,[x,y].toArray,[T,T'].toArray⟩,ty,pos,aft,gd⟩).run P w = .ok (.value (S l)) (w.freeze ⟨b,0,none⟩ l.length):=by
   simp only [execOp,resolve,e1,Sem.run_bind,Sem.run_pure,Result.andThen_ok,invoke,builtin]
   have hr' : (Builtin.unsafeString_ [T,T'].toArray ty #[.pointer (some ⟨b,0,none⟩),.int .i64 (m : Nat)]).run P w = .ok (S l) (w.freeze ⟨b,0,none⟩ l.length):=by rw [← hlm];exact hr
   rw [hr'];rfl
  rw [this,Oper.upon_value]
  exact k.go _ _ (hs.put (by simpa using hlt)) (hw1.freeze _)
theorem lK (l : act) : Lib.strCells ⟨l.toArray⟩ = bi l:=by simp [Lib.strCells,bi]
theorem sR {v : Value} {m : Nat} {T T2 el : TypeId} {s1 b1 s2 b2 : Nat} {z1 z2 : Value} {xs : List Value} {l : act} {w : World} {R : List Own} [h1' : TI P T (.slice el) s1 b1 z1] [h2' : TI P T2 .string s2 b2 z2] [he : TI P el (.int .u8) 1 1 (.int .u8 0)]
  (hb : m + l.length ≤ 1000000000) (hw : St B G (.acc v el 1 m xs :: R) w) :
  ∃ v' w',(Builtin.append_ #[T,T2] ty #[v,S l]).run P w = .ok v' w' ∧ St B G (.acc v' el 1 (m + l.length) (xs ++ bi l) :: R) w' ∧ (v = aH → l = [] → v' = aH) ∧ ((v ≠ aH ∨ l ≠ []) → ∃ b cap,v' = .slice (some ⟨b,0,none⟩) (m + l.length) cap ∧ ((∀ p q,v ≠ .slice p q 0) ∨ l ≠ [] → 0 < cap)):=by
 obtain ⟨hxl,hacc⟩ : fP w v el 1 m xs:=hw.own _ List.mem_cons_self
 obtain ⟨ie,hi,hsz,hby,hze⟩:=he.inf
 have ht:=h1'.und
 have hu:=h2'.und
 have hss : (⟨l.toArray⟩ : ByteArray).size = l.length:=nb l
 have hul : (bi l).length = l.length:=by simp [bi]
 have mk : ∀ nc,m + l.length ≤ nc →
   St B G (.acc (.slice (some ⟨w.heap.size,0,none⟩) (m + l.length) nc) el 1 (m + l.length) (xs ++ bi l) :: R) (w.drew.alloc (.cells (xs ++ bi l ++ bM [.int .u8 0] (nc - (m + l.length))).toArray el)):=by
  intro nc hnc
  have h2:=hw.drew.alloc (.cells (xs ++ bi l ++ bM [.int .u8 0] (nc - (m + l.length))).toArray el)
  have h3 : St B G (.blk w.drew.heap.size (.cells (xs ++ bi l ++ bM [.int .u8 0] (nc - (m + l.length))).toArray el) :: R) _:=h2.weaken (.cons_cons _ (List.sublist_cons_self _ _))
  refine h3.conv F ⟨by simp [hxl,hul],.inr ⟨_,nc,bM [.int .u8 0] (nc - (m + l.length)),F,hnc,?_,h3.own _ List.mem_cons_self⟩⟩
  simp only [List.length_append,hxl,hul,fU,List.length_cons,List.length_nil]
  omega
 have ez : (Builtin.zeroCells (Value.int .u8 0).cells) = fun k=>(bM [.int .u8 0] k).toArray:=by
  funext k;rw [← iY];rfl
 rcases hacc with ⟨rfl,rfl⟩ | ⟨b,cap,rest,rfl,hmc,hrl,hblk⟩
 ·have hx0 : xs = []:=by simpa using hxl
  subst hx0
  by_cases hk : l = []
  ·subst hk
   refine ⟨aH,w,?_,by simpa [bi] using hw,fun _ _=>rfl,fun h=>by rcases h with h | h <;> exact absurd F h⟩
   have hf : (Builtin.firstCells 1 0 (S [])).run P w = .ok #[] w:=by
    have:=Lib.run_firstCells_string (P:=P) w 1 ⟨([] : act).toArray⟩
    rw [nb] at this;simpa [Lib.strCells] using this
   simp [Builtin.append_,run_underlying ht,run_underlying hu,sizeOf,typeInfo,hi,hsz,Builtin.lenOf,nb,hf]
  ·have hpos : 0 < l.length:=List.length_pos_iff.2 hk
   have hr:=run_append_nil_string (P:=P) w T T2 ty el ie (.int .u8 0) ht hu hi hze ⟨l.toArray⟩ (by rw [hss];exact hpos) (by rw [hss];omega) (by rw [hss,hby];omega)
   rw [hss] at hr
   have hg:=grownCap_ge w l.length 0 el
   have:=mk (grownCap w l.length 0 el) (by simpa using hg)
   have e1 : (⟨l.toArray⟩ : ByteArray).data.map (fun b=>Value.int .u8 b.toNat) ++ Builtin.zeroCells (Value.int .u8 0).cells (grownCap w l.length 0 el - l.length) = (bi l ++ bM [.int .u8 0] (grownCap w l.length 0 el - l.length)).toArray:=by
    rw [ez];simp [bi]
   rw [e1] at hr
   simp only [Nat.zero_add,List.nil_append] at this ⊢
   exact ⟨_,_,hr,this,fun _ h=>absurd h hk,fun _=>⟨_,_,F,fun _=>by omega⟩⟩
 ·by_cases hfit : m + l.length ≤ cap
  ·have hr:=Lib.run_append_room_string (P:=P) w T T2 ty el ie ht hu hi hsz b m cap (xs ++ rest).toArray hblk ⟨l.toArray⟩ (by rw [hss];exact hfit) (by rw [hss];simp only [List.size_toArray];omega)
   have hcells : (List.take m (xs ++ rest) ++ bi l ++ List.drop (m + l.length) (xs ++ rest)) = xs ++ bi l ++ rest.drop l.length:=by
    have : m = xs.length:=oM
    rw [this];simp [List.drop_append]
   rw [hss,lK] at hr
   simp only [hcells] at hr
   refine ⟨_,_,hr,hw.upd (b:=b) F F ⟨by simp [hxl,hul],.inr ⟨b,cap,rest.drop l.length,F,hfit,?_,setRow_heap w b _ _ el _ hblk⟩⟩ (fun c hc=>setRow_other w b c _ hc) F F F (by simp),fun h=>(by cases h),fun _=>⟨b,cap,F,fun h=>?_⟩⟩
   ·simp only [List.length_append,List.length_drop] at *;omega
   ·rcases h with h | h
    ·rcases Nat.eq_zero_or_pos cap with h0 | h0
     ·subst h0;exact absurd F (h _ _)
     ·exact h0
    ·have:=List.length_pos_iff.2 h;omega
  ·have hnsc:=jw (m + l.length) cap oM
   have hold : ∀ j u,xs[j]? = some u → w.cell? ((⟨b,0,none⟩ : Addr).add j) = some u:=fun j u hj=>by
    rw [lB]
    exact ((eL (S:=St B G (.acc (.slice (some ⟨b,0,none⟩) m cap) el 1 m xs :: R)) (m:=m) (cap:=cap) (T:=el) (sz:=1) (xs:=xs) List.mem_cons_self).go j u hj).go w hw
   have hr:=Lib.run_append_grow_string (P:=P) w T T2 ty el ie (.int .u8 0) ht hu hi hze ⟨b,0,none⟩ m cap xs (by rw [hsz];simpa using hxl) hold ⟨l.toArray⟩ (by rw [hss];omega) (by rw [hss];omega) (by rw [hss,hby];omega)
   rw [hss,lK,ez] at hr
   have hg:=grownCap_ge w (m + l.length) cap el
   have:=mk (grownCap w (m + l.length) cap el) hg
   simp only [List.append_toArray] at hr this ⊢
   exact ⟨_,_,hr,this,fun h=>(by cases h),fun _=>⟨_,_,F,fun _=>by omega⟩⟩
theorem abP {m b cap : Nat} {s x : Operand} {T T2 el : TypeId} {s1 b1 s2 b2 : Nat} {z1 z2 : Value} {xs : List Value} {l : act} {L' : List Own} [TI P T (.slice el) s1 b1 z1] [TI P T2 .string s2 b2 z2] [TI P el (.int .u8) 1 1 (.int .u8 0)] [ha : AccI L (.slice (some ⟨b,0,none⟩) m (cap + 1)) el 1 m xs L']
  (hs : ev E s = some (.slice (some ⟨b,0,none⟩) m (cap + 1))) (hx : ev E x = some (S l)) (hlt : Nat.blt d n = true) (hb : m + l.length ≤ 1000000000)
  (kk : ∀ b' cap',Nx n D ((d,.slice (some ⟨b',0,none⟩) (m + l.length) (cap' + 1)) :: E) B G (.acc (.slice (some ⟨b',0,none⟩) (m + l.length) (cap' + 1)) el 1 (m + l.length) (xs ++ bi l) :: L') K) :
  Nx n D E B G L (ow P ⟨some d,.call ⟨.builtin .append,[s,x].toArray,[T,T2].toArray⟩,ty,pos,aft,gd⟩ Q K):=Nx.mk fun a w hsat hw=>by
 obtain ⟨v',w',hr,hst,_,h2⟩:=sR (P:=P) (ty:=ty) (T:=T) (T2:=T2) (el:=el) (s1:=s1) (b1:=b1) (z1:=z1) (s2:=s2) (b2:=b2) (z2:=z2) hb (hw.perm ha.del.perm)
 obtain ⟨b',cap',rfl,h3⟩:=h2 (.inl (by simp))
 obtain ⟨c,rfl⟩ : ∃ c,cap' = c + 1:=⟨cap' - 1,by have:=h3 (.inl (by simp));omega⟩
 have hrun : (execOp a.eval ⟨some d,.call ⟨.builtin .append,[s,x].toArray,[T,T2].toArray⟩,ty,pos,aft,gd⟩).run P w = .ok (.value (.slice (some ⟨b',0,none⟩) (m + l.length) (c + 1))) w':=by
  have e1 : ([s,x].toArray.map a.eval) = #[.slice (some ⟨b,0,none⟩) m (cap + 1),S l]:=by simp [hsat.ev hs,hsat.ev hx]
  simp only [execOp,resolve,e1,Sem.run_bind,Sem.run_pure,Result.andThen_ok,invoke,builtin,hr]
 unfold ow Oper.wp
 rw [hrun,Oper.upon_value]
 exact (kk b' c).go _ w' (hsat.put (by simpa using hlt)) hst
theorem aaN {s x : Operand} {T T2 el : TypeId} {s1 b1 s2 b2 : Nat} {z1 z2 : Value} {l : act} [TI P T (.slice el) s1 b1 z1] [TI P T2 .string s2 b2 z2] [TI P el (.int .u8) 1 1 (.int .u8 0)]
  (hs : ev E s = some aH) (hx : ev E x = some (S l)) (hlt : Nat.blt d n = true) (hb : 0 < l.length ∧ l.length ≤ 1000000000)
  (kk : ∀ b' cap',Nx n D ((d,.slice (some ⟨b',0,none⟩) l.length (cap' + 1)) :: E) B G (.acc (.slice (some ⟨b',0,none⟩) l.length (cap' + 1)) el 1 l.length (bi l) :: L) K) :
  Nx n D E B G L (ow P ⟨some d,.call ⟨.builtin .append,[s,x].toArray,[T,T2].toArray⟩,ty,pos,aft,gd⟩ Q K):=Nx.mk fun a w hsat hw=>by
 obtain ⟨v',w',hr,hst,_,h2⟩:=sR (P:=P) (ty:=ty) (T:=T) (T2:=T2) (el:=el) (s1:=s1) (b1:=b1) (z1:=z1) (s2:=s2) (b2:=b2) (z2:=z2) (l:=l) oM (hw.addNil el 1)
 have hne : l ≠ []:=List.length_pos_iff.1 hb.1
 obtain ⟨b',cap',rfl,h3⟩:=h2 (.inr hne)
 obtain ⟨c,rfl⟩ : ∃ c,cap' = c + 1:=⟨cap' - 1,by have:=h3 (.inr hne);omega⟩
 simp only [Nat.zero_add,List.nil_append] at hr hst
 have hrun : (execOp a.eval ⟨some d,.call ⟨.builtin .append,[s,x].toArray,[T,T2].toArray⟩,ty,pos,aft,gd⟩).run P w = .ok (.value (.slice (some ⟨b',0,none⟩) l.length (c + 1))) w':=by
  have e1 : ([s,x].toArray.map a.eval) = #[aH,S l]:=by simp [hsat.ev hs,hsat.ev hx]
  simp only [execOp,resolve,e1,Sem.run_bind,Sem.run_pure,Result.andThen_ok,invoke,builtin,hr]
 unfold ow Oper.wp
 rw [hrun,Oper.upon_value]
 exact (kk b' c).go _ w' (hsat.put (by simpa using hlt)) hst
theorem abJ {fo x : Operand} {af : Array TypeId} {f : FuncId} {fn : Func} {t el : TypeId} {m : Nat} {ps : Array TypeId}
  (hf : ev E fo = some (.func (.func f) #[] #[])) (hx : ev E x = some (I (m : Nat))) (hlt : Nat.blt d n = true) (hfn : P.funcs[f]? = some fn) (hname : (fn.name == "runtime.NumGoroutine") = false) (hbd : fn.body.isNone = true) (hnx : Extern.findNext fn = none) (he : Extern.find fn = some (Extern.BytealgMakeNoZero.makeNoZero ps #[t])) (ht : P.underlying t = some (.slice el)) (hm : 0 < m ∧ m ≤ 1000000000)
  (k : ∀ b cap,m ≤ cap + 1 → Nx n D ((d,.slice (some ⟨b,0,none⟩) m (cap + 1)) :: E) B G (.acc (.slice (some ⟨b,0,none⟩) 0 (cap + 1)) el 1 0 [] :: L) K) : Nx n D E B G L (ow P ⟨some d,.call ⟨.value fo,[x].toArray,af⟩,ty,pos,aft,gd⟩ Q K):=Nx.mk fun a w hs hw=>by
 obtain ⟨cs,hr,hcs,_⟩:=Lib.run_makeNoZero (P:=P) w ps t el ht m oM
 have e1 : ([x].toArray.map a.eval) = #[.int .i64 (m : Nat)]:=by simp [hs.ev hx]
 have hrun : (execOp a.eval ⟨some d,.call ⟨.value fo,[x].toArray,af⟩,ty,pos,aft,gd⟩).run P w = .ok (.value (.slice (some ⟨w.heap.size,0,none⟩) m cs.size)) (w.drew.drew.alloc (.cells cs el)):=by
  simp only [execOp,resolve,hs.ev hf,e1,Deferred.ofValue,Sem.run_bind,Sem.run_pure,Result.andThen_ok,invoke]
  rw [show (#[] ++ #[Value.int .i64 (m : Nat)] ++ #[] : Array Value) = #[Value.int .i64 (m : Nat)] from rfl,run_callFunc_extern hfn hname hbd hnx he,hr]
  rfl
 unfold ow Oper.wp
 rw [hrun,Oper.upon_value]
 have h1:=hw.drew.drew.alloc (.cells cs el)
 obtain ⟨c,hc⟩ : ∃ c,cs.size = c + 1:=⟨cs.size - 1,oM⟩
 have h2 : St B G (.acc (.slice (some ⟨w.heap.size,0,none⟩) 0 (c + 1)) el 1 0 [] :: L) (w.drew.drew.alloc (.cells cs el)):=h1.conv rfl ⟨rfl,.inr ⟨w.heap.size,c + 1,cs.toList,rfl,Nat.zero_le _,by simp [hc],h1.own _ List.mem_cons_self⟩⟩
 rw [hc]
 exact (k w.heap.size c oM).go _ _ (hs.put (by simpa using hlt)) h2
end
def dt (P : Program) (f : FuncId) (args : List Value) (G : Gh) (L : List Own) (R : Value → Gh → List Own → Prop) : Prop:=Fn P f args G L (fun v G' L'=>Gh.le G G' ∧ R v G' L')
section
variable {P : Program} {n : Nat} {D : List Deferred} {E : bm} {B : Base} {G : Gh} {L : List Own} {K : Act → World → Prop} {Q : Exit → Act → World → Prop}
theorem cU {fo : Operand} {l : List Operand} {af : Array TypeId} {d : Nat} {ty : TypeId} {pos : String} {aft : Array Edge} {g : Option (Nat × Bool)} {f : FuncId} {fi ca az vs : List Value} {b : Nat} {cs : List Value} {T : TypeId} {R : List Own} {Post : Value → Gh → List Own → Prop}
  [hd : DelB L b cs T R] (hf : ev E fo = some (.func (.func f) fi.toArray ca.toArray)) (ha : evs E l = some az) (hv : fi ++ az ++ ca = vs) (hc : dt P f vs G [.blk b (.cells cs.toArray T (0,0))] Post) (hlt : Nat.blt d n = true)
  (k : ∀ v G' L',Gh.le G G' → Post v G' L' → Nx n D ((d,v) :: E) B G' (L' ++ R) K) : Nx n D E B G L (ow P ⟨some d,.call ⟨.value fo,l.toArray,af⟩,ty,pos,aft,g⟩ Q K) :=
 aaA hf ha hv hc hlt fun v G' L' h=>k v G' L' h.1 h.2
theorem bI {f : FuncId} {fn : Func} {c : Code} {args : List Value} {R : Value → Gh → List Own → Prop} (E0 : bm) (hf : P.funcs[f]? = some fn) (hok : dN P f = true) (hn : fn.ntmps = n) (hb : fn.body = some c)
  (hlen : Nat.ble args.length n = true) (hE : gp E0 (params 0 args))
  (h : ∀ B,B.G = G → B.W = b9 L → Nx n [] E0 B G L (cu P (.code c) [] (bp P fn (dy B (fun v G' L'=>Gh.le G G' ∧ R v G' L'))))) : dt P f args G L R:=tG E0 hf hok hn hb hlen hE h
end
def zo (n : Nat) (cs : List Value) : Bool:=cs.all fun v=>match v with | .string b=>Nat.ble b.size n | _=>false
section
variable {P : Program} {n : Nat} {D : List Deferred} {E : bm} {B : Base} {G : Gh} {L : List Own} {K : Act → World → Prop} {Q : Exit → Act → World → Prop}
theorem dM (m : Nat) {T T0 : TypeId} {x : Operand} {desc : TypeDesc} {size bytes : Nat} {zero : Value} {b o d : Nat} {cs : List Value} {fr : Nat × Nat} {ty : TypeId} {pos : String} {aft : Array Edge} {g : Option (Nat × Bool)} [TI P T desc size bytes zero] [h : BlkI L b cs T0 fr] (hx : ev E x = some (Pt b o)) (ha : dv desc = false) (hlt : Nat.blt d n = true) (ho : o < cs.length) (hs : zo m cs = true)
  (k : ∀ l : act,l.length ≤ m → Nx n D ((d,S l) :: E) B G L K) : Nx n D E B G L (ow P ⟨some d,.load T x,ty,pos,aft,g⟩ Q K) :=
 xC hx ha hlt ho fun v hv=>by
  have h1:=List.all_eq_true.1 hs v hv
  split at h1
  ·rename_i b
   have e : Value.string b = S b.data.toList:=by simp [S]
   rw [e]
   exact k _ (by rw [Array.length_toList];exact Nat.le_of_ble_eq_true h1)
  ·cases h1
def kD (m : Int) : List Value → Prop
 | []=>True
 | v :: r=>(∃ i : Int,v = I i ∧ 0 ≤ i ∧ i ≤ m) ∧ kD m r
theorem oz {m : Int} : ∀ {cs : List Value},kD m cs → ∀ v ∈ cs,∃ i : Int,v = I i ∧ 0 ≤ i ∧ i ≤ m
 | [],_,_,h=>absurd h (by simp)
 | w :: r,h,v,hv=>by
  rcases List.mem_cons.1 hv with rfl | hv
  ·exact h.1
  ·exact oz h.2 v hv
theorem ue {m : Int} : kD m []:=trivial
theorem sy {m i : Int} {r : List Value} (h : 0 ≤ i ∧ i ≤ m) (h2 : kD m r) : kD m (I i :: r):=⟨⟨i,rfl,h.1,h.2⟩,h2⟩
theorem aaC (m : Int) {T T0 : TypeId} {x : Operand} {desc : TypeDesc} {size bytes : Nat} {zero : Value} {b o d : Nat} {cs : List Value} {fr : Nat × Nat} {ty : TypeId} {pos : String} {aft : Array Edge} {g : Option (Nat × Bool)} [TI P T desc size bytes zero] [h : BlkI L b cs T0 fr] (hx : ev E x = some (Pt b o)) (ha : dv desc = false) (hlt : Nat.blt d n = true) (ho : o < cs.length) (hs : kD m cs)
  (k : ∀ i : Int,0 ≤ i → i ≤ m → Nx n D ((d,I i) :: E) B G L K) : Nx n D E B G L (ow P ⟨some d,.load T x,ty,pos,aft,g⟩ Q K) :=
 xC hx ha hlt ho fun v hv=>by
  obtain ⟨i,rfl,h0,h1⟩:=oz hs v hv
  exact k i h0 h1
end
theorem PutsR.len {cs vs cs' : List Value} {o : Nat} (h : PutsR cs o vs cs') : cs'.length = cs.length:=by
 induction h with
 | nil=>rfl
 | here _ ih=>simp [ih]
 | there _ ih=>simp [ih]
class UpdA (b : Nat) (xs' : List Value) (L : List Own) (m cap : outParam Nat) (T0 : outParam TypeId) (sz : outParam Nat) (xs : outParam (List Value)) (L' : outParam (List Own)) : Prop where
 upd : UpdO (.acc (.slice (some ⟨b,0,none⟩) m cap) T0 sz m xs) (.acc (.slice (some ⟨b,0,none⟩) m cap) T0 sz m xs') L L'
instance {b m cap : Nat} {T0 : TypeId} {sz : Nat} {xs xs' : List Value} {r : List Own} : UpdA b xs' (.acc (.slice (some ⟨b,0,none⟩) m cap) T0 sz m xs :: r) m cap T0 sz xs (.acc (.slice (some ⟨b,0,none⟩) m cap) T0 sz m xs' :: r):=⟨.here⟩
instance {b m cap : Nat} {T0 : TypeId} {sz : Nat} {xs xs' : List Value} {z : Own} {r r' : List Own} [h : UpdA b xs' r m cap T0 sz xs r'] : UpdA b xs' (z :: r) m cap T0 sz xs (z :: r'):=⟨.there h.upd⟩
section
variable {P : Program} {n : Nat} {D : List Deferred} {E : bm} {B : Base} {G : Gh} {L : List Own} {K : Act → World → Prop} {Q : Exit → Act → World → Prop} {ty : TypeId} {pos : String} {aft : Array Edge} {gd : Option (Nat × Bool)} {dd : Nat}
end
section
variable {P : Program} {n : Nat} {D : List Deferred} {E : bm} {B : Base} {G : Gh} {L : List Own} {K : Act → World → Prop} {Q : Exit → Act → World → Prop} {ty : TypeId} {pos : String} {aft : Array Edge} {gd : Option (Nat × Bool)} {dd : Nat}
end
def v9 (P : Program) (fn : Func) (R : Ending → World → Prop) : Exit → Act → World → Prop
 | .normal,a,w | .ret,a,w=>Leaves P fn a.tmps R a.defers .returning w
 | .outgrown,_,w=>R .outgrown w
 | _,_,_=>False
instance {P : Program} {fn : Func} {R : Ending → World → Prop} : PQ (v9 P fn R):=⟨fun _ _ _ _ _ h=>h⟩
structure FnD (P : Program) (f : FuncId) (args : List Value) (G : Gh) (L : List Own) (Post : Value → Gh → List Own → Prop) : Prop where
 ok : dN P f = true
 go : ∀ w,St ⟨w,G,b9 L⟩ G L w → CallsD P f args.toArray .returning w fun e u w'=>u = .returning ∧ dy ⟨w,G,b9 L⟩ Post e w'
section
variable {P : Program} {n : Nat} {D : List Deferred} {E : bm} {B : Base} {G : Gh} {L : List Own} {K : Act → World → Prop} {Q : Exit → Act → World → Prop}
theorem cm {f : FuncId} {fn : Func} {c : Code} {args : List Value} {Post : Value → Gh → List Own → Prop} (E0 : bm) (hf : P.funcs[f]? = some fn) (hok : dN P f = true) (hn : fn.ntmps = n) (hb : fn.body = some c)
  (hlen : Nat.ble args.length n = true) (hE : gp E0 (params 0 args))
  (h : ∀ B,BOk B → B.G = G → B.W = b9 L → Nx n [] E0 B G L (cu P (.code c) [] (v9 P fn (dy B Post)))) : Fn P f args G L Post:=by
 refine ⟨hok,fun w hw=>calls_of_wp_defers hf hb ?_⟩
 rw [hn]
 have:=(h ⟨w,G,b9 L⟩ ⟨hw.ok,fun b hb=>(hw.fresh b hb).1⟩ rfl rfl).go _ w ((iG args (by simpa using hlen)).sub hE) hw
 unfold cu at this
 dsimp only at this
 unfold kk cw at this
 refine wp_mono this fun e a' w' q=>?_
 cases e <;> first | exact q | exact q.elim
theorem yB {f : FuncId} {fn : Func} {c : Code} {args : List Value} {Post : Value → Gh → List Own → Prop} (E0 : bm) (hf : P.funcs[f]? = some fn) (hok : dN P f = true) (hn : fn.ntmps = n) (hb : fn.body = some c)
  (hlen : Nat.ble args.length n = true) (hE : gp E0 (params 0 args))
  (h : ∀ B,BOk B → B.G = G → B.W = b9 L → Nx n [] E0 B G L (cu P (.code c) [] (bp P fn (dy B Post)))) : FnD P f args G L Post:=by
 refine ⟨hok,fun w hw=>callsD_of_wp hf hb ?_⟩
 rw [hn]
 have:=(h ⟨w,G,b9 L⟩ ⟨hw.ok,fun b hb=>(hw.fresh b hb).1⟩ rfl rfl).go _ w ((iG args (by simpa using hlen)).sub hE) hw
 unfold cu at this
 dsimp only at this
 unfold kk cw bp at this
 exact this
def rG (f : FuncId) (fi ca az : List Value) : Deferred:=⟨.fn (.func f) ca.toArray,(fi ++ az).toArray⟩
theorem cn {fo : Operand} {l : List Operand} {af : Array TypeId} {ty : TypeId} {pos : String} {aft : Array Edge} {g : Option (Nat × Bool)} {f : FuncId} {fi ca az : List Value}
  (hf : ev E fo = some (.func (.func f) fi.toArray ca.toArray)) (ha : evs E l = some az)
  (k : Nx n (rG f fi ca az :: D) E B G L K) : Nx n D E B G L (ow P ⟨none,.defer ⟨.value fo,l.toArray,af⟩,ty,pos,aft,g⟩ Q K):=Nx.mk fun a w hs hw=>by
 unfold ow Oper.wp
 have h1 : l.toArray.map a.eval = az.toArray:=by rw [List.map_toArray,hs.evs ha]
 have : (execOp a.eval ⟨none,.defer ⟨.value fo,l.toArray,af⟩,ty,pos,aft,g⟩).run P w = .ok (.defer (rG f fi ca az)) w:=by
  simp only [execOp,resolve,hs.ev hf,h1,Deferred.ofValue,Sem.run_bind,Sem.run_pure,Result.andThen_ok,rG]
  simp
 rw [this,Oper.upon_defer]
 exact k.go _ w ⟨hs.size,by rw [show ({ a with defers:=rG f fi ca az :: a.defers } : Act).put none undef = { a with defers:=rG f fi ca az :: a.defers } from F];simp [hs.defers],hs.at'⟩ hw
theorem abd {e : Exit} {f : FuncId} {fi ca az xs : List Value} {Lp R : List Own} {PostD : Value → Gh → List Own → Prop} {fn : Func} {rs : List ResultVar} {Post : Value → Gh → List Own → Prop} (he : e = .ret ∨ e = .normal) (hv : fi ++ az ++ ca = xs) (hc : FnD P f xs G Lp PostD) (hL : L.Perm (Lp ++ R))
  (hr : fn.results = rs.toArray) (k : ∀ v G' L',PostD v G' L' → ∃ vs L'',iB P (St B G' (L' ++ R)) E rs vs ∧ L''.Sublist (L' ++ R) ∧ Post (eD vs) G' L'') :
  Nx n [rG f fi ca az] E B G L (cu P (.exit e) [] (v9 P fn (dy B Post))):=Nx.mk fun a w hs hw=>by
 have hw':=hw.perm hL
 have main : Leaves P fn a.tmps (dy B Post) a.defers .returning w:=by
  rw [hs.defers]
  refine ⟨(fun h=>by cases h),Fn.func f,ca.toArray,f,xs.toArray,F,?_,?_⟩
  ·subst hv
   show (invoke (.fn (.func f) ca.toArray) (fi ++ az).toArray).run P w = _
   simp only [invoke]
   rw [lP hc.ok]
   simp
  ·intro c cs hu
   obtain ⟨e',u',w',fr,⟨h1,v,G',L',h2,h3,h4⟩,h5,h6,h7⟩:=hc.go w hw'.enter c cs hu
   subst h1 h2
   refine ⟨_,_,w',fr,?_,h5,h6,h7⟩
   obtain ⟨vs,L'',g1,g2,g3⟩:=k v G' L' h4
   have h8:=hw'.back h3
   exact ⟨eD vs,kh hs h8 hr g1,_,_,_,F,h8.weaken g2,g3⟩
 rcases he with rfl | rfl
 ·unfold cu;dsimp only;unfold kk;exact main
 ·unfold cu;dsimp only;unfold kk;exact main
end
attribute [irreducible] v9
section
variable {P : Program} {n : Nat} {D : List Deferred} {E : bm} {B : Base} {G : Gh} {L : List Own} {K : Act → World → Prop} {Q : Exit → Act → World → Prop} {ty : TypeId} {pos : String} {aft : Array Edge} {gd : Option (Nat × Bool)}
end
open Go.Proofs
abbrev bF : Value:=.bool false
abbrev u0 : Value:=.int .u8 0
noncomputable abbrev acs : Program:=Tryz.prog
instance ti2 : TI acs 2 (.int .i64) 1 8 (.int .i64 0):=TI.mk' kR kR kR
instance ti3 : TI acs 3 (.int .i64) 1 8 (.int .i64 0):=TI.mk' kR kR kR
instance ti4 : TI acs 4 .bool 1 1 (.bool false):=TI.mk' kR kR kR
instance ti5 : TI acs 5 (.int .u8) 1 1 (.int .u8 0):=TI.mk' kR kR kR
instance ti6 : TI acs 6 (.int .u8) 1 1 (.int .u8 0):=TI.mk' kR kR kR
instance ti7 : TI acs 7 (.struct (bQ acs 7)) 4 24 (Ag [(.int .i64 0),(.int .i64 0),(.bool false),(.int .u8 0)]):=TI.mk' kR kR kR
instance ti8 : TI acs 8 (.struct (bQ acs 8)) 4 24 (Ag [(.int .i64 0),(.int .i64 0),(.bool false),(.int .u8 0)]):=TI.mk' kR kR kR
instance ti9 : TI acs 9 .string 1 16 (S []):=TI.mk' kR kR kR
instance ti12 : TI acs 12 (.int .u64) 1 8 (.int .u64 0):=TI.mk' kR kR kR
instance ti13 : TI acs 13 (.struct (bQ acs 13)) 2 24 (Ag [(S []),(.int .u64 0)]):=TI.mk' kR kR kR
instance ti14 : TI acs 14 (.struct (bQ acs 14)) 2 24 (Ag [(S []),(.int .u64 0)]):=TI.mk' kR kR kR
instance ti17 : TI acs 17 (.pointer 249) 1 8 (.pointer none):=TI.mk' kR kR kR
instance ti18 : TI acs 18 (.struct (bQ acs 18)) 1 8 (Ag [(.pointer none)]):=TI.mk' kR kR kR
instance ti19 : TI acs 19 (.struct (bQ acs 19)) 1 8 (Ag [(.pointer none)]):=TI.mk' kR kR kR
instance ti22 : TI acs 22 (.slice 5) 1 24 aH:=TI.mk' kR kR kR
instance ti34 : TI acs 34 (.slice 86) 1 24 aH:=TI.mk' kR kR kR
instance ti35 : TI acs 35 (.struct (bQ acs 35)) 2 40 (Ag [(S []),aH]):=TI.mk' kR kR kR
instance ti36 : TI acs 36 (.struct (bQ acs 36)) 2 40 (Ag [(S []),aH]):=TI.mk' kR kR kR
instance ti42 : TI acs 42 (.pointer 101) 1 8 (.pointer none):=TI.mk' kR kR kR
instance ti47 : TI acs 47 (.slice 9) 1 24 aH:=TI.mk' kR kR kR
instance ti59 : TI acs 59 (.slice 146) 1 24 aH:=TI.mk' kR kR kR
instance ti60 : TI acs 60 (.pointer 120) 1 8 (.pointer none):=TI.mk' kR kR kR
instance ti63 : TI acs 63 (.slice 3) 1 24 aH:=TI.mk' kR kR kR
instance ti69 : TI acs 69 (.pointer 158) 1 8 (.pointer none):=TI.mk' kR kR kR
instance ti70 : TI acs 70 (.struct (bQ acs 70)) 3 48 (Ag [(S []),(S []),(S [])]):=TI.mk' kR kR kR
instance ti71 : TI acs 71 (.struct (bQ acs 71)) 3 48 (Ag [(S []),(S []),(S [])]):=TI.mk' kR kR kR
instance ti74 : TI acs 74 (.slice 76) 1 24 aH:=TI.mk' kR kR kR
instance ti75 : TI acs 75 (.struct (bQ acs 75)) 4 56 (Ag [(.int .u8 0),(S []),(.int .i64 0),aH]):=TI.mk' kR kR kR
instance ti76 : TI acs 76 (.struct (bQ acs 76)) 4 56 (Ag [(.int .u8 0),(S []),(.int .i64 0),aH]):=TI.mk' kR kR kR
instance ti85 : TI acs 85 (.struct (bQ acs 85)) 3 48 (Ag [(S []),(S []),(S [])]):=TI.mk' kR kR kR
instance ti86 : TI acs 86 (.struct (bQ acs 86)) 3 48 (Ag [(S []),(S []),(S [])]):=TI.mk' kR kR kR
instance ti91 : TI acs 91 (.pointer 93) 1 8 (.pointer none):=TI.mk' kR kR kR
instance ti92 : TI acs 92 (.struct (bQ acs 92)) 5 64 (Ag [(.pointer none),(S []),(.bool false),aH,(.int .i64 0)]):=TI.mk' kR kR kR
instance ti93 : TI acs 93 (.struct (bQ acs 93)) 5 64 (Ag [(.pointer none),(S []),(.bool false),aH,(.int .i64 0)]):=TI.mk' kR kR kR
instance ti100 : TI acs 100 (.struct (bQ acs 100)) 2 32 (Ag [aH,(.int .i64 0)]):=TI.mk' kR kR kR
instance ti101 : TI acs 101 (.struct (bQ acs 101)) 2 32 (Ag [aH,(.int .i64 0)]):=TI.mk' kR kR kR
instance ti113 : TI acs 113 (.struct (bQ acs 113)) 1 24 (Ag [aH]):=TI.mk' kR kR kR
instance ti114 : TI acs 114 (.struct (bQ acs 114)) 1 24 (Ag [aH]):=TI.mk' kR kR kR
instance ti118 : TI acs 118 (.slice 60) 1 24 aH:=TI.mk' kR kR kR
instance ti119 : TI acs 119 (.struct (bQ acs 119)) 4 80 (Ag [(S []),(S []),aH,aH]):=TI.mk' kR kR kR
instance ti120 : TI acs 120 (.struct (bQ acs 120)) 4 80 (Ag [(S []),(S []),aH,aH]):=TI.mk' kR kR kR
instance ti144 : TI acs 144 (.slice 150) 1 24 aH:=TI.mk' kR kR kR
instance ti145 : TI acs 145 (.struct (bQ acs 145)) 3 48 (Ag [(.int .u8 0),(S []),aH]):=TI.mk' kR kR kR
instance ti146 : TI acs 146 (.struct (bQ acs 146)) 3 48 (Ag [(.int .u8 0),(S []),aH]):=TI.mk' kR kR kR
instance ti149 : TI acs 149 (.struct (bQ acs 149)) 4 56 (Ag [(.int .i64 0),(S []),(S []),(S [])]):=TI.mk' kR kR kR
instance ti150 : TI acs 150 (.struct (bQ acs 150)) 4 56 (Ag [(.int .i64 0),(S []),(S []),(S [])]):=TI.mk' kR kR kR
instance ti155 : TI acs 155 (.map 9 160) 1 8 (.map none):=TI.mk' kR kR kR
instance ti156 : TI acs 156 (.slice 160) 1 24 aH:=TI.mk' kR kR kR
instance ti157 : TI acs 157 (.struct (bQ acs 157)) 2 32 (Ag [aH,(.map none)]):=TI.mk' kR kR kR
instance ti158 : TI acs 158 (.struct (bQ acs 158)) 2 32 (Ag [aH,(.map none)]):=TI.mk' kR kR kR
instance ti160 : TI acs 160 (.pointer 165) 1 8 (.pointer none):=TI.mk' kR kR kR
instance ti163 : TI acs 163 (.slice 167) 1 24 aH:=TI.mk' kR kR kR
instance ti164 : TI acs 164 (.struct (bQ acs 164)) 4 64 (Ag [(.int .u8 0),(S []),aH,(S [])]):=TI.mk' kR kR kR
instance ti165 : TI acs 165 (.struct (bQ acs 165)) 4 64 (Ag [(.int .u8 0),(S []),aH,(S [])]):=TI.mk' kR kR kR
instance ti166 : TI acs 166 (.struct (bQ acs 166)) 6 88 (Ag [(.int .i64 0),(S []),(S []),(S []),(S []),(S [])]):=TI.mk' kR kR kR
instance ti167 : TI acs 167 (.struct (bQ acs 167)) 6 88 (Ag [(.int .i64 0),(S []),(S []),(S []),(S []),(S [])]):=TI.mk' kR kR kR
instance ti173 : TI acs 173 (.pointer 167) 1 8 (.pointer none):=TI.mk' kR kR kR
instance ti177 : TI acs 177 (.pointer 179) 1 8 (.pointer none):=TI.mk' kR kR kR
instance ti178 : TI acs 178 (.struct (bQ acs 178)) 2 32 (Ag [(.pointer none),aH]):=TI.mk' kR kR kR
instance ti179 : TI acs 179 (.struct (bQ acs 179)) 2 32 (Ag [(.pointer none),aH]):=TI.mk' kR kR kR
instance ti185 : TI acs 185 (.pointer 187) 1 8 (.pointer none):=TI.mk' kR kR kR
instance ti186 : TI acs 186 (.struct (bQ acs 186)) 3 32 (Ag [(.pointer none),(S []),(.bool false)]):=TI.mk' kR kR kR
instance ti187 : TI acs 187 (.struct (bQ acs 187)) 3 32 (Ag [(.pointer none),(S []),(.bool false)]):=TI.mk' kR kR kR
instance ti200 : TI acs 200 (.array 256 4) 256 256 (Ag [bF,bF,bF,bF,bF,bF,bF,bF,bF,bF,bF,bF,bF,bF,bF,bF,bF,bF,bF,bF,bF,bF,bF,bF,bF,bF,bF,bF,bF,bF,bF,bF,bF,bF,bF,bF,bF,bF,bF,bF,bF,bF,bF,bF,bF,bF,bF,bF,bF,bF,bF,bF,bF,bF,bF,bF,bF,bF,bF,bF,bF,bF,bF,bF,bF,bF,bF,bF,bF,bF,bF,bF,bF,bF,bF,bF,bF,bF,bF,bF,bF,bF,bF,bF,bF,bF,bF,bF,bF,bF,bF,bF,bF,bF,bF,bF,bF,bF,bF,bF,bF,bF,bF,bF,bF,bF,bF,bF,bF,bF,bF,bF,bF,bF,bF,bF,bF,bF,bF,bF,bF,bF,bF,bF,bF,bF,bF,bF,bF,bF,bF,bF,bF,bF,bF,bF,bF,bF,bF,bF,bF,bF,bF,bF,bF,bF,bF,bF,bF,bF,bF,bF,bF,bF,bF,bF,bF,bF,bF,bF,bF,bF,bF,bF,bF,bF,bF,bF,bF,bF,bF,bF,bF,bF,bF,bF,bF,bF,bF,bF,bF,bF,bF,bF,bF,bF,bF,bF,bF,bF,bF,bF,bF,bF,bF,bF,bF,bF,bF,bF,bF,bF,bF,bF,bF,bF,bF,bF,bF,bF,bF,bF,bF,bF,bF,bF,bF,bF,bF,bF,bF,bF,bF,bF,bF,bF,bF,bF,bF,bF,bF,bF,bF,bF,bF,bF,bF,bF,bF,bF,bF,bF,bF,bF,bF,bF,bF,bF,bF,bF,bF,bF,bF,bF,bF,(.bool false)]):=TI.mk' kR kR kR
instance ti204 : TI acs 204 (.pointer 200) 1 8 (.pointer none):=TI.mk' kR kR kR
instance ti206 : TI acs 206 (.pointer 5) 1 8 (.pointer none):=TI.mk' kR kR kR
instance ti234 : TI acs 234 (.struct (bQ acs 234)) 2 2 (Ag [(.int .u8 0),(.int .u8 0)]):=TI.mk' kR kR kR
instance ti235 : TI acs 235 (.struct (bQ acs 235)) 2 2 (Ag [(.int .u8 0),(.int .u8 0)]):=TI.mk' kR kR kR
instance ti238 : TI acs 238 (.struct (bQ acs 238)) 4 40 (Ag [(.pointer none),(.pointer none),(.pointer none),(S [])]):=TI.mk' kR kR kR
instance ti239 : TI acs 239 (.struct (bQ acs 239)) 4 40 (Ag [(.pointer none),(.pointer none),(.pointer none),(S [])]):=TI.mk' kR kR kR
instance fa7_0 : FA acs 7 0 0:=FA.mk' kR ti2 rfl
instance fv7_0 : FV acs 7 0 false 0 1:=FV.mk' kR ti2 rfl
instance fa7_1 : FA acs 7 1 1:=FA.mk' kR ti3 rfl
instance fv7_1 : FV acs 7 1 false 1 1:=FV.mk' kR ti3 rfl
instance fa7_2 : FA acs 7 2 2:=FA.mk' kR ti4 rfl
instance fv7_2 : FV acs 7 2 false 2 1:=FV.mk' kR ti4 rfl
instance fa7_3 : FA acs 7 3 3:=FA.mk' kR ti6 rfl
instance fv7_3 : FV acs 7 3 false 3 1:=FV.mk' kR ti6 rfl
instance fa8_0 : FA acs 8 0 0:=FA.mk' kR ti2 rfl
instance fv8_0 : FV acs 8 0 false 0 1:=FV.mk' kR ti2 rfl
instance fa8_1 : FA acs 8 1 1:=FA.mk' kR ti3 rfl
instance fv8_1 : FV acs 8 1 false 1 1:=FV.mk' kR ti3 rfl
instance fa8_2 : FA acs 8 2 2:=FA.mk' kR ti4 rfl
instance fv8_2 : FV acs 8 2 false 2 1:=FV.mk' kR ti4 rfl
instance fa8_3 : FA acs 8 3 3:=FA.mk' kR ti6 rfl
instance fv8_3 : FV acs 8 3 false 3 1:=FV.mk' kR ti6 rfl
instance fa13_0 : FA acs 13 0 0:=FA.mk' kR ti9 rfl
instance fv13_0 : FV acs 13 0 false 0 1:=FV.mk' kR ti9 rfl
instance fa13_1 : FA acs 13 1 1:=FA.mk' kR ti12 rfl
instance fv13_1 : FV acs 13 1 false 1 1:=FV.mk' kR ti12 rfl
instance fa14_0 : FA acs 14 0 0:=FA.mk' kR ti9 rfl
instance fv14_0 : FV acs 14 0 false 0 1:=FV.mk' kR ti9 rfl
instance fa14_1 : FA acs 14 1 1:=FA.mk' kR ti12 rfl
instance fv14_1 : FV acs 14 1 false 1 1:=FV.mk' kR ti12 rfl
instance fa18_0 : FA acs 18 0 0:=FA.mk' kR ti17 rfl
instance fv18_0 : FV acs 18 0 false 0 1:=FV.mk' kR ti17 rfl
instance fa19_0 : FA acs 19 0 0:=FA.mk' kR ti17 rfl
instance fv19_0 : FV acs 19 0 false 0 1:=FV.mk' kR ti17 rfl
instance fa35_0 : FA acs 35 0 0:=FA.mk' kR ti9 rfl
instance fv35_0 : FV acs 35 0 false 0 1:=FV.mk' kR ti9 rfl
instance fa35_1 : FA acs 35 1 1:=FA.mk' kR ti34 rfl
instance fv35_1 : FV acs 35 1 false 1 1:=FV.mk' kR ti34 rfl
instance fa36_0 : FA acs 36 0 0:=FA.mk' kR ti9 rfl
instance fv36_0 : FV acs 36 0 false 0 1:=FV.mk' kR ti9 rfl
instance fa36_1 : FA acs 36 1 1:=FA.mk' kR ti34 rfl
instance fv36_1 : FV acs 36 1 false 1 1:=FV.mk' kR ti34 rfl
instance fa70_0 : FA acs 70 0 0:=FA.mk' kR ti9 rfl
instance fv70_0 : FV acs 70 0 false 0 1:=FV.mk' kR ti9 rfl
instance fa70_1 : FA acs 70 1 1:=FA.mk' kR ti9 rfl
instance fv70_1 : FV acs 70 1 false 1 1:=FV.mk' kR ti9 rfl
instance fa70_2 : FA acs 70 2 2:=FA.mk' kR ti9 rfl
instance fv70_2 : FV acs 70 2 false 2 1:=FV.mk' kR ti9 rfl
instance fa71_0 : FA acs 71 0 0:=FA.mk' kR ti9 rfl
instance fv71_0 : FV acs 71 0 false 0 1:=FV.mk' kR ti9 rfl
instance fa71_1 : FA acs 71 1 1:=FA.mk' kR ti9 rfl
instance fv71_1 : FV acs 71 1 false 1 1:=FV.mk' kR ti9 rfl
instance fa71_2 : FA acs 71 2 2:=FA.mk' kR ti9 rfl
instance fv71_2 : FV acs 71 2 false 2 1:=FV.mk' kR ti9 rfl
instance : BT acs 71 [(0,1),(1,1),(2,1)] [(S []),(S []),(S [])]:=BT.mk' [(9,0,1),(9,1,1),(9,2,1)] rfl kR kR rfl
instance fa75_0 : FA acs 75 0 0:=FA.mk' kR ti5 rfl
instance fv75_0 : FV acs 75 0 false 0 1:=FV.mk' kR ti5 rfl
instance fa75_1 : FA acs 75 1 1:=FA.mk' kR ti9 rfl
instance fv75_1 : FV acs 75 1 false 1 1:=FV.mk' kR ti9 rfl
instance fa75_2 : FA acs 75 2 2:=FA.mk' kR ti3 rfl
instance fv75_2 : FV acs 75 2 false 2 1:=FV.mk' kR ti3 rfl
instance fa75_3 : FA acs 75 3 3:=FA.mk' kR ti74 rfl
instance fv75_3 : FV acs 75 3 false 3 1:=FV.mk' kR ti74 rfl
instance fa76_0 : FA acs 76 0 0:=FA.mk' kR ti5 rfl
instance fv76_0 : FV acs 76 0 false 0 1:=FV.mk' kR ti5 rfl
instance fa76_1 : FA acs 76 1 1:=FA.mk' kR ti9 rfl
instance fv76_1 : FV acs 76 1 false 1 1:=FV.mk' kR ti9 rfl
instance fa76_2 : FA acs 76 2 2:=FA.mk' kR ti3 rfl
instance fv76_2 : FV acs 76 2 false 2 1:=FV.mk' kR ti3 rfl
instance fa76_3 : FA acs 76 3 3:=FA.mk' kR ti74 rfl
instance fv76_3 : FV acs 76 3 false 3 1:=FV.mk' kR ti74 rfl
instance : BT acs 76 [(0,1),(1,1),(2,1),(3,1)] [(.int .u8 0),(S []),(.int .i64 0),aH]:=BT.mk' [(5,0,1),(9,1,1),(3,2,1),(74,3,1)] rfl kR kR rfl
instance fa85_0 : FA acs 85 0 0:=FA.mk' kR ti9 rfl
instance fv85_0 : FV acs 85 0 false 0 1:=FV.mk' kR ti9 rfl
instance fa85_1 : FA acs 85 1 1:=FA.mk' kR ti9 rfl
instance fv85_1 : FV acs 85 1 false 1 1:=FV.mk' kR ti9 rfl
instance fa85_2 : FA acs 85 2 2:=FA.mk' kR ti9 rfl
instance fv85_2 : FV acs 85 2 false 2 1:=FV.mk' kR ti9 rfl
instance fa86_0 : FA acs 86 0 0:=FA.mk' kR ti9 rfl
instance fv86_0 : FV acs 86 0 false 0 1:=FV.mk' kR ti9 rfl
instance fa86_1 : FA acs 86 1 1:=FA.mk' kR ti9 rfl
instance fv86_1 : FV acs 86 1 false 1 1:=FV.mk' kR ti9 rfl
instance fa86_2 : FA acs 86 2 2:=FA.mk' kR ti9 rfl
instance fv86_2 : FV acs 86 2 false 2 1:=FV.mk' kR ti9 rfl
instance fa92_0 : FA acs 92 0 0:=FA.mk' kR ti69 rfl
instance fv92_0 : FV acs 92 0 false 0 1:=FV.mk' kR ti69 rfl
instance fa92_1 : FA acs 92 1 1:=FA.mk' kR ti9 rfl
instance fv92_1 : FV acs 92 1 false 1 1:=FV.mk' kR ti9 rfl
instance fa92_2 : FA acs 92 2 2:=FA.mk' kR ti4 rfl
instance fv92_2 : FV acs 92 2 false 2 1:=FV.mk' kR ti4 rfl
instance fa92_3 : FA acs 92 3 3:=FA.mk' kR ti63 rfl
instance fv92_3 : FV acs 92 3 false 3 1:=FV.mk' kR ti63 rfl
instance fa92_4 : FA acs 92 4 4:=FA.mk' kR ti3 rfl
instance fv92_4 : FV acs 92 4 false 4 1:=FV.mk' kR ti3 rfl
instance fa93_0 : FA acs 93 0 0:=FA.mk' kR ti69 rfl
instance fv93_0 : FV acs 93 0 false 0 1:=FV.mk' kR ti69 rfl
instance fa93_1 : FA acs 93 1 1:=FA.mk' kR ti9 rfl
instance fv93_1 : FV acs 93 1 false 1 1:=FV.mk' kR ti9 rfl
instance fa93_2 : FA acs 93 2 2:=FA.mk' kR ti4 rfl
instance fv93_2 : FV acs 93 2 false 2 1:=FV.mk' kR ti4 rfl
instance fa93_3 : FA acs 93 3 3:=FA.mk' kR ti63 rfl
instance fv93_3 : FV acs 93 3 false 3 1:=FV.mk' kR ti63 rfl
instance fa93_4 : FA acs 93 4 4:=FA.mk' kR ti3 rfl
instance fv93_4 : FV acs 93 4 false 4 1:=FV.mk' kR ti3 rfl
instance : BT acs 93 [(0,1),(1,1),(2,1),(3,1),(4,1)] [(.pointer none),(S []),(.bool false),aH,(.int .i64 0)]:=BT.mk' [(69,0,1),(9,1,1),(4,2,1),(63,3,1),(3,4,1)] rfl kR kR rfl
instance fa100_0 : FA acs 100 0 0:=FA.mk' kR ti22 rfl
instance fv100_0 : FV acs 100 0 false 0 1:=FV.mk' kR ti22 rfl
instance fa100_1 : FA acs 100 1 1:=FA.mk' kR ti3 rfl
instance fv100_1 : FV acs 100 1 false 1 1:=FV.mk' kR ti3 rfl
instance fa101_0 : FA acs 101 0 0:=FA.mk' kR ti22 rfl
instance fv101_0 : FV acs 101 0 false 0 1:=FV.mk' kR ti22 rfl
instance fa101_1 : FA acs 101 1 1:=FA.mk' kR ti3 rfl
instance fv101_1 : FV acs 101 1 false 1 1:=FV.mk' kR ti3 rfl
instance : BT acs 101 [(0,1),(1,1)] [aH,(.int .i64 0)]:=BT.mk' [(22,0,1),(3,1,1)] rfl kR kR rfl
instance fa113_0 : FA acs 113 0 0:=FA.mk' kR ti59 rfl
instance fv113_0 : FV acs 113 0 false 0 1:=FV.mk' kR ti59 rfl
instance fa114_0 : FA acs 114 0 0:=FA.mk' kR ti59 rfl
instance fv114_0 : FV acs 114 0 false 0 1:=FV.mk' kR ti59 rfl
instance : BT acs 114 [(0,1)] [aH]:=BT.mk' [(59,0,1)] rfl kR kR rfl
instance fa119_0 : FA acs 119 0 0:=FA.mk' kR ti9 rfl
instance fv119_0 : FV acs 119 0 false 0 1:=FV.mk' kR ti9 rfl
instance fa119_1 : FA acs 119 1 1:=FA.mk' kR ti9 rfl
instance fv119_1 : FV acs 119 1 false 1 1:=FV.mk' kR ti9 rfl
instance fa119_2 : FA acs 119 2 2:=FA.mk' kR ti63 rfl
instance fv119_2 : FV acs 119 2 false 2 1:=FV.mk' kR ti63 rfl
instance fa119_3 : FA acs 119 3 3:=FA.mk' kR ti118 rfl
instance fv119_3 : FV acs 119 3 false 3 1:=FV.mk' kR ti118 rfl
instance fa120_0 : FA acs 120 0 0:=FA.mk' kR ti9 rfl
instance fv120_0 : FV acs 120 0 false 0 1:=FV.mk' kR ti9 rfl
instance fa120_1 : FA acs 120 1 1:=FA.mk' kR ti9 rfl
instance fv120_1 : FV acs 120 1 false 1 1:=FV.mk' kR ti9 rfl
instance fa120_2 : FA acs 120 2 2:=FA.mk' kR ti63 rfl
instance fv120_2 : FV acs 120 2 false 2 1:=FV.mk' kR ti63 rfl
instance fa120_3 : FA acs 120 3 3:=FA.mk' kR ti118 rfl
instance fv120_3 : FV acs 120 3 false 3 1:=FV.mk' kR ti118 rfl
instance : BT acs 120 [(0,1),(1,1),(2,1),(3,1)] [(S []),(S []),aH,aH]:=BT.mk' [(9,0,1),(9,1,1),(63,2,1),(118,3,1)] rfl kR kR rfl
instance fa145_0 : FA acs 145 0 0:=FA.mk' kR ti5 rfl
instance fv145_0 : FV acs 145 0 false 0 1:=FV.mk' kR ti5 rfl
instance fa145_1 : FA acs 145 1 1:=FA.mk' kR ti9 rfl
instance fv145_1 : FV acs 145 1 false 1 1:=FV.mk' kR ti9 rfl
instance fa145_2 : FA acs 145 2 2:=FA.mk' kR ti144 rfl
instance fv145_2 : FV acs 145 2 false 2 1:=FV.mk' kR ti144 rfl
instance fa146_0 : FA acs 146 0 0:=FA.mk' kR ti5 rfl
instance fv146_0 : FV acs 146 0 false 0 1:=FV.mk' kR ti5 rfl
instance fa146_1 : FA acs 146 1 1:=FA.mk' kR ti9 rfl
instance fv146_1 : FV acs 146 1 false 1 1:=FV.mk' kR ti9 rfl
instance fa146_2 : FA acs 146 2 2:=FA.mk' kR ti144 rfl
instance fv146_2 : FV acs 146 2 false 2 1:=FV.mk' kR ti144 rfl
instance : BT acs 146 [(0,1),(1,1),(2,1)] [(.int .u8 0),(S []),aH]:=BT.mk' [(5,0,1),(9,1,1),(144,2,1)] rfl kR kR rfl
instance fa149_0 : FA acs 149 0 0:=FA.mk' kR ti3 rfl
instance fv149_0 : FV acs 149 0 false 0 1:=FV.mk' kR ti3 rfl
instance fa149_1 : FA acs 149 1 1:=FA.mk' kR ti9 rfl
instance fv149_1 : FV acs 149 1 false 1 1:=FV.mk' kR ti9 rfl
instance fa149_2 : FA acs 149 2 2:=FA.mk' kR ti9 rfl
instance fv149_2 : FV acs 149 2 false 2 1:=FV.mk' kR ti9 rfl
instance fa149_3 : FA acs 149 3 3:=FA.mk' kR ti9 rfl
instance fv149_3 : FV acs 149 3 false 3 1:=FV.mk' kR ti9 rfl
instance fa150_0 : FA acs 150 0 0:=FA.mk' kR ti3 rfl
instance fv150_0 : FV acs 150 0 false 0 1:=FV.mk' kR ti3 rfl
instance fa150_1 : FA acs 150 1 1:=FA.mk' kR ti9 rfl
instance fv150_1 : FV acs 150 1 false 1 1:=FV.mk' kR ti9 rfl
instance fa150_2 : FA acs 150 2 2:=FA.mk' kR ti9 rfl
instance fv150_2 : FV acs 150 2 false 2 1:=FV.mk' kR ti9 rfl
instance fa150_3 : FA acs 150 3 3:=FA.mk' kR ti9 rfl
instance fv150_3 : FV acs 150 3 false 3 1:=FV.mk' kR ti9 rfl
instance : BT acs 150 [(0,1),(1,1),(2,1),(3,1)] [(.int .i64 0),(S []),(S []),(S [])]:=BT.mk' [(3,0,1),(9,1,1),(9,2,1),(9,3,1)] rfl kR kR rfl
instance fa157_0 : FA acs 157 0 0:=FA.mk' kR ti156 rfl
instance fv157_0 : FV acs 157 0 false 0 1:=FV.mk' kR ti156 rfl
instance fa157_1 : FA acs 157 1 1:=FA.mk' kR ti155 rfl
instance fv157_1 : FV acs 157 1 false 1 1:=FV.mk' kR ti155 rfl
instance fa158_0 : FA acs 158 0 0:=FA.mk' kR ti156 rfl
instance fv158_0 : FV acs 158 0 false 0 1:=FV.mk' kR ti156 rfl
instance fa158_1 : FA acs 158 1 1:=FA.mk' kR ti155 rfl
instance fv158_1 : FV acs 158 1 false 1 1:=FV.mk' kR ti155 rfl
instance : BT acs 158 [(0,1),(1,1)] [aH,(.map none)]:=BT.mk' [(156,0,1),(155,1,1)] rfl kR kR rfl
instance fa164_0 : FA acs 164 0 0:=FA.mk' kR ti5 rfl
instance fv164_0 : FV acs 164 0 false 0 1:=FV.mk' kR ti5 rfl
instance fa164_1 : FA acs 164 1 1:=FA.mk' kR ti9 rfl
instance fv164_1 : FV acs 164 1 false 1 1:=FV.mk' kR ti9 rfl
instance fa164_2 : FA acs 164 2 2:=FA.mk' kR ti163 rfl
instance fv164_2 : FV acs 164 2 false 2 1:=FV.mk' kR ti163 rfl
instance fa164_3 : FA acs 164 3 3:=FA.mk' kR ti9 rfl
instance fv164_3 : FV acs 164 3 false 3 1:=FV.mk' kR ti9 rfl
instance fa165_0 : FA acs 165 0 0:=FA.mk' kR ti5 rfl
instance fv165_0 : FV acs 165 0 false 0 1:=FV.mk' kR ti5 rfl
instance fa165_1 : FA acs 165 1 1:=FA.mk' kR ti9 rfl
instance fv165_1 : FV acs 165 1 false 1 1:=FV.mk' kR ti9 rfl
instance fa165_2 : FA acs 165 2 2:=FA.mk' kR ti163 rfl
instance fv165_2 : FV acs 165 2 false 2 1:=FV.mk' kR ti163 rfl
instance fa165_3 : FA acs 165 3 3:=FA.mk' kR ti9 rfl
instance fv165_3 : FV acs 165 3 false 3 1:=FV.mk' kR ti9 rfl
instance : BT acs 165 [(0,1),(1,1),(2,1),(3,1)] [(.int .u8 0),(S []),aH,(S [])]:=BT.mk' [(5,0,1),(9,1,1),(163,2,1),(9,3,1)] rfl kR kR rfl
instance fa166_0 : FA acs 166 0 0:=FA.mk' kR ti3 rfl
instance fv166_0 : FV acs 166 0 false 0 1:=FV.mk' kR ti3 rfl
instance fa166_1 : FA acs 166 1 1:=FA.mk' kR ti9 rfl
instance fv166_1 : FV acs 166 1 false 1 1:=FV.mk' kR ti9 rfl
instance fa166_2 : FA acs 166 2 2:=FA.mk' kR ti71 rfl
instance fv166_2 : FV acs 166 2 true 2 3:=FV.mk' kR ti71 rfl
instance fa166_3 : FA acs 166 3 5:=FA.mk' kR ti9 rfl
instance fv166_3 : FV acs 166 3 false 5 1:=FV.mk' kR ti9 rfl
instance fa167_0 : FA acs 167 0 0:=FA.mk' kR ti3 rfl
instance fv167_0 : FV acs 167 0 false 0 1:=FV.mk' kR ti3 rfl
instance fa167_1 : FA acs 167 1 1:=FA.mk' kR ti9 rfl
instance fv167_1 : FV acs 167 1 false 1 1:=FV.mk' kR ti9 rfl
instance fa167_2 : FA acs 167 2 2:=FA.mk' kR ti71 rfl
instance fv167_2 : FV acs 167 2 true 2 3:=FV.mk' kR ti71 rfl
instance fa167_3 : FA acs 167 3 5:=FA.mk' kR ti9 rfl
instance fv167_3 : FV acs 167 3 false 5 1:=FV.mk' kR ti9 rfl
instance : BT acs 167 [(0,1),(1,1),(2,3),(5,1)] [(.int .i64 0),(S []),(S []),(S []),(S []),(S [])]:=BT.mk' [(3,0,1),(9,1,1),(71,2,3),(9,5,1)] rfl kR kR rfl
instance fa178_0 : FA acs 178 0 0:=FA.mk' kR ti177 rfl
instance fv178_0 : FV acs 178 0 false 0 1:=FV.mk' kR ti177 rfl
instance fa178_1 : FA acs 178 1 1:=FA.mk' kR ti22 rfl
instance fv178_1 : FV acs 178 1 false 1 1:=FV.mk' kR ti22 rfl
instance fa179_0 : FA acs 179 0 0:=FA.mk' kR ti177 rfl
instance fv179_0 : FV acs 179 0 false 0 1:=FV.mk' kR ti177 rfl
instance fa179_1 : FA acs 179 1 1:=FA.mk' kR ti22 rfl
instance fv179_1 : FV acs 179 1 false 1 1:=FV.mk' kR ti22 rfl
instance : BT acs 179 [(0,1),(1,1)] [(.pointer none),aH]:=BT.mk' [(177,0,1),(22,1,1)] rfl kR kR rfl
instance fa186_0 : FA acs 186 0 0:=FA.mk' kR ti69 rfl
instance fv186_0 : FV acs 186 0 false 0 1:=FV.mk' kR ti69 rfl
instance fa186_1 : FA acs 186 1 1:=FA.mk' kR ti9 rfl
instance fv186_1 : FV acs 186 1 false 1 1:=FV.mk' kR ti9 rfl
instance fa186_2 : FA acs 186 2 2:=FA.mk' kR ti4 rfl
instance fv186_2 : FV acs 186 2 false 2 1:=FV.mk' kR ti4 rfl
instance fa187_0 : FA acs 187 0 0:=FA.mk' kR ti69 rfl
instance fv187_0 : FV acs 187 0 false 0 1:=FV.mk' kR ti69 rfl
instance fa187_1 : FA acs 187 1 1:=FA.mk' kR ti9 rfl
instance fv187_1 : FV acs 187 1 false 1 1:=FV.mk' kR ti9 rfl
instance fa187_2 : FA acs 187 2 2:=FA.mk' kR ti4 rfl
instance fv187_2 : FV acs 187 2 false 2 1:=FV.mk' kR ti4 rfl
instance : BT acs 187 [(0,1),(1,1),(2,1)] [(.pointer none),(S []),(.bool false)]:=BT.mk' [(69,0,1),(9,1,1),(4,2,1)] rfl kR kR rfl
instance fa234_0 : FA acs 234 0 0:=FA.mk' kR ti5 rfl
instance fv234_0 : FV acs 234 0 false 0 1:=FV.mk' kR ti5 rfl
instance fa234_1 : FA acs 234 1 1:=FA.mk' kR ti5 rfl
instance fv234_1 : FV acs 234 1 false 1 1:=FV.mk' kR ti5 rfl
instance fa235_0 : FA acs 235 0 0:=FA.mk' kR ti5 rfl
instance fv235_0 : FV acs 235 0 false 0 1:=FV.mk' kR ti5 rfl
instance fa235_1 : FA acs 235 1 1:=FA.mk' kR ti5 rfl
instance fv235_1 : FV acs 235 1 false 1 1:=FV.mk' kR ti5 rfl
instance fa238_0 : FA acs 238 0 0:=FA.mk' kR ti17 rfl
instance fv238_0 : FV acs 238 0 false 0 1:=FV.mk' kR ti17 rfl
instance fa238_1 : FA acs 238 1 1:=FA.mk' kR ti17 rfl
instance fv238_1 : FV acs 238 1 false 1 1:=FV.mk' kR ti17 rfl
instance fa238_2 : FA acs 238 2 2:=FA.mk' kR ti17 rfl
instance fv238_2 : FV acs 238 2 false 2 1:=FV.mk' kR ti17 rfl
instance fa238_3 : FA acs 238 3 3:=FA.mk' kR ti9 rfl
instance fv238_3 : FV acs 238 3 false 3 1:=FV.mk' kR ti9 rfl
instance fa239_0 : FA acs 239 0 0:=FA.mk' kR ti17 rfl
instance fv239_0 : FV acs 239 0 false 0 1:=FV.mk' kR ti17 rfl
instance fa239_1 : FA acs 239 1 1:=FA.mk' kR ti17 rfl
instance fv239_1 : FV acs 239 1 false 1 1:=FV.mk' kR ti17 rfl
instance fa239_2 : FA acs 239 2 2:=FA.mk' kR ti17 rfl
instance fv239_2 : FV acs 239 2 false 2 1:=FV.mk' kR ti17 rfl
instance fa239_3 : FA acs 239 3 3:=FA.mk' kR ti9 rfl
instance fv239_3 : FV acs 239 3 false 3 1:=FV.mk' kR ti9 rfl
def tb : Tbl:=⟨12,42404329554681223909999140017830044379859613525014854994918548831022874720,16,3584,128555092784112555274688629758034047715783940054155593454419968,[(7,[(false,0,1),(false,1,1),(false,2,1),(false,3,1)]),(8,[(false,0,1),(false,1,1),(false,2,1),(false,3,1)]),(13,[(false,0,1),(false,1,1)]),(14,[(false,0,1),(false,1,1)]),(18,[(false,0,1)]),(19,[(false,0,1)]),(35,[(false,0,1),(false,1,1)]),(36,[(false,0,1),(false,1,1)]),(70,[(false,0,1),(false,1,1),(false,2,1)]),(71,[(false,0,1),(false,1,1),(false,2,1)]),(75,[(false,0,1),(false,1,1),(false,2,1),(false,3,1)]),(76,[(false,0,1),(false,1,1),(false,2,1),(false,3,1)]),(85,[(false,0,1),(false,1,1),(false,2,1)]),(86,[(false,0,1),(false,1,1),(false,2,1)]),(92,[(false,0,1),(false,1,1),(false,2,1),(false,3,1),(false,4,1)]),(93,[(false,0,1),(false,1,1),(false,2,1),(false,3,1),(false,4,1)]),(100,[(false,0,1),(false,1,1)]),(101,[(false,0,1),(false,1,1)]),(113,[(false,0,1)]),(114,[(false,0,1)]),(119,[(false,0,1),(false,1,1),(false,2,1),(false,3,1)]),(120,[(false,0,1),(false,1,1),(false,2,1),(false,3,1)]),(145,[(false,0,1),(false,1,1),(false,2,1)]),(146,[(false,0,1),(false,1,1),(false,2,1)]),(149,[(false,0,1),(false,1,1),(false,2,1),(false,3,1)]),(150,[(false,0,1),(false,1,1),(false,2,1),(false,3,1)]),(157,[(false,0,1),(false,1,1)]),(158,[(false,0,1),(false,1,1)]),(164,[(false,0,1),(false,1,1),(false,2,1),(false,3,1)]),(165,[(false,0,1),(false,1,1),(false,2,1),(false,3,1)]),(166,[(false,0,1),(false,1,1),(true,2,3),(false,5,1)]),(167,[(false,0,1),(false,1,1),(true,2,3),(false,5,1)]),(178,[(false,0,1),(false,1,1)]),(179,[(false,0,1),(false,1,1)]),(186,[(false,0,1),(false,1,1),(false,2,1)]),(187,[(false,0,1),(false,1,1),(false,2,1)]),(234,[(false,0,1),(false,1,1)]),(235,[(false,0,1),(false,1,1)]),(238,[(false,0,1),(false,1,1),(false,2,1),(false,3,1)]),(239,[(false,0,1),(false,1,1),(false,2,1),(false,3,1)])]⟩
theorem ab8 : ul acs tb.fl:=⟨⟨⟨fv7_0,fa7_0⟩,⟨fv7_1,fa7_1⟩,⟨fv7_2,fa7_2⟩,⟨fv7_3,fa7_3⟩,trivial⟩,⟨⟨fv8_0,fa8_0⟩,⟨fv8_1,fa8_1⟩,⟨fv8_2,fa8_2⟩,⟨fv8_3,fa8_3⟩,trivial⟩,⟨⟨fv13_0,fa13_0⟩,⟨fv13_1,fa13_1⟩,trivial⟩,⟨⟨fv14_0,fa14_0⟩,⟨fv14_1,fa14_1⟩,trivial⟩,⟨⟨fv18_0,fa18_0⟩,trivial⟩,⟨⟨fv19_0,fa19_0⟩,trivial⟩,⟨⟨fv35_0,fa35_0⟩,⟨fv35_1,fa35_1⟩,trivial⟩,⟨⟨fv36_0,fa36_0⟩,⟨fv36_1,fa36_1⟩,trivial⟩,⟨⟨fv70_0,fa70_0⟩,⟨fv70_1,fa70_1⟩,⟨fv70_2,fa70_2⟩,trivial⟩,⟨⟨fv71_0,fa71_0⟩,⟨fv71_1,fa71_1⟩,⟨fv71_2,fa71_2⟩,trivial⟩,⟨⟨fv75_0,fa75_0⟩,⟨fv75_1,fa75_1⟩,⟨fv75_2,fa75_2⟩,⟨fv75_3,fa75_3⟩,trivial⟩,⟨⟨fv76_0,fa76_0⟩,⟨fv76_1,fa76_1⟩,⟨fv76_2,fa76_2⟩,⟨fv76_3,fa76_3⟩,trivial⟩,⟨⟨fv85_0,fa85_0⟩,⟨fv85_1,fa85_1⟩,⟨fv85_2,fa85_2⟩,trivial⟩,⟨⟨fv86_0,fa86_0⟩,⟨fv86_1,fa86_1⟩,⟨fv86_2,fa86_2⟩,trivial⟩,⟨⟨fv92_0,fa92_0⟩,⟨fv92_1,fa92_1⟩,⟨fv92_2,fa92_2⟩,⟨fv92_3,fa92_3⟩,⟨fv92_4,fa92_4⟩,trivial⟩,⟨⟨fv93_0,fa93_0⟩,⟨fv93_1,fa93_1⟩,⟨fv93_2,fa93_2⟩,⟨fv93_3,fa93_3⟩,⟨fv93_4,fa93_4⟩,trivial⟩,⟨⟨fv100_0,fa100_0⟩,⟨fv100_1,fa100_1⟩,trivial⟩,⟨⟨fv101_0,fa101_0⟩,⟨fv101_1,fa101_1⟩,trivial⟩,⟨⟨fv113_0,fa113_0⟩,trivial⟩,⟨⟨fv114_0,fa114_0⟩,trivial⟩,⟨⟨fv119_0,fa119_0⟩,⟨fv119_1,fa119_1⟩,⟨fv119_2,fa119_2⟩,⟨fv119_3,fa119_3⟩,trivial⟩,⟨⟨fv120_0,fa120_0⟩,⟨fv120_1,fa120_1⟩,⟨fv120_2,fa120_2⟩,⟨fv120_3,fa120_3⟩,trivial⟩,⟨⟨fv145_0,fa145_0⟩,⟨fv145_1,fa145_1⟩,⟨fv145_2,fa145_2⟩,trivial⟩,⟨⟨fv146_0,fa146_0⟩,⟨fv146_1,fa146_1⟩,⟨fv146_2,fa146_2⟩,trivial⟩,⟨⟨fv149_0,fa149_0⟩,⟨fv149_1,fa149_1⟩,⟨fv149_2,fa149_2⟩,⟨fv149_3,fa149_3⟩,trivial⟩,⟨⟨fv150_0,fa150_0⟩,⟨fv150_1,fa150_1⟩,⟨fv150_2,fa150_2⟩,⟨fv150_3,fa150_3⟩,trivial⟩,⟨⟨fv157_0,fa157_0⟩,⟨fv157_1,fa157_1⟩,trivial⟩,⟨⟨fv158_0,fa158_0⟩,⟨fv158_1,fa158_1⟩,trivial⟩,⟨⟨fv164_0,fa164_0⟩,⟨fv164_1,fa164_1⟩,⟨fv164_2,fa164_2⟩,⟨fv164_3,fa164_3⟩,trivial⟩,⟨⟨fv165_0,fa165_0⟩,⟨fv165_1,fa165_1⟩,⟨fv165_2,fa165_2⟩,⟨fv165_3,fa165_3⟩,trivial⟩,⟨⟨fv166_0,fa166_0⟩,⟨fv166_1,fa166_1⟩,⟨fv166_2,fa166_2⟩,⟨fv166_3,fa166_3⟩,trivial⟩,⟨⟨fv167_0,fa167_0⟩,⟨fv167_1,fa167_1⟩,⟨fv167_2,fa167_2⟩,⟨fv167_3,fa167_3⟩,trivial⟩,⟨⟨fv178_0,fa178_0⟩,⟨fv178_1,fa178_1⟩,trivial⟩,⟨⟨fv179_0,fa179_0⟩,⟨fv179_1,fa179_1⟩,trivial⟩,⟨⟨fv186_0,fa186_0⟩,⟨fv186_1,fa186_1⟩,⟨fv186_2,fa186_2⟩,trivial⟩,⟨⟨fv187_0,fa187_0⟩,⟨fv187_1,fa187_1⟩,⟨fv187_2,fa187_2⟩,trivial⟩,⟨⟨fv234_0,fa234_0⟩,⟨fv234_1,fa234_1⟩,trivial⟩,⟨⟨fv235_0,fa235_0⟩,⟨fv235_1,fa235_1⟩,trivial⟩,⟨⟨fv238_0,fa238_0⟩,⟨fv238_1,fa238_1⟩,⟨fv238_2,fa238_2⟩,⟨fv238_3,fa238_3⟩,trivial⟩,⟨⟨fv239_0,fa239_0⟩,⟨fv239_1,fa239_1⟩,⟨fv239_2,fa239_2⟩,⟨fv239_3,fa239_3⟩,trivial⟩,trivial⟩
instance : Tab acs tb:=Tab.mk' 250 kR kR kR kR kR ab8
theorem ai : acs.follows .mixedOrders = true:=by kernel_rfl
section
variable {n : Nat} {D : List Deferred} {E : bm} {B : Base} {G : Gh} {L : List Own} {k : List Fr} {Q : Exit → Act → World → Prop} {K : Act → World → Prop}
theorem jT [PQ Q] {ops : List Oper} {G0 : Gh} {L0 : List Own} (fuel : Nat) (is : List Nat) {E' : bm} {p' : List Prop} {fuel' : Nat} {listed : Array Bool} (listed' : Array Bool) (hn : Nx n D E' B G L (xA acs ops.toArray Q (bV B G0 L0) fuel listed'))
    (hf : Nat.beq (fuel + is.length) fuel' = true:=by exact F) (h : hC tb n ops is E [] = some (E',p'):=by exact F) (hsel : Region.noSelect ops.toArray = true:=by kernel_rfl) (hb : lI ops.toArray is listed listed' = true:=by kernel_rfl)
    (hG : Gh.le G0 G:=by first | exact Gh.le.refl _ | assumption) (hL : L0.Sublist L:=by repeat (first | exact List.Sublist.refl _ | exact List.nil_sublist _ | apply List.Sublist.cons_cons | apply List.Sublist.cons)) (hp : g9 p':=by exact trivial) : Nx n D E B G L (xA acs ops.toArray Q (bV B G0 L0) fuel' listed):=tN is listed' hsel hb hf h hG hL hp hn
theorem jU [PQ Q] {ops : List Oper} {G0 : Gh} {L0 : List Own} (fuel : Nat) (is : List Nat) {E' : bm} {p' : List Prop} {fuel' : Nat} {listed : Array Bool} (listed' : Array Bool) (hp : g9 p') (hn : Nx n D E' B G L (xA acs ops.toArray Q (bV B G0 L0) fuel listed'))
    (hf : Nat.beq (fuel + is.length) fuel' = true:=by exact F) (h : hC tb n ops is E [] = some (E',p'):=by exact F) (hsel : Region.noSelect ops.toArray = true:=by kernel_rfl) (hb : lI ops.toArray is listed listed' = true:=by kernel_rfl)
    (hG : Gh.le G0 G:=by first | exact Gh.le.refl _ | assumption) (hL : L0.Sublist L:=by repeat (first | exact List.Sublist.refl _ | exact List.nil_sublist _ | apply List.Sublist.cons_cons | apply List.Sublist.cons)) : Nx n D E B G L (xA acs ops.toArray Q (bV B G0 L0) fuel' listed):=tN is listed' hsel hb hf h hG hL hp hn
theorem jN {ops : List Oper} {G0 : Gh} {L0 : List Own} {fuel : Nat} {listed : Array Bool} (listed' : Array Bool) [PQ Q] (i : Nat) {o : Oper} {d : Nat} (hi : ops.toArray[i]? = some o)
    (k : Nx n D ((d,undef) :: E) B G L (xA acs ops.toArray Q (bV B G0 L0) fuel listed')) (hb : mN ops.toArray listed i listed' = true:=by kernel_rfl) (hgu : rn E ops o = some false:=by exact F) (hG : Gh.le G0 G:=by first | exact Gh.le.refl _ | assumption) (hL : L0.Sublist L:=by repeat (first | exact List.Sublist.refl _ | exact List.nil_sublist _ | apply List.Sublist.cons_cons | apply List.Sublist.cons)) (hd : o.dst = some d:=by exact F) (hlt : Nat.blt d n = true:=by exact F) :
    Nx n D E B G L (xA acs ops.toArray Q (bV B G0 L0) (fuel + 1) listed):=w8 listed' i hi hb hgu hG hL hd hlt k
theorem jG {ops : List Oper} {G0 : Gh} {L0 : List Own} {fuel : Nat} {listed : Array Bool} (listed' : Array Bool) [PQ Q] (i : Nat) {o : Oper} {d : Nat} {v : Value} (hi : ops.toArray[i]? = some o) (hg : Gives acs n D E (bV B G0 L0) o v)
    (k : Nx n D ((d,v) :: E) B G L (xA acs ops.toArray Q (bV B G0 L0) fuel listed')) (hb : mN ops.toArray listed i listed' = true:=by kernel_rfl) (hgu : rn E ops o = some true:=by exact F) (hG : Gh.le G0 G:=by first | exact Gh.le.refl _ | assumption) (hL : L0.Sublist L:=by repeat (first | exact List.Sublist.refl _ | exact List.nil_sublist _ | apply List.Sublist.cons_cons | apply List.Sublist.cons)) (hd : o.dst = some d:=by exact F) (hlt : Nat.blt d n = true:=by exact F) :
    Nx n D E B G L (xA acs ops.toArray Q (bV B G0 L0) (fuel + 1) listed):=tO listed' i hi hb hgu hG hL hg hd hlt k
theorem jV {o : Oper} {d : Nat} {v : Value} (hg : Gives acs n D E (St B G L) o v) (k : Nx n D ((d,v) :: E) B G L K) (hd : o.dst = some d:=by exact F) (hlt : Nat.blt d n = true:=by exact F) : Nx n D E B G L (ow acs o Q K):=kf hg hd hlt k
theorem jR {E' : bm} {c c' : Cu} {k k' : List Fr} {p' : List Prop} (hn : Nx n D E' B G L (cu acs c' k' Q)) (h : qV tb n 400 E c k = some ⟨E',c',k',p'⟩:=by exact F) (hp : g9 p':=by exact trivial) : Nx n D E B G L (cu acs c k Q):=run 400 h hp hn
theorem jM {E' : bm} {c c' : Cu} {k k' : List Fr} {p' : List Prop} (hn : Nx n D E' B G L (cu acs c' k' Q)) (h : qV tb n 400 E c k = some ⟨E',c',k',p'⟩:=by exact F) (hp : g9 p':=by (repeat' (first | exact trivial | apply And.intro | omega));done) : Nx n D E B G L (cu acs c k Q):=run 400 h hp hn
theorem jE {f : FuncId} {fn : Func} {c : Code} {args : List Value} {R : Value → Prop} (E0 : bm) (hf : acs.funcs[f]? = some fn) (hn : fn.ntmps = n)
    (h : ∀ B,B.W = [] → Nx n [] E0 B G [] (cu acs (.code c) [] (bp acs fn (dy B (fun v G' L'=>G' = G ∧ L' = [] ∧ R v))))) (hb : fn.body = some c:=by exact F) (hok : dN acs f = true:=by kernel_rfl) (hlen : Nat.ble args.length n = true:=by exact F) (hE : gp E0 (params 0 args):=by repeat' constructor) : av acs f args G R:=xW E0 hf hok hn hb hlen hE h
theorem jB {f : FuncId} {fn : Func} {c : Code} {args : List Value} {Post : Value → Gh → List Own → Prop} (E0 : bm) (hf : acs.funcs[f]? = some fn) (hn : fn.ntmps = n)
    (h : ∀ B,BOk B → B.G = G → B.W = b9 L → Nx n [] E0 B G L (cu acs (.code c) [] (bp acs fn (dy B Post)))) (hb : fn.body = some c:=by exact F) (hok : dN acs f = true:=by kernel_rfl) (hlen : Nat.ble args.length n = true:=by exact F) (hE : gp E0 (params 0 args):=by repeat' constructor) : Fn acs f args G L Post:=y4 E0 hf hok hn hb hlen hE h
theorem jH {f : FuncId} {fn : Func} {c : Code} {args : List Value} {R : Value → List Own → Prop} (E0 : bm) (hf : acs.funcs[f]? = some fn) (hn : fn.ntmps = n)
    (h : ∀ B,B.G = G → B.W = b9 L → Nx n [] E0 B G L (cu acs (.code c) [] (bp acs fn (dy B (fun v G' L'=>G' = G ∧ R v L'))))) (hb : fn.body = some c:=by exact F) (hok : dN acs f = true:=by kernel_rfl) (hlen : Nat.ble args.length n = true:=by exact F) (hE : gp E0 (params 0 args):=by repeat' constructor) : cx acs f args G L R:=yi E0 hf hok hn hb hlen hE h
theorem jK {ops : Array Oper} {G0 : Gh} {L0 : List Own} {fuel : Nat} {listed : Array Bool} (listed' : Array Bool) (h : Nx n D E B G L (xA acs ops Q (bV B G0 L0) fuel listed')) (hG : Gh.le G0 G:=by first | exact Gh.le.refl _ | assumption) (hL : L0.Sublist L:=by repeat (first | exact List.Sublist.refl _ | exact List.nil_sublist _ | apply List.Sublist.cons_cons | apply List.Sublist.cons)) (hl : (listed == listed') = true:=by kernel_rfl) : Nx n D E B G L (xK acs ops Q (bV B G0 L0) fuel listed):=ab7 hG hL hl h
theorem jS {ops : Array Oper} {G0 : Gh} {L0 : List Own} {fuel : Nat} {listed : Array Bool} (listed' : Array Bool) (h : Nx n D E B G L (xA acs ops Q (bV B G L) fuel listed')) (hG : Gh.le G0 G:=by first | exact Gh.le.refl _ | assumption) (hL : L0.Sublist L:=by repeat (first | exact List.Sublist.refl _ | exact List.nil_sublist _ | apply List.Sublist.cons_cons | apply List.Sublist.cons)) (hl : (listed == listed') = true:=by kernel_rfl) : Nx n D E B G L (xK acs ops Q (bV B G0 L0) fuel listed):=ab6 hG hL hl h
theorem jA {ops : List Oper} {S : World → Prop} {fuel : Nat} {listed : Array Bool} (i : Nat) {o : Oper} (hi : ops.toArray[i]? = some o) (h : Nx n D E B G L (ow acs o Q (xK acs ops.toArray Q S fuel (listed.setIfInBounds i true)))) (hr : Region.ready .any ops.toArray listed = [i]:=by kernel_rfl) (hgu : rn E ops o = some true:=by exact F) : Nx n D E B G L (xA acs ops.toArray Q S (fuel + 1) listed) :=
  cy [i] hr (by simp) ⟨a9 hi hgu h,trivial⟩
theorem jZ {fn : Func} {rs : List ResultVar} {vs : List Value} {v : Value} {L' : List Own} {Post : Value → Gh → List Own → Prop} (hr : fn.results = rs.toArray) (h : iB acs (St B G L) E rs vs) (hv : eD vs = v) (hP : Post v G L')
    (hL : L'.Sublist L:=by exact List.nil_sublist _) : Nx n [] E B G L (cu acs (.exit .ret) [] (bp acs fn (dy B Post))):=aO hr h hv hL hP
theorem jX {E' : bm} {c c' : Cu} {k k' : List Fr} {p' : List Prop} (hn : Nx n D E' B G L (cu acs c' k' Q)) (h : qV tb n 400 E c k = some ⟨E',c',k',p'⟩:=by exact F) (hp : g9 p':=by (repeat' (first | exact trivial | apply And.intro | omega | assumption | (simp only [List.length_append,List.length_cons,List.length_nil,Int.toNat_natCast];omega) | (simp only [List.length_append,List.length_cons,List.length_nil,List.length_take,List.length_drop];omega) | (with_reducible exact (qE _ _).1) | (with_reducible exact (qE _ _).2)));done) : Nx n D E B G L (cu acs c k Q):=run 400 h hp hn
theorem jW [PQ Q] {ops : List Oper} {G0 : Gh} {L0 : List Own} (fuel : Nat) (is : List Nat) {E' : bm} {p' : List Prop} {fuel' : Nat} {listed : Array Bool} (listed' : Array Bool) (hn : Nx n D E' B G L (xA acs ops.toArray Q (bV B G0 L0) fuel listed'))
    (hf : Nat.beq (fuel + is.length) fuel' = true:=by exact F) (h : hC tb n ops is E [] = some (E',p'):=by exact F) (hsel : Region.noSelect ops.toArray = true:=by kernel_rfl) (hb : lI ops.toArray is listed listed' = true:=by kernel_rfl)
    (hG : Gh.le G0 G:=by first | exact Gh.le.refl _ | assumption) (hL : L0.Sublist L:=by repeat (first | exact List.Sublist.refl _ | exact List.nil_sublist _ | apply List.Sublist.cons_cons | apply List.Sublist.cons)) (hp : g9 p':=by (repeat' (first | exact trivial | apply And.intro | omega | assumption | (simp only [List.length_append,List.length_cons,List.length_nil,Int.toNat_natCast];omega) | (simp only [List.length_append,List.length_cons,List.length_nil,List.length_take,List.length_drop];omega) | (with_reducible exact (qE _ _).1) | (with_reducible exact (qE _ _).2)));done) : Nx n D E B G L (xA acs ops.toArray Q (bV B G0 L0) fuel' listed):=tN is listed' hsel hb hf h hG hL hp hn
section
variable {d : Nat} {ty : TypeId} {pos : String} {aft : Array Edge} {gd : Option (Nat × Bool)} {K2 : Act → World → Prop}
theorem ak {T T0 : TypeId} {x : Operand} {desc : TypeDesc} {size bytes : Nat} {zero : Value} {b o : Nat} {v : Value} {cs : List Value} {fr : Nat × Nat} [TI acs T desc size bytes zero] [BlkI L b cs T0 fr] (hx : ev E x = some (Pt b o)) (k : Nx n D ((d,v) :: E) B G L K)
    (ha : dv desc = false:=by exact F) (hc : cs[o]? = some v:=by exact F) (hlt : Nat.blt d n = true:=by exact F) : Nx n D E B G L (ow acs ⟨some d,.load T x,ty,pos,aft,gd⟩ Q K):=kf (aA hx ha hc) F hlt k
theorem aV {T T0 : TypeId} {x : Operand} {desc : TypeDesc} {size bytes : Nat} {zero : Value} {b o : Nat} {vs : List Value} {cs : List Value} {fr : Nat × Nat} [TI acs T desc size bytes zero] [BlkI L b cs T0 fr] (hx : ev E x = some (Pt b o)) (k : Nx n D ((d,Ag vs) :: E) B G L K)
    (ha : dv desc = true:=by exact F) (hc : kK cs o size = some vs:=by exact F) (hl : Nat.beq vs.length size = true:=by exact F) (hlt : Nat.blt d n = true:=by exact F) : Nx n D E B G L (ow acs ⟨some d,.load T x,ty,pos,aft,gd⟩ Q K):=kf (bJ hx ha hc hl) F hlt k
theorem aE {c x y : Operand} {b : Bool} {v : Value} (hc : ev E c = some (.bool b)) (k : Nx n D ((d,v) :: E) B G L K) (hx : ev E x = some v:=by exact F) (hb : b = true:=by exact F) (hlt : Nat.blt d n = true:=by exact F) : Nx n D E B G L (ow acs ⟨some d,.pick c x y,ty,pos,aft,gd⟩ Q K):=kf (bB hc hx hb) F hlt k
theorem aq {c x y : Operand} {b : Bool} {v : Value} (hc : ev E c = some (.bool b)) (k : Nx n D ((d,v) :: E) B G L K) (hy : ev E y = some v:=by exact F) (hb : b = false:=by exact F) (hlt : Nat.blt d n = true:=by exact F) : Nx n D E B G L (ow acs ⟨some d,.pick c x y,ty,pos,aft,gd⟩ Q K):=kf (be hc hy hb) F hlt k
theorem jC {T T0 : TypeId} {x y : Operand} {desc : TypeDesc} {size bytes : Nat} {zero : Value} {b o : Nat} {cs vs cs' : List Value} {fr : Nat × Nat} {L' : List Own} [TI acs T desc size bytes zero] [BlkI L b cs T0 fr] [hu : UpdI b cs' L cs T0 L'] (hx : ev E x = some (Pt b o)) (hy : ev E y = some (Ag vs)) (hp : f7 cs o vs = some cs') (k : Nx n D E B G L' K)
    (hl : Nat.beq vs.length size = true:=by exact F) (hne : vs.isEmpty = false:=by exact F) (h1 : ga vs = true:=by exact F) : Nx n D E B G L (ow acs ⟨none,.store T x y,ty,pos,aft,gd⟩ Q K):=abD hx hy hl hne h1 hp k
theorem jD {T T0 : TypeId} {x y : Operand} {desc : TypeDesc} {bytes : Nat} {zero v : Value} {b o : Nat} {cs cs' : List Value} {fr : Nat × Nat} {L' : List Own} [TI acs T desc 1 bytes zero] [BlkI L b cs T0 fr] [hu : UpdI b cs' L cs T0 L'] (hx : ev E x = some (Pt b o)) (hy : ev E y = some v) (hp : f7 cs o [v] = some cs') (k : Nx n D E B G L' K) (h1 : v.oneCell' = true:=by exact F) : Nx n D E B G L (ow acs ⟨none,.store T x y,ty,pos,aft,gd⟩ Q K):=abE hx hy h1 hp k
end
theorem jY {fn : Func} {rs : List ResultVar} {vs : List Value} {R : Value → Prop} (hP : R (eD vs)) (hr : fn.results = rs.toArray:=by exact F) (h : iB acs (St B G L) E rs vs:=by repeat' (first | exact trivial | refine ⟨F,?_⟩)) : Nx n [] E B G L (cu acs (.exit .ret) [] (bp acs fn (dy B (fun v G' L'=>G' = G ∧ L' = [] ∧ R v)))):=aO hr h F (List.nil_sublist _) ⟨F,F,hP⟩
theorem jo {a l : List Oper} {i : Nat} {pm : List Nat} {o : Oper} (h : Nx n D E B G L (ow acs o (kk acs k Q) (cu acs (.ops a l (i + 1) pm) k Q))) (hg : m4 E a pm o = some true:=by exact F) : Nx n D E B G L (cu acs (.ops a (o :: l) i pm) k Q):=t9 hg h
section
variable {d : Nat} {ty : TypeId} {pos : String} {aft : Array Edge} {gd : Option (Nat × Bool)}
theorem jF {T el : TypeId} {len : Nat} {ps : List (Nat × Operand)} {qs : List (Nat × List Value)} {desc : TypeDesc} {size bytes size' bytes' : Nat} {zero zero' : Value} {zs cs : List Value} [TI acs T (.slice el) size' bytes' zero'] [TI acs el desc size bytes zero] (k : ∀ b,Nx n D ((d,.slice (some ⟨b,0,none⟩) len len) :: E) B G (.blk b (.cells cs.toArray el (0,0)) :: L) K) (hz : eH zero = some zs:=by exact F)
    (hsz : Nat.beq zs.length size = true:=by exact F) (he : qb E ps = some qs:=by exact F) (hf : oN (iH (oZ size) (bM zs len) qs) = some cs:=by exact F) (hsm : Nat.ble (len * size) 16777216 = true:=by exact F) (hlt : Nat.blt d n = true:=by exact F) : Nx n D E B G L (ow acs ⟨some d,.buildSlice T len ps.toArray,ty,pos,aft,gd⟩ Q K):=abN hz hsz hsm hlt he hf k
theorem jL {T : TypeId} {desc : TypeDesc} {size bytes : Nat} {zero : Value} {cs : List Value} [TI acs T desc size bytes zero] (k : ∀ b,Nx n D ((d,Pt b 0) :: E) B G (.blk b (.cells cs.toArray T (0,0)) :: L) K) (hz : eH zero = some cs:=by exact F) (hlt : Nat.blt d n = true:=by exact F) : Nx n D E B G L (ow acs ⟨some d,.alloc T,ty,pos,aft,gd⟩ Q K):=acj hz hlt k
theorem jO {T : TypeId} {x : Operand} {v : Value} {cs : List Value} (k : ∀ b,Nx n D ((d,Pt b 0) :: E) B G (.blk b (.cells cs.toArray T (0,0)) :: L) K) (hx : ev E x = some v:=by exact F) (hz : eH v = some cs:=by exact F) (hlt : Nat.blt d n = true:=by exact F) : Nx n D E B G L (ow acs ⟨some d,.box T x,ty,pos,aft,gd⟩ Q K):=aci hx hz hlt k
end
theorem jQ {ops : Array Oper} {S : World → Prop} {fuel : Nat} {listed : Array Bool} (h : Nx n D E B G L (cu acs (.exit .normal) k Q)) (hr : Region.ready .any ops listed = []:=by kernel_rfl) : Nx n D E B G L (xA acs ops (kk acs k Q) S fuel listed):=zb hr (acg h)
theorem zA {α : Type _} {a : α} {l m : List α} : a :: l ++ m = a :: (l ++ m):=rfl
theorem fA {α : Type _} {l : List α} : [] ++ l = l:=rfl
end
set_option maxRecDepth 20000
set_option maxHeartbeats 2000000
theorem wi (l : act) (c : UInt8) : bi (l ++ [c]) = bi l ++ [U8 c.toNat]:=by simp [bi]
def num (n : Nat) : act:=if h : n < 128 then [u8 n] else u8 (128 + n % 128 : Nat) :: num (n / 128)
termination_by n
decreasing_by omega
theorem ic {n : Nat} (h : n < 128) : num n = [u8 n]:=by rw [num];simp [h]
theorem ky {n : Nat} (h : ¬ n < 128) : num n = u8 (128 + n % 128 : Nat) :: num (n / 128):=by rw [num];simp [h]
def aK (n : Int) : act:=num n.toNat
theorem ec {n : Int} (h : n < 128) (h0 : 0 ≤ n) : aK n = [u8 n]:=by
 unfold aK;rw [ic oM,Int.toNat_of_nonneg h0]
theorem gi {n : Int} (h : ¬ n < 128) : aK n = u8 (128 + n % 128) :: aK (n / 128):=by
 unfold aK;rw [ky oM]
 congr 2
 ·omega
 ·omega
theorem pe (n : Nat) : ∀ k,n < 128 ^ (k + 1) → (num n).length ≤ k + 1:=by
 intro k
 induction k generalizing n with
 | zero=>intro h;rw [ic (by simpa using h)];simp
 | succ k ih =>
  intro h
  by_cases h1 : n < 128
  ·rw [ic h1];simp
  ·rw [ky h1]
   have:=ih (n / 128) (Nat.div_lt_of_lt_mul (by rw [Nat.pow_succ] at h;omega))
   simp;omega
theorem wA (n : Nat) (h : n ≤ 9223372036854775807) : (num n).length ≤ 9:=pe n 8 oM
theorem wB (n : Int) (h : n ≤ 9223372036854775807) : (aK n).length ≤ 9:=wA _ oM
def gM (n : Int) : act → Int
 | []=>n
 | c :: l=>gM ((n * 31 + (c.toNat : Int)) % 9973) l
def bz (l : act) : Int:=gM 1 l
theorem nW (l : act) : ∀ n : Int,0 ≤ n → n < 9973 → 0 ≤ gM n l ∧ gM n l < 9973:=by
 induction l with
 | nil=>intro n h1 h2;exact ⟨h1,h2⟩
 | cons c l ih=>intro n h1 h2;exact ih _ (Int.emod_nonneg _ dC) (Int.emod_lt_of_pos _ dC)
theorem ch (l : act) : 0 ≤ bz l ∧ bz l < 9973:=nW l 1 dC dC
theorem fL {l : act} {i : Nat} (h : i < l.length) : ∃ c : UInt8,l.drop i = c :: l.drop (i + 1) ∧ bt l i = c.toNat:=by
 refine ⟨l[i],(List.getElem_cons_drop (h:=h)).symm,?_⟩
 simp [bt,List.getD,List.getElem?_eq_getElem h]
def frame (s : act) : act:=[u8 126] ++ aK s.length ++ s ++ aK (bz s)
theorem b8 {n : Int} (h : n ≤ 999999) : (aK n).length ≤ 3:=pe _ 2 oM
theorem gN (l : act) : (aK (bz l)).length ≤ 3:=b8 (by have:=ch l;omega)
theorem gl (s : act) (h : s.length ≤ 999999) : (frame s).length ≤ s.length + 7:=by
 have h1:=b8 (n:=s.length) oM
 have h2:=gN s
 simp [frame];omega
def gJ (s : act) : act:=if s.length ≤ 100 then frame s else []
def oG (s : act) : Bool:=decide (s.length ≤ 100)
theorem xx {s : act} (h : ¬ s.length ≤ 100) : Tu [S [],Bo false] = Tu [S (gJ s),Bo (oG s)]:=by simp [gJ,oG,h]
theorem vn {s : act} (h : s.length ≤ 100) : Tu [S (frame s),Bo true] = Tu [S (gJ s),Bo (oG s)]:=by simp [gJ,oG,h]
variable {G : Gh}
theorem rQ {n lo hi : Int} : av acs 76 [I n,I lo,I hi] G (· = Bo (decide (lo ≤ n) && decide (n ≤ hi))):=by
 refine jE [(0,_),(1,_),(2,_)] Tryz.func76 Tryz.ntmps76 fun B hB=>?_
 repeat' (first | refine jR ?_ | (refine jo ?_;first | refine aE F ?_ | refine aq F ?_) | refine dA F F (fun _=>?_) (fun _=>?_))
 all_goals refine jY (vs:=[_]) ?_
 all_goals (rw [ax];simp [*])
theorem wT : ∀ (k : Nat) {n : Int},n.toNat ≤ k → 0 ≤ n ∧ n ≤ 9223372036854775807 → av acs 36 [I n] G (· = S (aK n)):=by
 intro k
 induction k with
 | zero =>
  intro n hk hn
  have h1 : n < 128:=oM
  refine jE [(0,_)] Tryz.func36 Tryz.ntmps36 fun B hB=>?_
  repeat' (first | refine jR ?_ | (refine jo ?_;first | refine jF fun _=>?_ | refine jV (dc F F (by (repeat (first | exact BL.nil | apply BL.cons));done)) ?_) | refine ac F (ar ‹_›) ?_)
  refine jY (vs:=[_]) ?_
  rw [ax,ec h1 hn.1]
 | succ k ih =>
  intro n hk hn
  have hl:=wB (n / 128) oM
  refine jE [(0,_)] Tryz.func36 Tryz.ntmps36 fun B hB=>?_
  repeat' (first | refine jR ?_ | (refine jo ?_;first | refine jF fun _=>?_ | refine jV (dc F F (by (repeat (first | exact BL.nil | apply BL.cons));done)) ?_) | refine cR F (fun _=>?_) (fun _=>?_) | (refine aj (an (id:=3) _ (fun _ h=>h) ai ?_);refine jW 5 [0,1,2,3,6,7] (aa 11 207) ?_;refine cy [4,8] kR dC ⟨?_,?_,trivial⟩;(focus (refine a9 F F ?_;(refine jF fun _=>?_);refine jS (aa 11 223) ?_;((refine jG (aa 11 255) 5 F (dc F F (by (repeat (first | exact BL.nil | apply BL.cons));done)) ?_));refine jA 8 F ?_;((refine ab F F F (ih ?_ ?_) F ?_;(focus omega);focus omega));refine jS (aa 11 511) ?_;refine jW 0 [9,10] (aa 11 2047) ?_;refine jQ ?_));rotate_left 1;(focus (refine a9 F F ?_;((refine ab F F F (ih ?_ ?_) F ?_;(focus omega);focus omega));refine jS (aa 11 463) ?_;refine jA 4 F ?_;(refine jF fun _=>?_);refine jS (aa 11 479) ?_;((refine jG (aa 11 511) 5 F (dc F F (by (repeat (first | exact BL.nil | apply BL.cons));done)) ?_));refine jW 0 [9,10] (aa 11 2047) ?_;refine jQ ?_));rotate_left 1))
  ·refine jY (vs:=[_]) ?_
   rw [ax,ec aS hn.1]
  all_goals refine jY (vs:=[_]) ?_
  all_goals (rw [ax,gi (n:=n) aS];rfl)
theorem dk {n : Int} (hn : 0 ≤ n ∧ n ≤ 9223372036854775807) : av acs 36 [I n] G (· = S (aK n)):=wT n.toNat (Nat.le_refl _) hn
def iw (xs : List act) : List Value:=xs.map fun x=>S x
theorem jp (xs : List act) (x : act) : iw (xs ++ [x]) = iw xs ++ [S x]:=by simp [iw]
abbrev kg : TypeId:=9
theorem bR {α : Type} [Inhabited α] {a : List α} {i : Nat} (h : i < a.length) : ae a i ∈ a:=by rw [aU h];exact List.getElem_mem h
theorem mF {α : Type} [Inhabited α] {a : List α} {x : α} (h : x ∈ a) : ∃ i,i < a.length ∧ ae a i = x:=by
 obtain ⟨i,hi,e⟩:=List.mem_iff_getElem.1 h
 exact ⟨i,hi,by rw [aU hi,e]⟩
theorem oy (p s : act) : p.isPrefixOf s = decide (p.length ≤ s.length ∧ s.take p.length = p):=by
 by_cases h : p <+: s
 ·have h1:=List.isPrefixOf_iff_prefix.2 h
  rw [h1];obtain ⟨r,rfl⟩:=h;simp
 ·have h1 : p.isPrefixOf s = false:=by
   cases hb : p.isPrefixOf s with
   | false=>rfl
   | true=>exact absurd (List.isPrefixOf_iff_prefix.1 hb) h
  rw [h1];symm;refine decide_eq_false fun ⟨_,h3⟩=>h ?_
  rw [← h3];exact List.take_prefix _ _
theorem gG {s p : act} : av acs 170 [S s,S p] G (· = Bo (p.isPrefixOf s)):=by
 rw [oy]
 refine jE [(0,_),(1,_)] Tryz.func170 Tryz.ntmps170 fun B hB=>?_
 repeat' (first | refine jM ?_ | (refine jo ?_;first | refine aE F ?_ | refine aq F ?_) | refine dA F F (fun _=>?_) (fun _=>?_))
 all_goals refine jY (vs:=[_]) ?_
 all_goals (rw [ax];simp;omega)
theorem fT {s p : act} : av acs 130 [S s,S p] G (· = Bo (p.isPrefixOf s)):=by
 refine jE [(0,_),(1,_)] Tryz.func130 Tryz.ntmps130 fun B hB=>?_
 repeat' (first | refine jR ?_ | (refine jo ?_;refine ab F F F gG F ?_))
 all_goals refine jY (vs:=[_]) ?_
 all_goals rfl
def jy (c : UInt8) : Bool:=decide (97 ≤ c.toNat ∧ c.toNat ≤ 122)
def co (s : act) : Bool:=s.all jy && decide (1 ≤ s.length ∧ s.length ≤ 3)
def dX : act → Bool
 | []=>false
 | c :: r=>if c.toNat = 91 ∨ c.toNat = 63 then dX r
  else if c.toNat = 64 then decide (((bt (c :: r) r.length : Nat) : Int) = 59) && co (r.take (r.length - 1))
  else decide (r = []) && (decide (c.toNat = 110) || decide (c.toNat = 116) || decide (c.toNat = 102))
def bw (s : act) : Bool:=decide (s.length ≤ 12) && dX s
def bq : act → act
 | []=>[]
 | c :: r=>if c.toNat = 91 ∨ c.toNat = 63 then bq r else c :: r
theorem s5 {s : act} {i : Nat} (h : i < s.length) (h2 : ¬ (97 ≤ bt s i ∧ bt s i ≤ 122)) : co s = false:=by
 have e : bt s i = (s[i]).toNat:=by simp [bt,List.getD,List.getElem?_eq_getElem h]
 have : s.all jy = false:=by
  rw [List.all_eq_false]
  exact ⟨s[i],List.getElem_mem h,by rw [e] at h2;simpa [jy] using h2⟩
 rw [co,this,Bool.false_and]
theorem wD {s : act} (h : ∀ i,i < s.length → 97 ≤ bt s i ∧ bt s i ≤ 122) : co s = decide (1 ≤ s.length ∧ s.length ≤ 3):=by
 have : s.all jy = true:=by
  rw [List.all_eq_true]
  intro c hc
  obtain ⟨i,hi,rfl⟩:=List.mem_iff_getElem.1 hc
  have e : bt s i = (s[i]).toNat:=by simp [bt,List.getD,List.getElem?_eq_getElem hi]
  have:=h i hi
  rw [e] at this
  simpa [jy] using this
 rw [co,this,Bool.true_and]
def qh (n : Nat) : act:=if h : n < 10 then [u8 (48 + n : Nat)] else qh (n / 10) ++ [u8 (48 + n % 10 : Nat)]
termination_by n
decreasing_by omega
def br (n : Int) : act:=qh n.toNat
theorem dF {n : Int} (h : n < 10) (h0 : 0 ≤ n) : br n = [u8 (48 + n)]:=by
 unfold br;rw [qh,dif_pos oM];congr 1;congr 1;omega
theorem iV {n : Int} (h : ¬ n < 10) : br n = br (n / 10) ++ [u8 (48 + n % 10)]:=by
 unfold br;rw [qh,dif_neg oM]
 have e1 : n.toNat / 10 = (n / 10).toNat:=oM
 have e2 : ((48 + n.toNat % 10 : Nat) : Int) = 48 + n % 10:=oM
 rw [e1,e2]
theorem th (n : Nat) : ∀ k,n < 10 ^ (k + 1) → (qh n).length ≤ k + 1:=by
 intro k
 induction k generalizing n with
 | zero=>intro h;rw [qh,dif_pos (by simpa using h)];simp
 | succ k ih =>
  intro h
  by_cases h1 : n < 10
  ·rw [qh,dif_pos h1];simp
  ·rw [qh,dif_neg h1]
   have:=ih (n / 10) (Nat.div_lt_of_lt_mul (by rw [Nat.pow_succ] at h;omega))
   simp;omega
theorem f8 {n : Int} (h : n ≤ 9223372036854775807) : (br n).length ≤ 19:=th _ 18 oM
theorem fB {s : act} (h : s.length ≤ 9000000000000000000) : av acs 108 [S s] G (· = Bo (co s)):=by
 refine jE [(0,_)] Tryz.func108 Tryz.ntmps108 fun B hB=>?_
 repeat' (refine jR ?_)
 refine aR (ι:=Nat) (fun i=>i ≤ s.length ∧ ∀ k,k < i → 97 ≤ bt s k ∧ bt s k ≤ 122) (fun i=>[(0,S s),(3,I i)]) (fun _=>G) (fun i=>[]) (fun i=>s.length - i) 0 ?_ tU F aW (fun i Hi=>?_)
 ·exact ⟨oM,fun k hk=>absurd hk oM⟩
 by_cases hi : i < s.length
 ·repeat' (first | refine jM ?_ | (refine jo ?_;first | refine aE F ?_ | refine aq F ?_) | refine dA F F (fun _=>?_) (fun _=>?_) | (refine ac F (by first | rfl | (refine decide_eq_true ?_;(omega))) ?_) | refine cR F (fun _=>?_) (fun _=>?_))
  ·rename_i hc
   refine jY (vs:=[_]) ?_
   have hc : ((bt s i : Nat) : Int) < 97:=hc
   rw [ax,s5 hi oM]
  ·rename_i _ hc
   refine jY (vs:=[_]) ?_
   have hc : (122 : Int) < ((bt s i : Nat) : Int):=hc
   rw [ax,s5 hi oM]
  ·rename_i h1 h2
   have h1 : ¬ ((bt s i : Nat) : Int) < 97:=h1
   have h2 : ¬ (122 : Int) < ((bt s i : Nat) : Int):=h2
   refine aY (i + 1) ⟨oM,fun k hk=>?_⟩ oM tU F aW
   rcases Nat.lt_or_ge k i with h3 | h3
   ·exact Hi.2 k h3
   ·have : k = i:=oM
    subst this;omega
 ·repeat' (first | refine jR ?_ | (refine jo ?_;refine ab F F F rQ F ?_) | refine ad F (ay oM) ?_)
  refine jY (vs:=[_]) ?_
  rw [ax,wD fun k hk=>Hi.2 k oM]
  refine congrArg Bo ?_
  rw [Bool.decide_and]
  exact congr (congrArg and (decide_eq_decide.2 oM)) (decide_eq_decide.2 oM)
theorem lA (c : UInt8) (r : act) : bt (c :: r) 0 = c.toNat:=by simp [bt,List.getD]
theorem yT {c : UInt8} {r : act} (h : r ≠ []) (hl : r.length ≤ 1000000) : av acs 118 [S (c :: r)] G (· = Tu [S (if c.toNat = 64 then r.take (r.length - 1) else []),Bo (decide (c.toNat = 64))]):=by
 have hp:=List.length_pos_iff.2 h
 have e0:=lA c r
 refine jE [(0,_)] Tryz.func118 Tryz.ntmps118 fun B hB=>?_
 repeat' (first | refine jX ?_ | refine cR F (fun _=>?_) (fun _=>?_))
 ·rename_i hc
  refine jY (vs:=[_,_]) ?_
  have hc : ((bt (c :: r) 0 : Nat) : Int) ≠ 64:=hc
  have hc : ¬ c.toNat = 64:=oM
  rw [dK,if_neg hc,decide_eq_false hc]
 ·rename_i hc
  refine jY (vs:=[_,_]) ?_
  have hc : ¬ ((bt (c :: r) 0 : Nat) : Int) ≠ 64:=hc
  have hc : c.toNat = 64:=oM
  have e : ((((c :: r).length : Nat) : Int) - 1).toNat = (r.length - 1) + 1:=by simp only [List.length_cons];omega
  rw [dK,if_pos hc,decide_eq_true hc,e,List.take_succ_cons];rfl
theorem mo {s : act} : av acs 117 [S s] G (· = Bo (bw s)):=by
 induction s with
 | nil =>
  refine jE [(0,_)] Tryz.func117 Tryz.ntmps117 fun B hB=>?_
  repeat' (first | refine jR ?_ | (refine jo ?_;refine aq F ?_) | refine al F F F ?_ | refine ac F F ?_)
  all_goals refine jY (vs:=[_]) ?_
  all_goals rfl
 | cons c r ih =>
  have e0 : bt (c :: r) (Int.toNat 0) = c.toNat:=lA c r
  by_cases hl : (c :: r).length ≤ 12
  ·have hl2 : r.length ≤ 12:=by simp at hl;omega
   rw [bw,decide_eq_true hl,Bool.true_and,dX]
   rw [bw,decide_eq_true hl2,Bool.true_and] at ih
   have hcons : (c :: r).length = r.length + 1:=rfl
   by_cases h1 : c.toNat = 91
   ·rw [if_pos (.inl h1)]
    refine jE [(0,_)] Tryz.func117 Tryz.ntmps117 fun B hB=>?_
    repeat' (first | refine jM ?_ | (refine jo ?_;first | refine aq F ?_ | refine ab F F F ih F ?_) | refine al F F (ay oM) ?_ | refine ac F (ar oM) ?_ | refine ad F F ?_)
    refine jY (vs:=[_]) ?_
    rfl
   by_cases h2 : c.toNat = 63
   ·rw [if_pos (.inr h2)]
    refine jE [(0,_)] Tryz.func117 Tryz.ntmps117 fun B hB=>?_
    repeat' (first | refine jM ?_ | (refine jo ?_;first | refine aq F ?_ | refine ab F F F ih F ?_) | refine al F F (ay oM) ?_ | refine ac F (ar oM) ?_ | (refine ad F (by first | rfl | (refine decide_eq_false ?_;(omega))) ?_))
    refine jY (vs:=[_]) ?_
    rfl
   rw [if_neg oM]
   by_cases h3 : c.toNat = 64
   ·rw [if_pos h3]
    have h5 : ((((c :: r).length : Nat) : Int) - 1).toNat = r.length:=oM
    by_cases h4 : ((bt (c :: r) r.length : Nat) : Int) = 59
    ·have h6 : ((bt (c :: r) ((((c :: r).length : Nat) : Int) - 1).toNat : Nat) : Int) = 59:=by rw [h5];exact h4
     have hp : 0 < r.length:=by
      rcases Nat.eq_zero_or_pos r.length with h0 | h0
      ·have : r = []:=List.length_eq_zero_iff.1 h0
       subst this
       have : ((bt [c] (Int.toNat 0) : Nat) : Int) = 59:=h4
       omega
      ·exact h0
     have e1 : ((((c :: r).length : Nat) : Int) - 1).toNat = (r.length - 1) + 1:=oM
     refine jE [(0,_)] Tryz.func117 Tryz.ntmps117 fun B hB=>?_
     repeat' (first | refine jM ?_ | (refine jo ?_;first | refine aE F ?_ | refine aq F ?_ | (refine ab F F F (fB ?_) F ?_;(focus ((simp;omega);done)))) | refine aw F F (ar ‹_›) ?_ | refine al F F (ay oM) ?_ | refine ac F (ar oM) ?_ | (refine ad F (by first | rfl | (refine decide_eq_false ?_;(omega))) ?_))
     refine jY (vs:=[_]) ?_
     rw [ax,decide_eq_true h4,Bool.true_and,e1,List.take_succ_cons];rfl
    ·have h6 : ¬ ((bt (c :: r) ((((c :: r).length : Nat) : Int) - 1).toNat : Nat) : Int) = 59:=by rw [h5];exact h4
     refine jE [(0,_)] Tryz.func117 Tryz.ntmps117 fun B hB=>?_
     repeat' (first | refine jM ?_ | (refine jo ?_;refine aq F ?_) | (refine al F F (by refine decide_eq_false ?_;first | assumption | omega) ?_) | refine ac F (ar oM) ?_ | (refine ad F (by first | rfl | (refine decide_eq_false ?_;(omega))) ?_))
     refine jY (vs:=[_]) ?_
     rw [ax,decide_eq_false h4,Bool.false_and]
   ·rw [if_neg h3]
    have n1 : ∀ x : UInt8,(c :: r = [x]) = (c.toNat = x.toNat ∧ r = []):=fun x=>by
     rw [List.cons.injEq];exact propext ⟨fun h=>⟨by rw [h.1],h.2⟩,fun h=>⟨UInt8.toNat_inj.1 h.1,h.2⟩⟩
    refine jE [(0,_)] Tryz.func117 Tryz.ntmps117 fun B hB=>?_
    repeat' (first | refine jM ?_ | (refine jo ?_;first | refine aE F ?_ | refine aq F ?_) | refine aw F F F ?_ | refine al F F (ay oM) ?_ | refine dA F F (fun _=>?_) (fun _=>?_) | (refine ad F (by first | rfl | (refine decide_eq_false ?_;(omega))) ?_))
    all_goals refine jY (vs:=[_]) ?_
    all_goals rw [ax]
    ·rename_i h;rw [n1] at h;rw [decide_eq_true h.2,decide_eq_true (p:=c.toNat = 110) h.1];rfl
    ·rename_i h;rw [n1] at h;rw [decide_eq_true h.2,decide_eq_true (p:=c.toNat = 116) h.1];simp
    ·rename_i ha hb
     refine congrArg Bo ?_
     rw [n1] at ha hb
     simp only [n1]
     by_cases hr : r = []
     ·have hx : ¬ c.toNat = 110:=fun h=>ha ⟨h,hr⟩
      have hy : ¬ c.toNat = 116:=fun h=>hb ⟨h,hr⟩
      simp [hr,hx,hy]
     ·simp [hr]
  ·rw [bw,decide_eq_false hl,Bool.false_and]
   refine jE [(0,_)] Tryz.func117 Tryz.ntmps117 fun B hB=>?_
   repeat' (first | refine jR ?_ | (refine jo ?_;refine aE F ?_) | refine aw F F (ar oM) ?_ | refine ac F F ?_)
   all_goals refine jY (vs:=[_]) ?_
   all_goals rfl
theorem rU {s : act} (h : dX s = true) : av acs 119 [S s] G (· = S (bq s)):=by
 refine jE [(0,_)] Tryz.func119 Tryz.ntmps119 fun B hB=>?_
 repeat' (refine jR ?_)
 refine aR (ι:=act) (fun t=>dX t = true ∧ bq t = bq s) (fun t=>[(0,S t)]) (fun _=>G) (fun t=>[]) (fun t=>t.length) s ?_ tU F aW (fun t Ht=>?_)
 ·exact ⟨h,F⟩
 match t,Ht with
 | c :: r,Ht =>
  have e0 : bt (c :: r) (Int.toNat 0) = c.toNat:=lA c r
  have hcons : (c :: r).length = r.length + 1:=rfl
  by_cases h1 : c.toNat = 91 ∨ c.toNat = 63
  ·have hk : dX r = true:=by have:=Ht.1;rw [dX,if_pos h1] at this;exact this
   have hc : bq r = bq s:=by rw [← Ht.2,bq,if_pos h1]
   rcases h1 with h1 | h1
   all_goals repeat' (first | refine jM ?_ | (refine jo ?_;first | refine aE F ?_ | refine aq F ?_) | refine aw F F (ar oM) ?_ | refine al F F (ay oM) ?_ | (refine ac F (by first | rfl | (refine decide_eq_true ?_;(omega))) ?_))
   all_goals exact aY r ⟨hk,hc⟩ oM tU F aW
  ·repeat' (first | refine jM ?_ | (refine jo ?_;refine aq F ?_) | refine al F F (ay oM) ?_ | refine ad F (ay oM) ?_)
   refine jY (vs:=[_]) ?_
   rw [ax,← Ht.2,bq,if_neg h1]
theorem wS : ∀ (k : Nat) {n : Int},n.toNat ≤ k → 0 ≤ n ∧ n ≤ 9223372036854775807 → av acs 122 [I n] G (· = S (br n)):=by
 intro k
 induction k with
 | zero =>
  intro n hk hn
  have h1 : n < 10:=oM
  refine jE [(0,_)] Tryz.func122 Tryz.ntmps122 fun B hB=>?_
  repeat' (first | refine jM ?_ | (refine jo ?_;first | refine jF fun _=>?_ | refine jV (dc F F (by (repeat (first | exact BL.nil | apply BL.cons));done)) ?_) | refine ac F (ar ‹_›) ?_ | refine ad F (ay oM) ?_)
  refine jY (vs:=[_]) ?_
  rw [ax,dF h1 hn.1]
 | succ k ih =>
  intro n hk hn
  have hl:=f8 (n:=n / 10) oM
  by_cases h1 : n < 10
  ·refine jE [(0,_)] Tryz.func122 Tryz.ntmps122 fun B hB=>?_
   repeat' (first | refine jM ?_ | (refine jo ?_;first | refine jF fun _=>?_ | refine jV (dc F F (by (repeat (first | exact BL.nil | apply BL.cons));done)) ?_) | refine ac F (ar ‹_›) ?_ | refine ad F (ay oM) ?_)
   refine jY (vs:=[_]) ?_
   rw [ax,dF h1 hn.1]
  ·refine jE [(0,_)] Tryz.func122 Tryz.ntmps122 fun B hB=>?_
   repeat' (first | refine jR ?_ | (refine ad F (by refine decide_eq_false ?_;first | assumption | omega) ?_) | (refine aj (an (id:=7) _ (fun _ h=>h) ai ?_);refine jW 5 [0,1,3,4,5,6] (aa 11 123) ?_;refine cy [2,7] kR dC ⟨?_,?_,trivial⟩;(focus (refine a9 F F ?_;((refine ab F F F (ih ?_ ?_) F ?_;(focus omega);focus omega));refine jS (aa 11 127) ?_;refine jA 7 F ?_;(refine jF fun _=>?_);refine jS (aa 11 255) ?_;((refine jG (aa 11 511) 8 F (dc F F (by (repeat (first | exact BL.nil | apply BL.cons));done)) ?_));refine jW 0 [9,10] (aa 11 2047) ?_;refine jQ ?_));rotate_left 1;(focus (refine a9 F F ?_;(refine jF fun _=>?_);refine jS (aa 11 251) ?_;((refine jG (aa 11 507) 8 F (dc F F (by (repeat (first | exact BL.nil | apply BL.cons));done)) ?_));refine jA 2 F ?_;((refine ab F F F (ih ?_ ?_) F ?_;(focus omega);focus omega));refine jS (aa 11 511) ?_;refine jW 0 [9,10] (aa 11 2047) ?_;refine jQ ?_));rotate_left 1))
   all_goals refine jY (vs:=[_]) ?_
   all_goals rw [ax,iV (n:=n) h1]
theorem eI {n : Int} (hn : 0 ≤ n ∧ n ≤ 9223372036854775807) : av acs 122 [I n] G (· = S (br n)):=wS n.toNat (Nat.le_refl _) hn
def fC (s : act) : act:=if s = [110] then [48] else if s = [116] then [39,39] else if s = [102] then [110,111] else []
theorem qn {s : act} : av acs 195 [S s] G (· = S (fC s)):=by
 refine jE [(0,_)] Tryz.func195 Tryz.ntmps195 fun B hB=>?_
 repeat' (first | refine jR ?_ | refine cR F (fun _=>?_) (fun _=>?_))
 all_goals refine jY (vs:=[_]) ?_
 all_goals (rw [ax,fC];simp [*])
def iC (x : Nat) : Prop:=x = 32 ∨ (48 ≤ x ∧ x ≤ 57) ∨ (97 ≤ x ∧ x ≤ 122)
instance (x : Nat) : Decidable (iC x):=inferInstanceAs (Decidable (_ ∨ _))
def xE (s : act) : Prop:=(2 ≤ s.length ∧ s.length ≤ 14) ∧ bt s 0 = 39 ∧ bt s (s.length - 1) = 39 ∧ ∀ i,i < s.length - 1 → i = 0 ∨ iC (bt s i)
instance (s : act) : Decidable (xE s):=inferInstanceAs (Decidable (_ ∧ _ ∧ _ ∧ _))
def db (s : act) : Bool:=decide (xE s)
theorem eV {s : act} (h : s.length ≤ 100000000) : av acs 157 [S s] G (· = Bo (db s)):=by
 by_cases h1 : 2 ≤ s.length ∧ s.length ≤ 14
 case neg =>
  have e : db s = false:=decide_eq_false fun x=>h1 x.1
  rw [e]
  refine jE [(0,_)] Tryz.func157 Tryz.ntmps157 fun B hB=>?_
  repeat' (first | refine jR ?_ | (refine jo ?_;first | refine aE F ?_ | refine aq F ?_) | (refine aw F F (by first | rfl | (refine decide_eq_true ?_;(omega))) ?_) | refine dA F F (fun _=>?_) (fun _=>?_) | refine ac F F ?_)
  all_goals refine jY (vs:=[_]) ?_
  all_goals rfl
 by_cases h2 : bt s 0 = 39
 case neg =>
  have e : db s = false:=decide_eq_false fun x=>h2 x.2.1
  have h3 : ¬ bt s (Int.toNat 0) = 39:=h2
  rw [e]
  refine jE [(0,_)] Tryz.func157 Tryz.ntmps157 fun B hB=>?_
  repeat' (first | refine jM ?_ | (refine jo ?_;first | refine aE F ?_ | refine aq F ?_) | refine aw F F (ar oM) ?_ | refine al F F (ay oM) ?_ | refine ac F F ?_)
  all_goals refine jY (vs:=[_]) ?_
  all_goals rfl
 have h3 : bt s (Int.toNat 0) = 39:=h2
 have h4 : (((s.length : Nat) : Int) - 1).toNat = s.length - 1:=oM
 by_cases h5 : bt s (s.length - 1) = 39
 case neg =>
  have e : db s = false:=decide_eq_false fun x=>h5 x.2.2.1
  have h6 : ¬ bt s (((s.length : Nat) : Int) - 1).toNat = 39:=by rw [h4];exact h5
  rw [e]
  refine jE [(0,_)] Tryz.func157 Tryz.ntmps157 fun B hB=>?_
  repeat' (first | refine jM ?_ | (refine jo ?_;refine aq F ?_) | refine al F F (ay oM) ?_ | refine ac F (ar oM) ?_)
  all_goals refine jY (vs:=[_]) ?_
  all_goals rfl
 have h6 : bt s (((s.length : Nat) : Int) - 1).toNat = 39:=by rw [h4];exact h5
 refine jE [(0,_)] Tryz.func157 Tryz.ntmps157 fun B hB=>?_
 repeat' (first | refine jM ?_ | (refine jo ?_;refine aq F ?_) | refine al F F (ay oM) ?_ | refine ad F (ay oM) ?_)
 refine aR (ι:=Nat) (fun i=>(1 ≤ i ∧ i ≤ s.length - 1) ∧ ∀ k,k < i → k = 0 ∨ iC (bt s k)) (fun i=>[(0,S s),(3,I i)]) (fun _=>G) (fun i=>[]) (fun i=>s.length - i) 1 ?_ tU F aW (fun i Hi=>?_)
 ·exact ⟨⟨Nat.le_refl _,oM⟩,fun k hk=>.inl oM⟩
 by_cases hi : i < s.length - 1
 ·by_cases ht : iC (bt s i)
  ·have ht2 : iC (bt s ((i : Int).toNat)):=ht
   unfold iC at ht2
   repeat' (first | refine jM ?_ | (refine jo ?_;first | refine aE F ?_ | refine aq F ?_) | (refine al F F (by first | rfl | (refine decide_eq_false ?_;(omega))) ?_) | refine dA F F (fun _=>?_) (fun _=>?_) | refine ac F (ar oM) ?_ | (refine ad F (by first | rfl | (refine decide_eq_false ?_;(omega))) ?_))
   all_goals refine aY (i + 1) ⟨⟨oM,oM⟩,fun k hk=>?_⟩ oM tU F aW
   all_goals (rcases Nat.lt_or_ge k i with h7 | h7;· exact Hi.2 k h7)
   all_goals (have : k = i:=by omega)
   all_goals (subst this;exact .inr ht)
  ·have ht2 : ¬ iC (bt s ((i : Int).toNat)):=ht
   unfold iC at ht2
   have e : db s = false:=decide_eq_false fun x=>(x.2.2.2 i hi).elim (fun h8=>by omega) ht
   rw [e]
   repeat' (first | refine jM ?_ | (refine jo ?_;first | refine aE F ?_ | refine aq F ?_) | (refine aw F F (by first | rfl | (refine decide_eq_true ?_;(omega))) ?_) | refine dA F F (fun _=>?_) (fun _=>?_) | (refine ac F (by first | rfl | (refine decide_eq_true ?_;(omega))) ?_))
   all_goals refine jY (vs:=[_]) ?_
   all_goals rfl
 ·have e : db s = true:=decide_eq_true ⟨h1,h2,h5,fun k hk=>Hi.2 k oM⟩
  rw [e]
  repeat' (first | refine jM ?_ | refine ad F (ay oM) ?_)
  refine jY (vs:=[_]) ?_
  rfl
def dG (k : Nat) (acc : act) : act → List act
 | []=>[acc]
 | c :: r=>if c.toNat = k then acc :: dG k [] r else dG k (acc ++ [c]) r
def a7 (k : Nat) (s : act) : List act:=dG k [] s
theorem tD {s : act} {k : Nat} (h : s.length ≤ 100000000) : cx acs 82 [S s,U8 k] G [] (fun v L'=>L' = [.acc v kg 1 (a7 k s).length (iw (a7 k s))] ∧ qr v (a7 k s).length):=by
 refine jH [(0,_),(1,_)] Tryz.func82 Tryz.ntmps82 fun B hB hW=>?_
 repeat' (first | refine jR ?_ | (refine jo ?_;refine jF fun _=>?_))
 rename_i x
 refine Nx.blkAcc (m:=0) (sz:=1) .here F ?_
 refine aR (ι:=Value × List act × Nat × Nat) (fun i=>(i.2.2.1 ≤ i.2.2.2 ∧ i.2.2.2 ≤ s.length ∧ i.2.1.length ≤ i.2.2.2) ∧ i.2.1 ++ dG k ((s.take i.2.2.2).drop i.2.2.1) (s.drop i.2.2.2) = a7 k s) (fun i=>[(0,S s),(1,U8 k),(5,i.1),(6,I i.2.2.1),(7,I i.2.2.2)]) (fun _=>G) (fun i=>[.acc i.1 kg 1 i.2.1.length (iw i.2.1)]) (fun i=>s.length - i.2.2.2) (.slice (some ⟨x,0,none⟩) 0 0,[],0,0) ?_ tU F aW (fun i Hi=>?_)
 ·exact ⟨⟨Nat.le_refl _,Nat.zero_le _,Nat.zero_le _⟩,F⟩
 obtain ⟨u,xs,fr,i⟩:=i
 dsimp only at Hi ⊢
 by_cases hi : i < s.length
 ·obtain ⟨c,hc1,hc2⟩:=fL hi
  have hn : s.drop i ≠ []:=by rw [hc1];simp
  have ht : (s.take (i + 1)).drop fr = (s.take i).drop fr ++ [c]:=by
   have e : s[i] = c:=by have:=List.getElem_cons_drop (h:=hi);rw [hc1] at this;exact (List.cons.inj this).1
   rw [List.take_succ_eq_append_getElem hi,e,List.drop_append_of_le_length (by simp;omega)]
  have hcut:=Hi.2
  rw [hc1,dG] at hcut
  by_cases hk : c.toNat = k
  ·have hk2 : bt s i = k:=oM
   rw [if_pos hk] at hcut
   repeat' (first | refine jM ?_ | (refine jo ?_;first | refine jF fun _=>?_ | refine mJ F F F F F F F F oM fun _=>?_) | (refine ac F ?_ ?_;(focus ((first | (refine decide_eq_true ?_;(omega)) | (simp [*];done));done))))
   refine aY (_,xs ++ [(s.take i).drop fr],i + 1,i + 1) ⟨⟨by dsimp only;omega,by dsimp only;omega,by simp;omega⟩,?_⟩ (by dsimp only;omega) tU rfl (by dsimp only;simp only [jp,List.length_append,List.length_cons,List.length_nil,Nat.zero_add];repeat (first | exact List.nil_sublist _ | apply List.Sublist.cons_cons))
   have e0 : (s.take (i + 1)).drop (i + 1) = []:=by simp
   dsimp only;rw [e0,← hcut];simp
  ·have hk2 : ¬ bt s i = k:=oM
   rw [if_neg hk] at hcut
   repeat' (first | refine jM ?_ | refine ac F (ar oM) ?_ | (refine ad F ?_ ?_;(focus ((simp;omega);done))))
   refine aY (u,xs,fr,i + 1) ⟨⟨by dsimp only;omega,by dsimp only;omega,by dsimp only;omega⟩,?_⟩ (by dsimp only;omega) tU rfl aW
   dsimp only;rw [ht];exact hcut
 ·have e : a7 k s = xs ++ [s.drop fr]:=by
   have ei : i = s.length:=oM
   rw [← Hi.2,ei,List.take_length,List.drop_length];rfl
  repeat' (first | refine jM ?_ | (refine jo ?_;first | refine jF fun _=>?_ | refine mJ F F F F F F F F oM fun _=>?_) | refine ad F (ay oM) ?_)
  refine Nx.shp (.head _) fun hsh=>aO (vs:=[_]) F ⟨F,trivial⟩ F (List.Sublist.cons_cons _ (List.nil_sublist _)) ⟨F,?_,?_⟩
  ·rw [e,jp,List.length_append];rfl
  ·rw [e,List.length_append];exact hsh
def cZ (n : Int) : act → Option Int
 | []=>some n
 | c :: r=>if 48 ≤ c.toNat ∧ c.toNat ≤ 57 then cZ (10 * n + ((c.toNat : Int) - 48)) r else none
def aL (s : act) (top : Int) : Option Int :=
 if s.length ≤ 6 then
  match cZ 0 s with
  | some n=>if s = br n ∧ n ≤ top then some n else none
  | none=>none
 else none
theorem wy (i : Nat) (hi : i ≤ 5) : (10 : Int) ^ (i + 1) = 10 * 10 ^ i ∧ (10 : Int) ^ i ≤ 100000 ∧ (0 : Int) < 10 ^ i:=by
 refine ⟨by rw [Int.pow_succ,Int.mul_comm],?_⟩
 rcases (show i = 0 ∨ i = 1 ∨ i = 2 ∨ i = 3 ∨ i = 4 ∨ i = 5 by omega) with rfl | rfl | rfl | rfl | rfl | rfl <;> decide
theorem gZ {s : act} {top : Int} (h : s.length ≤ 100000000) : av acs 86 [S s,I top] G (fun v=>∃ n,v = Tu [I n,Bo (aL s top).isSome] ∧ (∀ m,aL s top = some m → n = m)):=by
 refine jE [(0,_),(1,_)] Tryz.func86 Tryz.ntmps86 fun B hB=>?_
 repeat' (refine jR ?_)
 refine aR (ι:=Nat × Int) (fun i=>(i.1 ≤ s.length ∧ i.1 ≤ 6) ∧ (0 ≤ i.2 ∧ i.2 + 1 ≤ 10 ^ i.1) ∧ cZ i.2 (s.drop i.1) = cZ 0 s) (fun i=>[(0,S s),(1,I top),(6,I i.2),(7,I i.1)]) (fun _=>G) (fun i=>[]) (fun i=>s.length - i.1) (0,0) ?_ tU F aW (fun i Hi=>?_)
 ·exact ⟨⟨by dsimp only;omega,by dsimp only;omega⟩,⟨by dsimp only;omega,by dsimp only;decide⟩,rfl⟩
 obtain ⟨i,n⟩:=i
 dsimp only at Hi ⊢
 by_cases hi : i < s.length
 ·obtain ⟨c,hc1,hc2⟩:=fL hi
  have hc3 : bt s ((i : Int).toNat) = c.toNat:=hc2
  have hd:=Hi.2.2
  rw [hc1,cZ] at hd
  by_cases h5 : i ≤ 5
  ·have hp:=wy i h5
   by_cases hdig : 48 ≤ c.toNat ∧ c.toNat ≤ 57
   ·rw [if_pos hdig] at hd
    repeat' (first | refine jM ?_ | (refine jo ?_;refine aq F ?_) | refine al F F (ay oM) ?_ | refine ac F (ar oM) ?_ | refine ad F (ay oM) ?_)
    refine aY (i + 1,10 * n + ((c.toNat : Int) - 48)) ⟨⟨by dsimp only;omega,by dsimp only;omega⟩,⟨by dsimp only;omega,by dsimp only;rw [hp.1];omega⟩,hd⟩ (by dsimp only;omega) ?_ rfl aW
    rw [← hc2];repeat (first | exact trivial | refine ⟨F,?_⟩)
   ·rw [if_neg hdig] at hd
    have hno : aL s top = none:=by unfold aL;rw [← hd];split <;> rfl
    repeat' (first | refine jM ?_ | (refine jo ?_;first | refine aE F ?_ | refine aq F ?_) | (refine aw F F (by first | rfl | (refine decide_eq_true ?_;(omega))) ?_) | refine dA F F (fun _=>?_) (fun _=>?_) | (refine ac F (by first | rfl | (refine decide_eq_true ?_;(omega))) ?_))
    all_goals refine jY (vs:=[_,_]) ?_
    all_goals exact ⟨_,by rw [hno];rfl,fun m hm=>by rw [hno] at hm;cases hm⟩
  ·have hno : aL s top = none:=by unfold aL;rw [if_neg oM]
   have e6 : i = 6:=oM
   subst e6
   repeat' (first | refine jM ?_ | (refine jo ?_;first | refine aE F ?_ | refine aq F ?_) | refine aw F F F ?_ | refine dA F F (fun _=>?_) (fun _=>?_) | (refine ac F (by first | rfl | (refine decide_eq_true ?_;(omega))) ?_))
   all_goals refine jY (vs:=[_,_]) ?_
   all_goals exact ⟨_,by rw [hno];rfl,fun m hm=>by rw [hno] at hm;cases hm⟩
 ·have ei : i = s.length:=oM
  have hd:=Hi.2.2
  rw [ei,List.drop_length,cZ] at hd
  have hp : n ≤ 9223372036854775807:=by
   rcases Nat.lt_or_ge i 6 with h1 | h1
   ·have:=wy i oM;omega
   ·have e6 : i = 6:=oM
    subst e6
    have:=Hi.2.1.2
    have e : (10 : Int) ^ 6 = 1000000:=by decide
    omega
  have hno : aL s top = if s = br n ∧ n ≤ top then some n else none:=by unfold aL;rw [if_pos oM,← hd]
  repeat' (first | refine jR ?_ | (refine jo ?_;first | refine aE F ?_ | refine aq F ?_ | refine ab F F F (eI oM) F ?_) | refine dA F F (fun _=>?_) (fun _=>?_) | refine ad F (ay oM) ?_)
  ·rename_i hs
   refine jY (vs:=[_,_]) ?_
   refine ⟨n,?_,fun m hm=>?_⟩
   ·rw [hno,dK]
    by_cases ht : n ≤ top
    ·rw [if_pos ⟨hs,ht⟩,decide_eq_true ht];rfl
    ·rw [if_neg (fun h=>ht h.2),decide_eq_false ht];rfl
   ·rw [hno] at hm
    split at hm
    ·exact Option.some.inj hm
    ·cases hm
  ·rename_i hs
   refine jY (vs:=[_,_]) ?_
   refine ⟨n,by rw [hno,if_neg (fun h=>hs h.1)];rfl,fun m hm=>?_⟩
   rw [hno,if_neg (fun h=>hs h.1)] at hm;cases hm
def bG (k s : act) : Bool :=
 if k = [110] then (aL s 999999).isSome && decide (s ≠ [48])
 else if k = [116] then db s && decide (s ≠ [39,39])
 else if k = [102] then decide (s = [121,101,115])
 else false
theorem vQ {k s : act} (h : s.length ≤ 100000000) : av acs 209 [S k,S s] G (· = Bo (bG k s)):=by
 by_cases h1 : k = [110]
 ·have e : bG k s = ((aL s 999999).isSome && decide (s ≠ [48])):=by rw [bG,if_pos h1]
  rw [e]
  refine jE [(0,_),(1,_)] Tryz.func209 Tryz.ntmps209 fun B hB=>?_
  repeat' (first | refine jR ?_ | (refine jo ?_;first | refine aE F ?_ | refine aq F ?_ | (refine c8 F F F (gZ oM) F ?_;rintro _ ⟨n,rfl,hnum⟩)) | refine kq F F (fun _=>?_) (fun _=>?_) | refine ac F (ar ‹_›) ?_)
  all_goals refine jY (vs:=[_]) ?_
  all_goals (rw [ax];simp [*])
 by_cases h2 : k = [116]
 ·have e : bG k s = (db s && decide (s ≠ [39,39])):=by rw [bG,if_neg h1,if_pos h2]
  rw [e]
  refine jE [(0,_),(1,_)] Tryz.func209 Tryz.ntmps209 fun B hB=>?_
  repeat' (first | refine jR ?_ | (refine jo ?_;first | refine aE F ?_ | refine aq F ?_ | refine ab F F F (eV ‹_›) F ?_) | refine dA F F (fun _=>?_) (fun _=>?_) | refine ac F (ar ‹_›) ?_ | refine ad F (ay ‹_›) ?_)
  all_goals refine jY (vs:=[_]) ?_
  all_goals (rw [ax];simp [*,db])
 by_cases h3 : k = [102]
 ·have e : bG k s = decide (s = [121,101,115]):=by rw [bG,if_neg h1,if_neg h2,if_pos h3]
  rw [e]
  refine jE [(0,_),(1,_)] Tryz.func209 Tryz.ntmps209 fun B hB=>?_
  repeat' (first | refine jR ?_ | refine ac F (ar ‹_›) ?_ | refine ad F (ay ‹_›) ?_)
  all_goals refine jY (vs:=[_]) ?_
  all_goals rfl
 ·have e : bG k s = false:=by rw [bG,if_neg h1,if_neg h2,if_neg h3]
  rw [e]
  refine jE [(0,_),(1,_)] Tryz.func209 Tryz.ntmps209 fun B hB=>?_
  repeat' (first | refine jR ?_ | refine ad F (ay ‹_›) ?_)
  all_goals refine jY (vs:=[_]) ?_
  all_goals rfl
structure Fld where
 tag : Int
 name : act
 kind : act
 stand : act
deriving Inhabited
def gU (f : Fld) : List Value:=[I f.tag,S f.name,S f.kind,S f.stand]
instance : RowF gU 4:=⟨fun _=>rfl⟩
def bN (s : act) (k : Nat) : Option Fld :=
 match a7 58 s with
 | [a,b]=>if k = 69 then
   match aL a 200 with
   | some n=>if 1 ≤ n ∧ co b = true then some ⟨n,b,[],[]⟩ else none
   | none=>none
  else none
 | [a,b,c]=>if k = 69 then none else
   match aL a 200 with
   | some n=>if 1 ≤ n ∧ co b = true then
     match a7 61 c with
     | [d]=>if bw d = true then some ⟨n,b,d,[]⟩ else none
     | [d,e]=>if k = 82 ∧ bG d e = true then some ⟨n,b,d,e⟩ else none
     | _=>none
    else none
   | none=>none
 | _=>none
theorem nE {k : Nat} : ∀ {s acc : act} {x : act},x ∈ dG k acc s → x.length ≤ acc.length + s.length
 | [],acc,x,h=>by simp [dG] at h;subst h;simp
 | c :: r,acc,x,h=>by
  unfold dG at h
  split at h
  ·rcases List.mem_cons.1 h with rfl | h
   ·simp
   ·have:=nE h;simp at this ⊢;omega
  ·have:=nE h;simp at this ⊢;omega
theorem di {k : Nat} {s x : act} (h : x ∈ a7 k s) : x.length ≤ s.length:=by have:=nE h;simpa using this
theorem nI {k : Nat} : ∀ {s acc : act},0 < (dG k acc s).length
 | [],acc=>by simp [dG]
 | c :: r,acc=>by
  unfold dG
  split
  ·simp
  ·exact nI
theorem dS {k : Nat} {s : act} : 0 < (a7 k s).length:=nI
theorem iy {k : Nat} : ∀ {s acc : act},(dG k acc s).length ≤ s.length + 1
 | [],acc=>by simp [dG]
 | c :: r,acc=>by
  unfold dG
  split
  ·have:=iy (k:=k) (s:=r) (acc:=[]);simp;omega
  ·have:=iy (k:=k) (s:=r) (acc:=acc ++ [c]);simp;omega
theorem j4 {k : Nat} {s : act} : (a7 k s).length ≤ s.length + 1:=iy
def aC (k : Nat) : act → act × act × Bool
 | []=>([],[],false)
 | c :: r=>if c.toNat = k then ([],r,true) else (c :: (aC k r).1,(aC k r).2.1,(aC k r).2.2)
theorem dT (c : UInt8) (r : act) (i : Nat) : bt (c :: r) (i + 1) = bt r i:=by simp [bt,List.getD]
theorem bh (c : UInt8) (r : act) : bt (c :: r) 0 = c.toNat:=by simp [bt,List.getD]
theorem pw {k : Nat} : ∀ {s : act},(∀ j,j < s.length → bt s j ≠ k) → aC k s = (s,[],false)
 | [],_=>rfl
 | c :: r,h=>by
  have h0:=h 0 (by simp)
  rw [bh] at h0
  have ih:=pw (k:=k) (s:=r) fun j hj=>by have:=h (j + 1) (by simpa using hj);rwa [dT] at this
  rw [aC,if_neg h0,ih]
theorem mH {k : Nat} : ∀ {s : act} {i : Nat},i < s.length → (∀ j,j < i → bt s j ≠ k) → bt s i = k → aC k s = (s.take i,s.drop (i + 1),true)
 | [],i,h,_,_=>by simp at h
 | c :: r,0,_,_,h=>by rw [bh] at h;rw [aC,if_pos h];rfl
 | c :: r,i + 1,hl,h,hi=>by
  have h0:=h 0 oM
  rw [bh] at h0
  rw [dT] at hi
  have ih:=mH (k:=k) (s:=r) (i:=i) (by simpa using hl) (fun j hj=>by have:=h (j + 1) oM;rwa [dT] at this) hi
  rw [aC,if_neg h0,ih];rfl
structure Ty where
 sort : Nat
 name : act
 fields : List Fld
deriving Inhabited
def fresh (f : Fld) (fs : List Fld) : Bool:=fs.all fun g=>decide (g.tag < f.tag ∧ g.name ≠ f.name)
def cW (k : Nat) : List act → List Fld → Option (List Fld)
 | [],fs=>some fs
 | x :: xs,fs=>match bN x k with
  | none=>none
  | some f=>if fresh f fs = true then cW k xs (fs ++ [f]) else none
def d8 (k : Nat) : Prop:=k = 82 ∨ k = 85 ∨ k = 69
instance (k : Nat) : Decidable (d8 k):=inferInstanceAs (Decidable (_ ∨ _ ∨ _))
def c0 : act → Option Ty
 | []=>none
 | c :: r=>match aC 61 r with
  | (name,rest,true)=>if co name = true ∧ d8 c.toNat then
    if rest = [] then (if c.toNat = 82 then some ⟨82,name,[]⟩ else none)
    else match cW c.toNat (a7 44 rest) [] with
     | some fs=>if fs.length ≤ 8 then some ⟨c.toNat,name,fs⟩ else none
     | none=>none
   else none
  | _=>none
def bE : act → Option act
 | []=>none
 | c :: r=>if c.toNat = 64 then some (r.take (r.length - 1)) else none
def gB (ts : List Ty) (name : act) : Option Ty:=ts.find? fun t=>decide (t.name = name)
def aX (ts : List Ty) (k : act) : Option Ty:=(bE k).bind (gB ts)
def fI (t : Ty) : act:=(t.fields.headD default).kind
def bO (ts : List Ty) : Nat → Ty → Bool
 | 0,_=>false
 | n + 1,t=>if t.sort ≠ 85 then true else match aX ts (fI t) with
  | none=>true
  | some u=>bO ts n u
def eb (ts : List Ty) (k : act) : Bool:=match bE (bq k) with
 | none=>true
 | some n=>(gB ts n).isSome
def kF (ts : List Ty) (i : Nat) : Prop:=∀ k,k < i → (ae ts k).name ≠ (ae ts i).name
def g8 (ts : List Ty) (t : Ty) : Prop:=t.sort = 69 ∨ ∀ j,j < t.fields.length → eb ts (ae t.fields j).kind = true
def iq (ts : List Ty) : Prop:=(∀ i,i < ts.length → kF ts i ∧ g8 ts (ae ts i)) ∧ ∀ i,i < ts.length → bO ts (ts.length + 1) (ae ts i) = true
instance (ts : List Ty) (i : Nat) : Decidable (kF ts i):=inferInstanceAs (Decidable (∀ k,k < i → _))
instance (ts : List Ty) (t : Ty) : Decidable (g8 ts t):=inferInstanceAs (Decidable (_ ∨ ∀ j,j < t.fields.length → _))
instance (ts : List Ty) : Decidable (iq ts):=inferInstanceAs (Decidable ((∀ i,i < ts.length → _) ∧ ∀ i,i < ts.length → _))
def bW : List act → Option (List Ty)
 | []=>some []
 | x :: xs=>match c0 x with
  | none=>none
  | some t=>(bW xs).map (t :: ·)
def aT (s : act) : Option (List Ty) :=
 if s.length ≤ 400 ∧ (a7 10 s).length ≤ 9 ∧ (a7 10 s).getLastD [] = [] then
  match bW (a7 10 s).dropLast with
  | some ts=>if iq ts then some ts else none
  | none=>none
 else none
structure FldW (k : Nat) (f : Fld) : Prop where
 tag : 1 ≤ f.tag ∧ f.tag ≤ 200
 name : co f.name = true
 kind : k ≠ 69 → bw f.kind = true
 enm : k = 69 → f.kind = [] ∧ f.stand = []
 stand : f.stand ≠ [] → k = 82 ∧ bG f.kind f.stand = true
theorem d9 {s : act} {top n : Int} (h : aL s top = some n) : n ≤ top ∧ s = br n ∧ s.length ≤ 6:=by
 unfold aL at h
 split at h
 ·split at h
  ·split at h
   ·rename_i h1 _ _ _ h2;simp only [Option.some.injEq] at h;subst h;exact ⟨h2.2,h2.1,h1⟩
   ·cases h
  ·cases h
 ·cases h
theorem lL {k s : act} (h : bG k s = true) : bw k = true:=by
 unfold bG at h
 split at h
 ·subst_vars;decide
 ·split at h
  ·subst_vars;decide
  ·split at h
   ·subst_vars;decide
   ·cases h
theorem yy {s : act} {k : Nat} {f : Fld} (h : bN s k = some f) : FldW k f:=by
 unfold bN at h
 split at h
 ·split at h
  ·rename_i hk
   split at h
   ·rename_i n hn
    split at h
    ·rename_i hg
     simp only [Option.some.injEq] at h;subst h
     exact ⟨⟨hg.1,(d9 hn).1⟩,hg.2,fun h=>absurd hk h,fun _=>⟨F,F⟩,fun h=>absurd F h⟩
    ·cases h
   ·cases h
  ·cases h
 ·split at h
  ·cases h
  ·rename_i hk
   split at h
   ·rename_i n hn
    split at h
    ·rename_i hg
     split at h
     ·split at h
      ·rename_i hd
       simp only [Option.some.injEq] at h;subst h
       exact ⟨⟨hg.1,(d9 hn).1⟩,hg.2,fun _=>hd,fun h=>absurd h hk,fun h=>absurd F h⟩
      ·cases h
     ·split at h
      ·rename_i hd
       simp only [Option.some.injEq] at h;subst h
       exact ⟨⟨hg.1,(d9 hn).1⟩,hg.2,fun _=>lL hd.2,fun h=>absurd h hk,fun _=>hd⟩
      ·cases h
     ·cases h
    ·cases h
   ·cases h
 ·cases h
structure TyW (t : Ty) : Prop where
 sort : d8 t.sort
 name : co t.name = true
 ne : t.sort ≠ 82 → t.fields ≠ []
 len : t.fields.length ≤ 8
 fld : ∀ f ∈ t.fields,FldW t.sort f
 asc : t.fields.Pairwise fun g f=>g.tag < f.tag ∧ g.name ≠ f.name
theorem oH {k : Nat} : ∀ {xs : List act} {fs gs : List Fld},cW k xs fs = some gs → (∀ f ∈ fs,FldW k f) → fs.Pairwise (fun g f=>g.tag < f.tag ∧ g.name ≠ f.name) →
  (∀ f ∈ gs,FldW k f) ∧ gs.Pairwise (fun g f=>g.tag < f.tag ∧ g.name ≠ f.name) ∧ gs.length = fs.length + xs.length
 | [],fs,gs,h,h1,h2=>by
  simp only [cW,Option.some.injEq] at h;subst h;exact ⟨h1,h2,by simp⟩
 | x :: xs,fs,gs,h,h1,h2=>by
  unfold cW at h
  split at h
  ·cases h
  ·rename_i f hf
   split at h
   ·rename_i hfr
    simp only [fresh,List.all_eq_true,decide_eq_true_eq] at hfr
    have:=oH h (fun g hg=>by
     rcases List.mem_append.1 hg with hg | hg
     ·exact h1 g hg
     ·simp only [List.mem_singleton] at hg;subst hg;exact yy hf) (List.pairwise_append.2 ⟨h2,by simp,fun a ha b hb=>by
      simp only [List.mem_singleton] at hb;subst hb;exact hfr a ha⟩)
    refine ⟨this.1,this.2.1,?_⟩
    rw [this.2.2];simp;omega
   ·cases h
theorem ze {s : act} {t : Ty} (h : c0 s = some t) : TyW t:=by
 unfold c0 at h
 split at h
 ·cases h
 ·split at h
  ·split at h
   ·rename_i hn
    split at h
    ·split at h
     ·simp only [Option.some.injEq] at h;subst h
      exact ⟨.inl F,hn.1,fun h=>absurd F h,by simp,by simp,by simp⟩
     ·cases h
    ·split at h
     ·rename_i fs hfs
      split at h
      ·rename_i hl
       simp only [Option.some.injEq] at h;subst h
       have hw:=oH hfs (by simp) (by simp)
       refine ⟨hn.2,hn.1,fun _ h0=>?_,hl,hw.1,hw.2.1⟩
       have:=hw.2.2
       dsimp only at h0
       rw [h0] at this
       have:=dS (k:=44) (s:=‹act›)
       simp at *;omega
      ·cases h
     ·cases h
   ·cases h
  ·cases h
theorem ia : ∀ {xs : List act} {ts : List Ty},bW xs = some ts → (∀ t ∈ ts,TyW t) ∧ ts.length = xs.length
 | [],ts,h=>by simp only [bW,Option.some.injEq] at h;subst h;simp
 | x :: xs,ts,h=>by
  unfold bW at h
  split at h
  ·cases h
  ·rename_i t ht
   cases hr : bW xs with
   | none=>rw [hr] at h;cases h
   | some us =>
    rw [hr] at h
    simp only [Option.map_some,Option.some.injEq] at h;subst h
    have:=ia hr
    exact ⟨fun u hu=>by rcases List.mem_cons.1 hu with rfl | hu;exact ze ht;exact this.1 u hu,by simp [this.2]⟩
structure SchW (ts : List Ty) : Prop where
 ty : ∀ t ∈ ts,TyW t
 len : ts.length ≤ 8
 valid : iq ts
theorem ci {s : act} {ts : List Ty} (h : aT s = some ts) : SchW ts:=by
 unfold aT at h
 split at h
 ·rename_i hc
  split at h
  ·rename_i us hus
   split at h
   ·rename_i hv
    simp only [Option.some.injEq] at h;subst h
    have:=ia hus
    exact ⟨this.1,by rw [this.2,List.length_dropLast];omega,hv⟩
   ·cases h
  ·cases h
 ·cases h
def aJ (ts : List Ty) (k : act) : Bool:=bw k && eb ts k
theorem vr {ts : List Ty} {n : act} {t : Ty} (h : gB ts n = some t) : t ∈ ts:=List.mem_of_find?_eq_some h
theorem b6 {ts : List Ty} {k : act} {t : Ty} (h : aX ts k = some t) : t ∈ ts:=by
 unfold aX at h
 cases hr : bE k with
 | none=>rw [hr] at h;cases h
 | some n=>rw [hr] at h;exact vr h
theorem ld (ts : List Ty) : ∀ (k : Nat) (t : Ty),bO ts k t = true → bO ts (k + 1) t = true
 | 0,t,h=>by cases h
 | k + 1,t,h=>by
  unfold bO at h ⊢
  split
  ·rfl
  ·rename_i hs
   rw [if_neg hs] at h
   cases hr : aX ts (fI t) with
   | none=>rfl
   | some u=>rw [hr] at h;exact ld ts k u h
def ep (ts : List Ty) (k : Nat) : Prop:=∀ t ∈ ts,bO ts (k + 1) t = bO ts k t
theorem mP {ts : List Ty} {k : Nat} (h : ep ts k) : ep ts (k + 1):=by
 intro t ht
 rw [bO,bO]
 split
 ·rfl
 ·cases hr : aX ts (fI t) with
  | none=>rfl
  | some u=>exact h u (b6 hr)
theorem nX {ts : List Ty} {k : Nat} (h : ep ts k) : ∀ (m : Nat) (t : Ty),t ∈ ts → bO ts (k + m) t = bO ts k t:=by
 have hs : ∀ m,ep ts (k + m):=fun m=>by
  induction m with
  | zero=>exact h
  | succ m ih=>exact mP ih
 intro m t ht
 induction m with
 | zero=>rfl
 | succ m ih=>rw [← ih];exact hs m t ht
theorem rI {α : Type} {p q : α → Bool} : ∀ {l : List α},(∀ x ∈ l,p x = true → q x = true) → (∃ x ∈ l,q x = true ∧ p x = false) → l.countP p < l.countP q
 | [],_,h=>by obtain ⟨x,hx,_⟩:=h;cases hx
 | a :: l,h1,h2=>by
  have hle : ∀ l : List α,(∀ x ∈ l,p x = true → q x = true) → l.countP p ≤ l.countP q:=fun l h=>List.countP_mono_left h
  rw [List.countP_cons,List.countP_cons]
  have h3:=hle l fun x hx=>h1 x (List.mem_cons_of_mem _ hx)
  obtain ⟨x,hx,h4,h5⟩:=h2
  rcases List.mem_cons.1 hx with rfl | hx
  ·simp [h4,h5];omega
  ·have h6:=rI (fun x hx=>h1 x (List.mem_cons_of_mem _ hx)) ⟨x,hx,h4,h5⟩
   by_cases hp : p a = true
   ·simp [hp,h1 a (List.mem_cons_self ..) hp];exact h6
   ·simp [hp];split <;> omega
theorem mL {ts : List Ty} {k : Nat} (h : ¬ ep ts k) : ts.countP (bO ts k) < ts.countP (bO ts (k + 1)):=by
 refine rI (fun x _=>ld ts k x) ?_
 unfold ep at h
 simp only [Classical.not_forall] at h
 obtain ⟨t,ht,hne⟩:=h
 refine ⟨t,ht,?_⟩
 cases h1 : bO ts k t with
 | false =>
  refine ⟨?_,F⟩
  cases h2 : bO ts (k + 1) t with
  | false=>rw [h1,h2] at hne;exact absurd F hne
  | true=>rfl
 | true=>rw [ld ts k t h1,h1] at hne;exact absurd F hne
theorem uS (ts : List Ty) (k : Nat) : ep ts k ∨ k + 1 ≤ ts.countP (bO ts (k + 1)):=by
 induction k with
 | zero =>
  by_cases h : ep ts 0
  ·exact .inl h
  ·have:=mL h;exact .inr oM
 | succ k ih =>
  by_cases h : ep ts (k + 1)
  ·exact .inl h
  ·have:=mL h
   rcases ih with h3 | h3
   ·exact absurd (mP h3) h
   ·exact .inr oM
theorem yA {ts : List Ty} {t : Ty} (hl : ts.length ≤ 8) (ht : t ∈ ts) : bO ts 9 t = bO ts (ts.length + 1) t:=by
 have hs : ep ts ts.length:=by
  rcases uS ts ts.length with h | h
  ·exact h
  ·have:=List.countP_le_length (p:=bO ts (ts.length + 1)) (l:=ts)
   omega
 have h1:=nX hs (9 - ts.length) t ht
 have h2:=nX hs 1 t ht
 rw [show ts.length + (9 - ts.length) = 9 by omega] at h1
 rw [h1,h2]
def fe (k : Nat) (s : act) : Int:=if (aC k s).2.2 = true then ((aC k s).1.length : Int) else -1
theorem gm {k : Nat} : ∀ {s a b : act},aC k s = (a,b,true) → ∃ c : UInt8,c.toNat = k ∧ s = a ++ c :: b
 | [],a,b,h=>by simp [aC] at h
 | c :: r,a,b,h=>by
  unfold aC at h
  split at h
  ·rename_i hc
   simp only [Prod.mk.injEq,and_true] at h
   obtain ⟨rfl,rfl⟩:=h
   exact ⟨c,hc,F⟩
  ·simp only [Prod.mk.injEq] at h
   obtain ⟨rfl,h2,h3⟩:=h
   obtain ⟨d,hd,hr⟩:=gm (k:=k) (s:=r) (a:=(aC k r).1) (b:=b) (by rw [← h2,← h3])
   exact ⟨d,hd,by rw [List.cons_append,← hr]⟩
theorem eK {k : Nat} : ∀ {s : act},(aC k s).2.2 = false → aC k s = (s,[],false)
 | [],h=>rfl
 | c :: r,h=>by
  unfold aC at h ⊢
  split at h
  ·cases h
  ·rename_i hc
   rw [if_neg hc,eK (s:=r) h]
theorem jf {k : Nat} {s : act} : (aC k s).1.length ≤ s.length ∧ (aC k s).2.1.length ≤ s.length:=by
 cases h : (aC k s).2.2 with
 | false=>rw [eK h];simp
 | true =>
  obtain ⟨c,_,e⟩:=gm (k:=k) (s:=s) (a:=(aC k s).1) (b:=(aC k s).2.1) (by rw [← h])
  have:=congrArg List.length e
  simp at this
  omega
theorem pg (s : act) (c : UInt8) : Lib.indexByte s c = fe c.toNat s:=by
 induction s with
 | nil=>rfl
 | cons b r ih =>
  unfold Lib.indexByte
  by_cases hb : b = c
  ·subst hb;simp [fe,aC]
  ·have hb2 : ¬ b.toNat = c.toNat:=fun h=>hb (UInt8.toNat_inj.1 h)
   have hb3 : (b == c) = false:=by simpa using hb
   rw [hb3,ih]
   unfold fe
   rw [aC,if_neg hb2]
   dsimp only
   cases (aC c.toNat r).2.2 <;> simp
theorem se {s : act} {c : UInt8} : av acs 210 [S s,U8 c.toNat] G (· = I (fe c.toNat s)):=by
 have hx : ∀ w,(callFunc 218 [S s,U8 c.toNat].toArray).run acs w = .ok (.value (I (fe c.toNat s))) w:=fun w=>by
  rw [run_callFunc_extern Tryz.func218 kR kR kR (e:=Extern.BytealgIndexByte.indexByte) kR]
  have:=Lib.run_indexByteString (P:=acs) ⟨s.toArray⟩ (c.toNat : Int) w
  rw [this]
  simp only [Result.andThen]
  rw [pg]
  simp
 refine jE [(0,_),(1,_)] Tryz.func210 Tryz.ntmps210 fun B hB=>?_
 repeat' (refine jR ?_)
 refine t9 F (kf (nx F F F hx) F F ?_)
 repeat' (refine jR ?_)
 refine jY (vs:=[_]) ?_
 rfl
theorem u7 (c : UInt8) : fe c.toNat [c] = 0:=by simp [fe,aC]
theorem sd {s : act} {c : UInt8} : av acs 196 [S s,S [c]] G (· = I (fe c.toNat s)):=by
 have e0 : ((bt [c] (Int.toNat 0) : Nat) : Int) = c.toNat:=by rw [show Int.toNat 0 = 0 from rfl,bh]
 by_cases hs : [c] = s
 ·subst hs
  rw [u7]
  refine jE [(0,_),(1,_)] Tryz.func196 Tryz.ntmps196 fun B hB=>?_
  repeat' (first | refine jR ?_ | (refine jo ?_;refine aq F ?_) | refine al F F F ?_ | refine ac F (ar F) ?_)
  all_goals refine jY (vs:=[_]) ?_
  all_goals rfl
 ·have cx_ib : av acs 210 [S s,U8 (bt [c] (Int.toNat 0))] G (· = I (fe c.toNat s)):=by rw [show (bt [c] (Int.toNat 0)) = c.toNat from bh c []];exact se
  refine jE [(0,_),(1,_)] Tryz.func196 Tryz.ntmps196 fun B hB=>?_
  repeat' (first | refine jX ?_ | (refine jo ?_;first | refine aq F ?_ | refine ab F F F cx_ib F ?_) | refine al F F F ?_ | refine ac F F ?_ | refine ad F (ay ‹_›) ?_)
  all_goals refine jY (vs:=[_]) ?_
  all_goals rfl
theorem tI {s : act} {c : UInt8} : av acs 183 [S s,S [c]] G (· = I (fe c.toNat s)):=by
 refine jE [(0,_),(1,_)] Tryz.func183 Tryz.ntmps183 fun B hB=>?_
 repeat' (first | refine jR ?_ | (refine jo ?_;refine ab F F F sd F ?_))
 refine jY (vs:=[_]) ?_
 rfl
theorem oA (k : Nat) (s : act) : (fe k s = -1 ∧ aC k s = (s,[],false)) ∨ ∃ i : Nat,fe k s = i ∧ i < s.length ∧ aC k s = (s.take i,s.drop (i + 1),true):=by
 cases h : (aC k s).2.2 with
 | false=>exact .inl ⟨by simp [fe,h],eK h⟩
 | true =>
  obtain ⟨c,_,e⟩:=gm (k:=k) (s:=s) (a:=(aC k s).1) (b:=(aC k s).2.1) (by rw [← h])
  have h5 : aC k s = ((aC k s).1,(aC k s).2.1,true):=by rw [← h]
  have h6 : fe k s = ((aC k s).1.length : Int):=by simp [fe,h]
  generalize (aC k s).1 = a at *
  generalize (aC k s).2.1 = b at *
  refine .inr ⟨a.length,h6,?_,?_⟩
  ·have:=congrArg List.length e
   simp at this
   omega
  ·rw [h5,e];simp
theorem aaT {s : act} {c : UInt8} (h : s.length ≤ 9000000000000000000) : av acs 163 [S s,S [c]] G (· = Tu [S (aC c.toNat s).1,S (aC c.toNat s).2.1,Bo (aC c.toNat s).2.2]):=by
 have hix:=sd (G:=G) (s:=s) (c:=c)
 rcases oA c.toNat s with ⟨h1,h2⟩ | ⟨i,h1,h3,h2⟩
 ·rw [h2]
  have cx_ix : av acs 196 [S s,S [c]] G (· = I (-1)):=by rwa [h1] at hix
  refine jE [(0,_),(1,_)] Tryz.func163 Tryz.ntmps163 fun B hB=>?_
  repeat' (first | refine jR ?_ | (refine jo ?_;refine ab F F F cx_ix F ?_) | refine ad F F ?_)
  all_goals refine jY (vs:=[_,_,_]) ?_
  all_goals rfl
 ·rw [h2]
  have cx_ix : av acs 196 [S s,S [c]] G (· = I (i : Int)):=by rwa [h1] at hix
  have e2 : ((i : Int) + (([c] : act).length : Nat)).toNat = i + 1:=by simp only [List.length_cons,List.length_nil];omega
  refine jE [(0,_),(1,_)] Tryz.func163 Tryz.ntmps163 fun B hB=>?_
  repeat' (first | refine jR ?_ | (refine jo ?_;refine ab F F F cx_ix F ?_) | refine ac F F ?_ | (refine aj (an (id:=3) _ (fun _ h=>h) ai ?_);refine jW 0 [0,1,2,3,4,5,6,7,8,9,10,11] (aa 12 4095) ?_;refine jQ ?_))
  all_goals refine jY (vs:=[_,_,_]) ?_
  all_goals (rfl)
theorem oX {s : act} {c : UInt8} (h : s.length ≤ 9000000000000000000) : av acs 126 [S s,S [c]] G (· = Tu [S (aC c.toNat s).1,S (aC c.toNat s).2.1,Bo (aC c.toNat s).2.2]):=by
 refine jE [(0,_),(1,_)] Tryz.func126 Tryz.ntmps126 fun B hB=>?_
 repeat' (first | refine jR ?_ | (refine jo ?_;refine ab F F F (aaT oM) F ?_))
 all_goals refine jY (vs:=[_,_,_]) ?_
 all_goals rfl
theorem uD {s : act} {c : UInt8} : av acs 164 [S s,S [c]] G (· = Bo (decide (0 ≤ fe c.toNat s))):=by
 refine jE [(0,_),(1,_)] Tryz.func164 Tryz.ntmps164 fun B hB=>?_
 repeat' (first | refine jR ?_ | (refine jo ?_;refine ab F F F tI F ?_))
 all_goals refine jY (vs:=[_]) ?_
 all_goals rfl
def fh (k : Nat) (s : act) : Prop:=∀ c ∈ s,c.toNat ≠ k
def aP (c : UInt8) : List act → act
 | []=>[]
 | [x]=>x
 | x :: y :: r=>x ++ c :: aP c (y :: r)
theorem k4 (c : UInt8) (x : act) {xs : List act} (h : xs ≠ []) : aP c (x :: xs) = x ++ c :: aP c xs:=by
 cases xs with
 | nil=>exact absurd F h
 | cons y r=>rfl
theorem j5 {c : UInt8} : ∀ {s acc : act},fh c.toNat acc → aP c (dG c.toNat acc s) = acc ++ s ∧ ∀ x ∈ dG c.toNat acc s,fh c.toNat x
 | [],acc,h=>by simp [dG,aP];exact h
 | d :: r,acc,h=>by
  unfold dG
  split
  ·rename_i hd
   have hd : d = c:=UInt8.toNat_inj.1 hd
   subst hd
   have ih:=j5 (c:=d) (s:=r) (acc:=[]) (by intro x hx;cases hx)
   have hp : dG d.toNat [] r ≠ []:=fun e=>by have:=nI (k:=d.toNat) (s:=r) (acc:=[]);rw [e] at this;simp at this
   refine ⟨by rw [k4 d acc hp,ih.1];rfl,fun x hx=>?_⟩
   rcases List.mem_cons.1 hx with rfl | hx
   ·exact h
   ·exact ih.2 x hx
  ·rename_i hd
   have ih:=j5 (c:=c) (s:=r) (acc:=acc ++ [d]) (by
    intro x hx
    rcases List.mem_append.1 hx with hx | hx
    ·exact h x hx
    ·simp only [List.mem_singleton] at hx;subst hx;exact hd)
   exact ⟨by rw [ih.1];simp,ih.2⟩
theorem nF (c : UInt8) (s : act) : aP c (a7 c.toNat s) = s:=by have:=(j5 (c:=c) (s:=s) (acc:=[]) (by intro x hx;cases hx)).1;simpa [a7] using this
theorem yD {c : UInt8} {s x : act} (h : x ∈ a7 c.toNat s) : fh c.toNat x:=(j5 (c:=c) (s:=s) (acc:=[]) (by intro x hx;cases hx)).2 x h
theorem nH {k : Nat} : ∀ {s acc t : act},fh k s → dG k acc (s ++ t) = dG k (acc ++ s) t
 | [],acc,t,_=>by simp
 | d :: r,acc,t,h=>by
  rw [List.cons_append,dG,if_neg (h d (by simp)),nH (fun c hc=>h c (by simp [hc]))];simp
theorem oL {k : Nat} {s : act} (h : fh k s) : a7 k s = [s]:=by
 have:=nH (k:=k) (s:=s) (acc:=[]) (t:=[]) h
 simpa [a7,dG] using this
theorem pu {k : Nat} {s t : act} {c : UInt8} (h : fh k s) (hc : c.toNat = k) : a7 k (s ++ c :: t) = s :: a7 k t:=by
 unfold a7
 rw [nH h,dG,if_pos hc];rfl
theorem nw {c : UInt8} : ∀ {xs : List act},xs ≠ [] → (∀ x ∈ xs,fh c.toNat x) → a7 c.toNat (aP c xs) = xs
 | [],h,_=>absurd rfl h
 | [x],_,h=>oL (h x (by simp))
 | x :: y :: r,_,h=>by
  rw [aP,pu (h x (by simp)) rfl,nw (by simp) fun z hz=>h z (by simp at hz ⊢;exact .inr hz)]
theorem wN {k : Nat} {s t : act} {c : UInt8} (h : fh k s) (hc : c.toNat = k) : aC k (s ++ c :: t) = (s,t,true):=by
 induction s with
 | nil=>rw [List.nil_append,aC,if_pos hc]
 | cons d r ih=>rw [List.cons_append,aC,if_neg (h d (by simp)),ih fun x hx=>h x (by simp [hx])]
theorem rH {k : Nat} {s : act} (h : fh k s) : aC k s = (s,[],false):=by
 induction s with
 | nil=>rfl
 | cons d r ih=>rw [aC,if_neg (h d (by simp)),ih fun x hx=>h x (by simp [hx])]
theorem nJ {k : Nat} : ∀ {s : act},fh k (aC k s).1
 | []=>by intro c hc;cases hc
 | d :: r=>by
  unfold aC
  split
  ·intro c hc;cases hc
  ·rename_i hd
   intro c hc
   rcases List.mem_cons.1 hc with rfl | hc
   ·exact hd
   ·exact nJ c hc
theorem lg {k : Nat} (s : act) : a7 k s = if (aC k s).2.2 = true then (aC k s).1 :: a7 k (aC k s).2.1 else [s]:=by
 cases h : (aC k s).2.2 with
 | false =>
  rw [if_neg (by simp)]
  have h1:=eK h
  refine oL ?_
  have:=nJ (k:=k) (s:=s)
  rwa [h1] at this
 | true =>
  rw [if_pos rfl]
  obtain ⟨c,hc,e⟩:=gm (k:=k) (s:=s) (a:=(aC k s).1) (b:=(aC k s).2.1) (by rw [← h])
  conv=>{ lhs;rw [e] }
  exact pu nJ hc
theorem k5 {s : act} {k : Nat} (h : co s = true) (hk : k < 97) : fh k s:=by
 intro c hc
 simp only [co,Bool.and_eq_true,List.all_eq_true] at h
 have:=h.1 c hc
 simp only [jy,decide_eq_true_eq] at this
 omega
theorem rD {n m : Int} : ∀ {s : act},cZ n s = some m → ∀ c ∈ s,48 ≤ c.toNat ∧ c.toNat ≤ 57
 | [],_,c,hc=>by cases hc
 | d :: r,h,c,hc=>by
  unfold cZ at h
  split at h
  ·rename_i hd
   rcases List.mem_cons.1 hc with rfl | hc
   ·exact hd
   ·exact rD h c hc
  ·cases h
theorem pP {s : act} {top n : Int} (h : aL s top = some n) : ∀ c ∈ s,48 ≤ c.toNat ∧ c.toNat ≤ 57:=by
 unfold aL at h
 split at h
 ·split at h
  ·rename_i hd;exact rD hd
  ·cases h
 ·cases h
theorem lW {s : act} {top n : Int} {k : Nat} (h : aL s top = some n) (hk : 57 < k) : fh k s:=fun c hc=>by
 have:=pP h c hc;omega
theorem u6 {s : act} (h : db s = true) {c : UInt8} (hc : c ∈ s) : c.toNat = 39 ∨ iC c.toNat:=by
 unfold db at h
 simp only [decide_eq_true_eq] at h
 obtain ⟨h1,h2,h3,h4⟩:=h
 obtain ⟨i,hi,rfl⟩:=List.mem_iff_getElem.1 hc
 have e : bt s i = (s[i]).toNat:=by simp [bt,List.getD,List.getElem?_eq_getElem hi]
 rw [← e]
 rcases Nat.lt_or_ge i (s.length - 1) with h5 | h5
 ·rcases h4 i h5 with h6 | h6
  ·subst h6;exact .inl h2
  ·exact .inr h6
 ·have : i = s.length - 1:=oM
  subst this;exact .inl h3
theorem mO {d v : act} {k : Nat} (h : bG d v = true) (hk : k = 58 ∨ k = 61) : fh k v:=by
 intro c hc
 unfold bG at h
 split at h
 ·simp only [Bool.and_eq_true] at h
  obtain ⟨n,hn⟩:=Option.isSome_iff_exists.1 h.1
  have:=pP hn c hc;omega
 ·split at h
  ·simp only [Bool.and_eq_true] at h
   have:=u6 h.1 hc
   unfold iC at this;omega
  ·split at h
   ·simp only [decide_eq_true_eq] at h
    subst h
    simp only [List.mem_cons,List.not_mem_nil,or_false] at hc
    rcases hc with rfl | rfl | rfl <;> (rcases hk with rfl | rfl <;> decide)
   ·cases h
theorem li : ∀ s : act,(bq s).length ≤ s.length
 | []=>Nat.le_refl _
 | c :: r=>by
  unfold bq
  split
  ·have:=li r;simp;omega
  ·exact Nat.le_refl _
def sg (s : act) : act:=s.take (s.length - (bq s).length)
def oY : act → act
 | []=>[]
 | c :: r=>if c.toNat = 64 then [64] else c :: r
def bs (s : act) : act:=oY (bq s)
def nm (s : act) : act:=(bE (bq s)).getD []
theorem s0 {k : Nat} (hk : k = 58 ∨ k = 61) : ∀ {s : act},dX s = true → fh k s
 | [],h=>by cases h
 | c :: r,h=>by
  unfold dX at h
  split at h
  ·rename_i hc
   intro d hd
   rcases List.mem_cons.1 hd with rfl | hd
   ·omega
   ·exact s0 hk h d hd
  ·split at h
   ·rename_i hc
    simp only [Bool.and_eq_true,decide_eq_true_eq] at h
    intro d hd
    rcases List.mem_cons.1 hd with rfl | hd
    ·omega
    ·obtain ⟨i,hi,rfl⟩:=List.mem_iff_getElem.1 hd
     rcases Nat.lt_or_ge i (r.length - 1) with h5 | h5
     ·refine k5 h.2 oM _ ?_
      exact List.mem_iff_getElem.2 ⟨i,by simp;omega,by simp⟩
     ·have h1 : bt (c :: r) r.length = 59:=oM
      have e : i = r.length - 1:=oM
      obtain ⟨m,hm⟩ : ∃ m,r.length = m + 1:=⟨r.length - 1,oM⟩
      rw [hm,dT] at h1
      have : bt r m = (r[m]'oM).toNat:=by simp [bt,List.getD,List.getElem?_eq_getElem (show m < r.length by omega)]
      have e2 : i = m:=oM
      subst e2
      omega
   ·simp only [Bool.and_eq_true,Bool.or_eq_true,decide_eq_true_eq] at h
    intro d hd
    obtain ⟨rfl,h⟩:=h
    simp only [List.mem_singleton] at hd
    subst hd;omega
theorem gy {k : Nat} (hk : k = 58 ∨ k = 61) {s : act} (h : bw s = true) : fh k s:=by
 unfold bw at h;simp only [Bool.and_eq_true] at h;exact s0 hk h.2
def l8 (s : act) (k : Nat) : Option Fld :=
 match a7 58 (aC 61 s).1 with
 | [a,b]=>if k = 69 ∧ (aC 61 s).2.2 = false then
   match aL a 200 with
   | some n=>if 1 ≤ n ∧ co b = true then some ⟨n,b,[],[]⟩ else none
   | none=>none
  else none
 | [a,b,c]=>if k = 69 then none else
   match aL a 200 with
   | some n=>if (1 ≤ n ∧ co b = true) ∧ bw c = true ∧ ((aC 61 s).2.2 = true → k = 82 ∧ bG c (aC 61 s).2.1 = true) then some ⟨n,b,c,(aC 61 s).2.1⟩ else none
   | none=>none
 | _=>none
theorem fH {k : Nat} {a b : act} : fh k (a ++ b) ↔ fh k a ∧ fh k b:=by
 constructor
 ·intro h;exact ⟨fun c hc=>h c (by simp [hc]),fun c hc=>h c (by simp [hc])⟩
 ·intro h c hc
  rcases List.mem_append.1 hc with hc | hc
  ·exact h.1 c hc
  ·exact h.2 c hc
theorem gQ {k : Nat} {c : UInt8} {b : act} : fh k (c :: b) ↔ c.toNat ≠ k ∧ fh k b:=by
 constructor
 ·intro h;exact ⟨h c (by simp),fun d hd=>h d (by simp [hd])⟩
 ·intro h d hd
  rcases List.mem_cons.1 hd with rfl | hd
  ·exact h.1
  ·exact h.2 d hd
theorem ut {s : act} {xs : List act} (h : a7 58 s = xs) : s = aP 58 xs ∧ ∀ x ∈ xs,fh 58 x:=by
 subst h
 exact ⟨(nF 58 s).symm,fun x hx=>yD (c:=58) hx⟩
theorem pl (s : act) (k : Nat) : l8 s k = bN s k:=by
 apply Option.ext
 intro f
 constructor
 ·intro h
  unfold l8 at h
  split at h
  ·rename_i a b e
   split at h
   ·rename_i hk
    have hs:=eK hk.2
    rw [hs] at e
    unfold bN
    rw [e]
    simp only [hk.1,if_true]
    exact h
   ·cases h
  ·rename_i a b c e
   split at h
   ·cases h
   ·rename_i hk
    split at h
    ·rename_i n hn
     split at h
     ·rename_i hg
      simp only [Option.some.injEq] at h;subst h
      cases ht : (aC 61 s).2.2 with
      | false =>
       have hs:=eK ht
       rw [hs] at e ⊢
       have hc61 : a7 61 c = [c]:=oL (gy (.inr rfl) hg.2.1)
       unfold bN
       rw [e]
       simp [hk,hn,hg.1.1,hg.1.2,hc61,hg.2.1]
      | true =>
       have hst:=hg.2.2 ht
       obtain ⟨d,hd,es⟩:=gm (k:=61) (s:=s) (a:=(aC 61 s).1) (b:=(aC 61 s).2.1) (by rw [← ht])
       generalize (aC 61 s).1 = hd1 at *
       generalize (aC 61 s).2.1 = v at *
       have hd : d = 61:=UInt8.toNat_inj.1 hd
       subst hd
       obtain ⟨e1,e2⟩:=ut e
       have e3 : s = aP 58 [a,b,c ++ 61 :: v]:=by rw [es,e1];simp [aP]
       have e4 : a7 58 s = [a,b,c ++ 61 :: v]:=by
        rw [e3]
        refine nw (c:=58) (by simp) fun x hx=>?_
        simp only [List.mem_cons,List.not_mem_nil,or_false] at hx
        rcases hx with rfl | rfl | rfl
        ·exact e2 _ (by simp)
        ·exact e2 _ (by simp)
        ·exact fH.2 ⟨e2 _ (by simp),gQ.2 ⟨by decide,mO hst.2 (.inl F)⟩⟩
       have e5 : a7 61 (c ++ 61 :: v) = [c,v]:=by
        rw [pu (k:=61) (gy (.inr rfl) hg.2.1) rfl,oL (mO hst.2 (.inr rfl))]
       unfold bN
       rw [e4]
       simp [hk,hn,hg.1.1,hg.1.2,e5,hst.1,hst.2]
     ·cases h
    ·cases h
  ·cases h
 ·intro h
  unfold bN at h
  split at h
  ·rename_i a b e
   split at h
   ·rename_i hk
    split at h
    ·rename_i n hn
     split at h
     ·rename_i hg
      obtain ⟨e1,e2⟩:=ut e
      have hno : fh 61 s:=by rw [e1];simp only [aP];exact fH.2 ⟨lW hn oM,gQ.2 ⟨by decide,k5 hg.2 oM⟩⟩
      unfold l8
      rw [rH hno,e]
      simp only [hk,hn,hg,and_self,if_true]
      exact h
     ·cases h
    ·cases h
   ·cases h
  ·rename_i a b c e
   split at h
   ·cases h
   ·rename_i hk
    split at h
    ·rename_i n hn
     split at h
     ·rename_i hg
      obtain ⟨e1,e2⟩:=ut e
      split at h
      ·rename_i d e3
       split at h
       ·rename_i hd
        simp only [Option.some.injEq] at h;subst h
        have e4 : c = d:=by have:=nF 61 c;rw [show (61 : UInt8).toNat = 61 from rfl,e3] at this;exact this.symm
        subst e4
        have hno : fh 61 s:=by rw [e1];simp only [aP];exact fH.2 ⟨lW hn oM,gQ.2 ⟨by decide,fH.2 ⟨k5 hg.2 oM,gQ.2 ⟨by decide,gy (.inr F) hd⟩⟩⟩⟩
        unfold l8
        rw [rH hno,e]
        simp [hk,hn,hg.1,hg.2,hd]
       ·cases h
      ·rename_i d v e3
       split at h
       ·rename_i hd
        simp only [Option.some.injEq] at h;subst h
        have e4 : c = d ++ 61 :: v:=by have:=nF 61 c;rw [show (61 : UInt8).toNat = 61 from rfl,e3] at this;exact this.symm
        subst e4
        have hkd:=lL hd.2
        have es : s = aP 58 [a,b,d] ++ 61 :: v:=by rw [e1];simp [aP]
        have hno : fh 61 (aP 58 [a,b,d]):=by simp only [aP];exact fH.2 ⟨lW hn oM,gQ.2 ⟨by decide,fH.2 ⟨k5 hg.2 oM,gQ.2 ⟨by decide,gy (.inr F) hkd⟩⟩⟩⟩
        have e5 : a7 58 (aP 58 [a,b,d]) = [a,b,d]:=by
         refine nw (c:=58) (by simp) fun x hx=>?_
         simp only [List.mem_cons,List.not_mem_nil,or_false] at hx
         rcases hx with rfl | rfl | rfl
         ·exact e2 _ (by simp)
         ·exact e2 _ (by simp)
         ·exact gy (.inl F) hkd
        unfold l8
        rw [es,wN (k:=61) hno rfl,e5]
        simp [hn,hg.1,hg.2,hkd,hd.1,hd.2]
       ·cases h
      ·cases h
     ·cases h
    ·cases h
  ·cases h
def tag0 (t : Ty) : Int:=(t.fields.headD default).tag
def cH (ts : List Ty) : Nat → act → act
 | 0,_=>[]
 | _ + 1,[]=>[]
 | n + 1,c :: r=>if c.toNat = 91 then [91,93] else if c.toNat = 63 then [45] else
   match aX ts (c :: r) with
   | none=>fC (c :: r)
   | some t=>if t.sort = 82 then [123,125] else if t.sort = 69 then 35 :: br (tag0 t) else 60 :: (br (tag0 t) ++ 61 :: (cH ts n (fI t) ++ [62]))
def qP (ts : List Ty) (k : act) : act:=cH ts (ts.length + 2) k
def cT (ts : List Ty) (f : Fld) : act:=if f.stand = [] then qP ts f.kind else f.stand
def bK (fs : List Fld) (tag : Int) : Option Fld:=fs.find? fun f=>decide (f.tag = tag)
structure AskW (ts us : List Ty) (m : List Pr) : Prop where
 nd : m.Nodup
 mem : ∀ p ∈ m,(∃ t ∈ ts,t.name = p.1) ∧ ∃ u ∈ us,u.name = p.2
theorem AskW.nil {ts us : List Ty} : AskW ts us []:=⟨List.nodup_nil,by simp⟩
theorem rg {α : Type} [DecidableEq α] : ∀ {l l' : List α},l.Nodup → (∀ x ∈ l,x ∈ l') → l.length ≤ l'.length
 | [],_,_,_=>Nat.zero_le _
 | a :: l,l',hn,hs=>by
  rw [List.nodup_cons] at hn
  have ha:=hs a (.head _)
  have:=rg (l:=l) (l':=l'.erase a) hn.2 fun x hx=>by
   have hx':=hs x (.tail _ hx)
   exact (List.mem_erase_of_ne (fun e=>hn.1 (by rw [← e];exact hx))).2 hx'
  rw [List.length_erase_of_mem ha] at this
  have hp : 0 < l'.length:=List.length_pos_of_mem ha
  simp only [List.length_cons];omega
theorem AskW.len {ts us : List Ty} {m : List Pr} (h : AskW ts us m) : m.length ≤ ts.length * us.length:=by
 have h1 : m.length ≤ (ts.flatMap fun t=>us.map fun u=>(t.name,u.name)).length:=rg h.nd fun p hp=>by
  obtain ⟨⟨t,ht,e1⟩,u,hu,e2⟩:=h.mem p hp
  exact List.mem_flatMap.2 ⟨t,ht,List.mem_map.2 ⟨u,hu,by rw [e1,e2]⟩⟩
 have h2 : ∀ ts : List Ty,(ts.flatMap fun t=>us.map fun u=>(t.name,u.name)).length = ts.length * us.length:=fun ts=>by
  induction ts with
  | nil=>simp
  | cons t ts ih=>rw [List.flatMap_cons,List.length_append,ih,List.length_map,List.length_cons,Nat.succ_mul,Nat.add_comm]
 rw [h2] at h1;exact h1
theorem l3 {ts : List Ty} {k : act} (h : aJ ts k = true) (hr : (bE (bq k)).isSome = true) : ∃ t,aX ts (bq k) = some t:=by
 unfold aJ eb at h
 unfold aX
 cases hc : bE (bq k) with
 | none=>rw [hc] at hr;cases hr
 | some n =>
  rw [hc] at h
  simp only [Bool.and_eq_true] at h
  obtain ⟨_,h⟩:=h
  exact Option.isSome_iff_exists.1 h
inductive V where
 | nd (what : Nat) (text : act) (tag : Int) (kids : List V)
instance : Inhabited V:=⟨.nd 0 [] 0 []⟩
def V.what : V → Nat | .nd w _ _ _=>w
def V.text : V → act | .nd _ x _ _=>x
def V.tag : V → Int | .nd _ _ t _=>t
def dl (w : Nat) (x : act) (t : Int) (e : Bool) (j : act) : act :=
 if w = 116 then 39 :: (x ++ [39]) else if w = 91 then 91 :: (j ++ [93]) else if w = 63 then (if e = true then [45] else 43 :: j)
 else if w = 61 then br t ++ 61 :: j else if w = 82 then 123 :: (j ++ [125]) else if w = 85 then 60 :: (br t ++ 61 :: (j ++ [62])) else if w = 69 then 35 :: br t else x
mutual
def V.out : V → act
 | .nd w x t ks=>dl w x t ks.isEmpty (aP 44 (V.outs ks))
def V.outs : List V → List act
 | []=>[]
 | v :: r=>V.out v :: V.outs r
end
mutual
def V.deep : V → Nat
 | .nd w _ _ ks=>if w = 61 then V.deeps ks else V.deeps ks + 1
def V.deeps : List V → Nat
 | []=>0
 | v :: r=>max (V.deep v) (V.deeps r)
end
def aba (w : Nat) (e : Bool) : Bool:=(decide (w = 110) || decide (w = 116) || decide (w = 102) || decide (w = 69)) || (decide (w = 63) && e)
mutual
def V.size : V → Nat
 | .nd w _ _ ks=>if aba w ks.isEmpty = true then 1 else V.sizes ks
def V.sizes : List V → Nat
 | []=>0
 | v :: r=>V.size v + V.sizes r
end
theorem V.outs_map : ∀ ks : List V,V.outs ks = ks.map V.out
 | []=>rfl
 | v :: r=>by rw [V.outs,V.outs_map r];rfl
def aZ (c : UInt8) : Bool:=decide (48 ≤ c.toNat ∧ c.toNat ≤ 57)
def cb (top : Int) (s : act) : Option (Int × act):=(aL (s.takeWhile aZ) top).map fun n=>(n,s.dropWhile aZ)
def bc (f : act → Option (V × act)) : Nat → act → List V → Option (List V × act)
 | 0,_,_=>none
 | m + 1,s,acc=>match f s with
  | none=>none
  | some (v,r)=>match r with
   | []=>none
   | c :: r'=>if c.toNat = 44 then bc f m r' (acc ++ [v]) else if c.toNat = 93 then some (acc ++ [v],r') else none
def aN (f : act → act → Option (V × act)) (t : Ty) (s : act) : Option ((Fld × V) × act) :=
 match cb 200 s with
 | none=>none
 | some (n,r)=>match bK t.fields n with
  | none=>none
  | some d=>match r with
   | []=>none
   | c :: r'=>if c.toNat = 61 then (f d.kind r').map fun x=>((d,x.1),x.2) else none
def bC (ts : List Ty) (f : act → act → Option (V × act)) (t : Ty) : Nat → Int → act → List V → Option (List V × act)
 | 0,_,_,_=>none
 | m + 1,last,s,acc=>match aN f t s with
  | none=>none
  | some ((d,v),r)=>if d.tag ≤ last ∨ v.out = cT ts d then none else match r with
   | []=>none
   | c :: r'=>if c.toNat = 44 then bC ts f t m d.tag r' (acc ++ [.nd 61 [] d.tag [v]]) else if c.toNat = 125 then some (acc ++ [.nd 61 [] d.tag [v]],r') else none
def a6 (ts : List Ty) (f : act → act → Option (V × act)) (t : Ty) : act → Option (V × act)
 | []=>none
 | c :: s=>if t.sort = 82 then
   (if c.toNat = 123 then (match s with
    | []=>none
    | c' :: r=>if c'.toNat = 125 then some (.nd 82 [] 0 [],r) else (bC ts f t (s.length + 1) 0 s []).map fun x=>(.nd 82 [] 0 x.1,x.2)) else none)
  else if t.sort = 69 then
   (if c.toNat = 35 then (match cb 200 s with
    | none=>none
    | some (n,r)=>if (bK t.fields n).isSome = true then some (.nd 69 [] n [],r) else none) else none)
  else if c.toNat = 60 then (match aN f t s with
    | none=>none
    | some ((d,v),r)=>match r with
     | []=>none
     | c' :: r'=>if c'.toNat = 62 then some (.nd 85 [] d.tag [v],r') else none)
   else none
def dh : act → Option (V × act)
 | []=>none
 | c :: s=>if c.toNat = 39 then (match aC 39 s with
   | (x,r,true)=>if db (39 :: (x ++ [39])) = true then some (.nd 116 x 0 [],r) else none
   | _=>none) else none
def dW (s : act) : Option (V × act) :=
 if [121,101,115].isPrefixOf s = true then some (.nd 102 [121,101,115] 0 [],s.drop 3) else if [110,111].isPrefixOf s = true then some (.nd 102 [110,111] 0 [],s.drop 2) else none
def eB (ts : List Ty) (f : act → act → Option (V × act)) : act → act → Option (V × act)
 | [],_=>none
 | c :: k,s =>
  if c.toNat = 91 then (match s with
   | []=>none
   | d :: s'=>if d.toNat = 91 then (match s' with
     | []=>none
     | e :: r=>if e.toNat = 93 then some (.nd 91 [] 0 [],r) else (bc (f k) 20 s' []).map fun x=>(.nd 91 [] 0 x.1,x.2)) else none)
  else if c.toNat = 63 then (match s with
   | []=>none
   | d :: s'=>if d.toNat = 45 then some (.nd 63 [] 0 [],s') else if d.toNat = 43 then (f k s').map fun x=>(.nd 63 [] 0 [x.1],x.2) else none)
  else match aX ts (c :: k) with
   | some t=>a6 ts f t s
   | none=>if c.toNat = 110 then (cb 999999 s).map fun x=>(.nd 110 (br x.1) 0 [],x.2) else if c.toNat = 116 then dh s else if c.toNat = 102 then dW s else none
def rd (ts : List Ty) : Nat → act → act → Option (V × act)
 | 0,_,_=>none
 | n + 1,k,s=>eB ts (rd ts n) k s
def bZ (ts : List Ty) (k s : act) : Option V:=if s.length ≤ 400 then (match rd ts 12 k s with
 | some (v,[])=>some v
 | _=>none) else none
theorem lS {f g : act → Option (V × act)} (h : ∀ s x,f s = some x → g s = some x) : ∀ (m : Nat) (s : act) (acc : List V) {x : List V × act},bc f m s acc = some x → bc g m s acc = some x
 | 0,_,_,_,e=>by cases e
 | m + 1,s,acc,x,e=>by
  unfold bc at e ⊢
  cases hf : f s with
  | none=>rw [hf] at e;cases e
  | some y =>
   rw [hf] at e
   rw [h s y hf]
   obtain ⟨v,r⟩:=y
   cases r with
   | nil=>exact e
   | cons c r =>
    dsimp only at e ⊢
    split at e
    ·rename_i hc;rw [if_pos hc];exact lS h m r _ e
    ·rename_i hc;rw [if_neg hc];exact e
theorem lT {f g : act → act → Option (V × act)} (h : ∀ k s x,f k s = some x → g k s = some x) (t : Ty) (s : act) {x : (Fld × V) × act} (e : aN f t s = some x) : aN g t s = some x:=by
 unfold aN at e ⊢
 cases hn : cb 200 s with
 | none=>rw [hn] at e;cases e
 | some y =>
  rw [hn] at e
  obtain ⟨n,r⟩:=y
  dsimp only at e ⊢
  cases hd : bK t.fields n with
  | none=>rw [hd] at e;cases e
  | some d =>
   rw [hd] at e
   cases r with
   | nil=>cases e
   | cons c r' =>
    dsimp only at e ⊢
    by_cases hc : c.toNat = 61
    ·rw [if_pos hc] at e ⊢
     cases hf : f d.kind r' with
     | none=>rw [hf] at e;cases e
     | some y=>rw [hf] at e;rw [h _ _ y hf];exact e
    ·rw [if_neg hc] at e;cases e
theorem mU {ts : List Ty} {f g : act → act → Option (V × act)} (h : ∀ k s x,f k s = some x → g k s = some x) (t : Ty) : ∀ (m : Nat) (last : Int) (s : act) (acc : List V) {x : List V × act},bC ts f t m last s acc = some x → bC ts g t m last s acc = some x
 | 0,_,_,_,_,e=>by cases e
 | m + 1,last,s,acc,x,e=>by
  unfold bC at e ⊢
  cases hf : aN f t s with
  | none=>rw [hf] at e;cases e
  | some y =>
   rw [hf] at e
   rw [lT h t s hf]
   obtain ⟨⟨d,v⟩,r⟩:=y
   dsimp only at e ⊢
   split at e
   ·cases e
   ·rename_i hd
    rw [if_neg hd]
    cases r with
    | nil=>exact e
    | cons c r =>
     dsimp only at e ⊢
     split at e
     ·rename_i hc;rw [if_pos hc];exact mU h t m _ r _ e
     ·rename_i hc;rw [if_neg hc];exact e
theorem qX {ts : List Ty} {f g : act → act → Option (V × act)} (h : ∀ k s x,f k s = some x → g k s = some x) (t : Ty) : ∀ (s : act) {x : V × act},a6 ts f t s = some x → a6 ts g t s = some x
 | [],_,e=>by cases e
 | c :: s,x,e=>by
  unfold a6 at e ⊢
  dsimp only at e ⊢
  by_cases h82 : t.sort = 82
  ·rw [if_pos h82] at e ⊢
   by_cases hc : c.toNat = 123
   ·rw [if_pos hc] at e ⊢
    cases s with
    | nil=>exact e
    | cons c' r =>
     dsimp only at e ⊢
     by_cases hc' : c'.toNat = 125
     ·rw [if_pos hc'] at e ⊢;exact e
     ·rw [if_neg hc'] at e ⊢
      cases hf : bC ts f t ((c' :: r).length + 1) 0 (c' :: r) [] with
      | none=>rw [hf] at e;cases e
      | some y=>rw [hf] at e;rw [mU h t _ _ _ _ hf];exact e
   ·rw [if_neg hc] at e;cases e
  ·rw [if_neg h82] at e ⊢
   by_cases h69 : t.sort = 69
   ·rw [if_pos h69] at e ⊢;exact e
   ·rw [if_neg h69] at e ⊢
    by_cases hc : c.toNat = 60
    ·rw [if_pos hc] at e ⊢
     cases hf : aN f t s with
     | none=>rw [hf] at e;cases e
     | some y=>rw [hf] at e;rw [lT h t s hf];exact e
    ·rw [if_neg hc] at e;cases e
theorem wr {ts : List Ty} {f g : act → act → Option (V × act)} (ih : ∀ k s x,f k s = some x → g k s = some x) : ∀ (k s : act) {x : V × act},eB ts f k s = some x → eB ts g k s = some x
 | [],_,_,e=>by cases e
 | c :: k,s,x,e=>by
  unfold eB at e ⊢
  dsimp only at e ⊢
  by_cases h91 : c.toNat = 91
  ·rw [if_pos h91] at e ⊢
   cases s with
   | nil=>exact e
   | cons d s' =>
    dsimp only at e ⊢
    by_cases hd : d.toNat = 91
    ·rw [if_pos hd] at e ⊢
     cases s' with
     | nil=>exact e
     | cons e' r =>
      dsimp only at e ⊢
      by_cases he : e'.toNat = 93
      ·rw [if_pos he] at e ⊢;exact e
      ·rw [if_neg he] at e ⊢
       cases hf : bc (f k) 20 (e' :: r) [] with
       | none=>rw [hf] at e;cases e
       | some y=>rw [hf] at e;rw [lS (ih k) _ _ _ hf];exact e
    ·rw [if_neg hd] at e;cases e
  ·rw [if_neg h91] at e ⊢
   by_cases h63 : c.toNat = 63
   ·rw [if_pos h63] at e ⊢
    cases s with
    | nil=>exact e
    | cons d s' =>
     dsimp only at e ⊢
     by_cases hd : d.toNat = 45
     ·rw [if_pos hd] at e ⊢;exact e
     ·rw [if_neg hd] at e ⊢
      by_cases hd2 : d.toNat = 43
      ·rw [if_pos hd2] at e ⊢
       cases hf : f k s' with
       | none=>rw [hf] at e;cases e
       | some y=>rw [hf] at e;rw [ih k s' y hf];exact e
      ·rw [if_neg hd2] at e;cases e
   ·rw [if_neg h63] at e ⊢
    cases hr : aX ts (c :: k) with
    | none=>rw [hr] at e;exact e
    | some t=>rw [hr] at e;exact qX ih t s e
theorem sT {ts : List Ty} : ∀ (n : Nat) (k s : act) {x : V × act},rd ts n k s = some x → rd ts (n + 1) k s = some x
 | 0,_,_,_,e=>by cases e
 | n + 1,k,s,_,e=>wr (fun k s _ e=>sT n k s e) k s e
theorem xg {ts : List Ty} {n m : Nat} (h : n ≤ m) {k s : act} {x : V × act} (e : rd ts n k s = some x) : rd ts m k s = some x:=by
  induction m with
  | zero => have : n = 0 := oM
            subst this;exact e
  | succ m ih =>
    by_cases hn : n = m + 1
    · subst hn;exact e
    · exact sT m k s (ih oM)
theorem V.deep_mem : ∀ {ks : List V} {v : V},v ∈ ks → V.deep v ≤ V.deeps ks
 | [],_,h=>by cases h
 | u :: ks,v,h=>by
  rw [V.deeps]
  rcases List.mem_cons.1 h with rfl | h
  ·exact Nat.le_max_left _ _
  ·exact Nat.le_trans (V.deep_mem h) (Nat.le_max_right _ _)
theorem V.deeps_le : ∀ {ks : List V} {n : Nat},(∀ v ∈ ks,V.deep v ≤ n) → V.deeps ks ≤ n
 | [],_,_=>by rw [V.deeps];exact Nat.zero_le _
 | u :: ks,n,h=>by
  rw [V.deeps]
  exact Nat.max_le.2 ⟨h u (.head _),V.deeps_le fun v hv=>h v (.tail _ hv)⟩
theorem cO {w : Nat} {x : act} {t : Int} {ks : List V} (h : ¬ w = 61) : V.deep (.nd w x t ks) = V.deeps ks + 1:=by rw [V.deep,if_neg h]
theorem nD {t : Int} {v : V} : V.deep (.nd 61 [] t [v]) = V.deep v:=by rw [V.deep,if_pos rfl,V.deeps,V.deeps,Nat.max_zero]
theorem hO {f : act → Option (V × act)} {p : V → Prop} (h : ∀ s x,f s = some x → p x.1) : ∀ (m : Nat) (s : act) (acc : List V) {x : List V × act},bc f m s acc = some x → (∀ v ∈ acc,p v) → ∀ v ∈ x.1,p v
 | 0,_,_,_,e,_=>by cases e
 | m + 1,s,acc,x,e,ha=>by
  unfold bc at e
  cases hf : f s with
  | none=>rw [hf] at e;cases e
  | some y =>
   rw [hf] at e
   have hy:=h s y hf
   obtain ⟨v,r⟩:=y
   have ha' : ∀ u ∈ acc ++ [v],p u:=fun u hu=>by
    rcases List.mem_append.1 hu with hu | hu
    ·exact ha u hu
    ·simp only [List.mem_singleton] at hu;subst hu;exact hy
   cases r with
   | nil=>cases e
   | cons c r =>
    dsimp only at e
    split at e
    ·exact hO h m r _ e ha'
    ·split at e
     ·simp only [Option.some.injEq] at e;subst e;exact ha'
     ·cases e
theorem mT {f g : act → Option (V × act)} : ∀ (m : Nat) (s : act) (acc : List V) {x : List V × act},bc f m s acc = some x → (∀ s y,f s = some y → y.1 ∈ x.1 → g s = some y) → bc g m s acc = some x ∧ ∀ v ∈ acc,v ∈ x.1
 | 0,_,_,_,e,_=>by cases e
 | m + 1,s,acc,x,e,h=>by
  unfold bc at e ⊢
  cases hf : f s with
  | none=>rw [hf] at e;cases e
  | some y =>
   rw [hf] at e
   have hy:=h s y hf
   obtain ⟨v,r⟩:=y
   cases r with
   | nil=>cases e
   | cons c r =>
    dsimp only at e hy
    split at e
    ·rename_i hc
     obtain ⟨h1,h2⟩:=mT m r _ e h
     rw [hy (h2 v (by simp))]
     dsimp only
     rw [if_pos hc]
     exact ⟨h1,fun u hu=>h2 u (List.mem_append_left _ hu)⟩
    ·rename_i hc
     split at e
     ·rename_i hc2
      simp only [Option.some.injEq] at e;subst e
      rw [hy (by simp)]
      dsimp only
      rw [if_neg hc,if_pos hc2]
      exact ⟨F,fun u hu=>List.mem_append_left _ hu⟩
     ·cases e
theorem fb {f : act → act → Option (V × act)} {t : Ty} {s : act} {x : (Fld × V) × act} (e : aN f t s = some x) : x.1.1 ∈ t.fields ∧ ∃ s',f x.1.1.kind s' = some (x.1.2,x.2):=by
 unfold aN at e
 cases hn : cb 200 s with
 | none=>rw [hn] at e;cases e
 | some y =>
  rw [hn] at e
  obtain ⟨n,r⟩:=y
  dsimp only at e
  cases hd : bK t.fields n with
  | none=>rw [hd] at e;cases e
  | some d =>
   rw [hd] at e
   cases r with
   | nil=>cases e
   | cons c r' =>
    dsimp only at e
    by_cases hc : c.toNat = 61
    ·rw [if_pos hc] at e
     cases hf : f d.kind r' with
     | none=>rw [hf] at e;cases e
     | some y =>
      rw [hf] at e
      simp only [Option.map_some,Option.some.injEq] at e
      subst e
      exact ⟨List.mem_of_find?_eq_some hd,r',hf⟩
    ·rw [if_neg hc] at e;cases e
theorem kl {f g : act → act → Option (V × act)} {t : Ty} {s : act} {x : (Fld × V) × act} (e : aN f t s = some x) (h : ∀ k s y,f k s = some y → y.1 = x.1.2 → g k s = some y) : aN g t s = some x:=by
 unfold aN at e ⊢
 cases hn : cb 200 s with
 | none=>rw [hn] at e;cases e
 | some y =>
  rw [hn] at e
  obtain ⟨n,r⟩:=y
  dsimp only at e ⊢
  cases hd : bK t.fields n with
  | none=>rw [hd] at e;cases e
  | some d =>
   rw [hd] at e
   cases r with
   | nil=>cases e
   | cons c r' =>
    dsimp only at e ⊢
    by_cases hc : c.toNat = 61
    ·rw [if_pos hc] at e ⊢
     cases hf : f d.kind r' with
     | none=>rw [hf] at e;cases e
     | some y =>
      rw [hf] at e
      simp only [Option.map_some,Option.some.injEq] at e
      subst e
      rw [h _ _ _ hf rfl];rfl
    ·rw [if_neg hc] at e;cases e
theorem n8 {ts : List Ty} {f : act → act → Option (V × act)} {t : Ty} {p : V → Prop} (h : ∀ k s x,f k s = some x → ∀ n,p (.nd 61 [] n [x.1])) : ∀ (m : Nat) (last : Int) (s : act) (acc : List V) {x : List V × act},bC ts f t m last s acc = some x → (∀ v ∈ acc,p v) → ∀ v ∈ x.1,p v
 | 0,_,_,_,_,e,_=>by cases e
 | m + 1,last,s,acc,x,e,ha=>by
  unfold bC at e
  cases hf : aN f t s with
  | none=>rw [hf] at e;cases e
  | some y =>
   rw [hf] at e
   obtain ⟨_,s',hs'⟩:=fb hf
   have hy:=h _ s' _ hs'
   obtain ⟨⟨d,v⟩,r⟩:=y
   dsimp only at e hy
   have ha' : ∀ u ∈ acc ++ [V.nd 61 [] d.tag [v]],p u:=fun u hu=>by
    rcases List.mem_append.1 hu with hu | hu
    ·exact ha u hu
    ·simp only [List.mem_singleton] at hu;subst hu;exact hy d.tag
   split at e
   ·cases e
   ·cases r with
    | nil=>cases e
    | cons c r =>
     dsimp only at e
     split at e
     ·exact n8 h m _ r _ e ha'
     ·split at e
      ·simp only [Option.some.injEq] at e;subst e;exact ha'
      ·cases e
theorem n7 {ts : List Ty} {f g : act → act → Option (V × act)} {t : Ty} : ∀ (m : Nat) (last : Int) (s : act) (acc : List V) {x : List V × act},bC ts f t m last s acc = some x → (∀ k s y,f k s = some y → (∃ n,V.nd 61 [] n [y.1] ∈ x.1) → g k s = some y) → bC ts g t m last s acc = some x ∧ ∀ v ∈ acc,v ∈ x.1
 | 0,_,_,_,_,e,_=>by cases e
 | m + 1,last,s,acc,x,e,h=>by
  unfold bC at e ⊢
  cases hf : aN f t s with
  | none=>rw [hf] at e;cases e
  | some y =>
   rw [hf] at e
   obtain ⟨⟨d,v⟩,r⟩:=y
   dsimp only at e
   split at e
   ·cases e
   ·rename_i hd
    cases r with
    | nil=>cases e
    | cons c r =>
     dsimp only at e
     split at e
     ·rename_i hc
      obtain ⟨h1,h2⟩:=n7 m _ r _ e h
      have hg:=kl (g:=g) hf (fun k s y hy e2=>h k s y hy ⟨d.tag,by rw [e2];exact h2 _ (by simp)⟩)
      rw [hg]
      dsimp only
      rw [if_neg hd,if_pos hc]
      exact ⟨h1,fun u hu=>h2 u (List.mem_append_left _ hu)⟩
     ·rename_i hc
      split at e
      ·rename_i hc2
       simp only [Option.some.injEq] at e;subst e
       have hg:=kl (g:=g) hf (fun k s y hy e2=>h k s y hy ⟨d.tag,by rw [e2];simp⟩)
       rw [hg]
       dsimp only
       rw [if_neg hd,if_neg hc,if_pos hc2]
       exact ⟨F,fun u hu=>List.mem_append_left _ hu⟩
      ·cases e
theorem sU {ts : List Ty} {f g : act → act → Option (V × act)} : ∀ (k s : act) {x : V × act},eB ts f k s = some x → ∃ w tx tg ks,x.1 = .nd w tx tg ks ∧ ¬ w = 61 ∧ ((∀ k s y,f k s = some y → V.deep y.1 ≤ V.deeps ks → g k s = some y) → eB ts g k s = some x) ∧ ∀ n,(∀ k s y,f k s = some y → V.deep y.1 ≤ n) → V.deeps ks ≤ n
 | [],_,_,e=>by cases e
 | c :: k,s,x,e=>by
  unfold eB at e ⊢
  dsimp only at e ⊢
  have leaf : ∀ {w : Nat} {tx : act} {tg : Int} {q : Prop},x.1 = .nd w tx tg [] → ¬ w = 61 → q → ∃ w tx tg ks,x.1 = .nd w tx tg ks ∧ ¬ w = 61 ∧ ((∀ k s y,f k s = some y → V.deep y.1 ≤ V.deeps ks → g k s = some y) → q) ∧ ∀ n,(∀ k s y,f k s = some y → V.deep y.1 ≤ n) → V.deeps ks ≤ n :=
   fun h1 h2 h3=>⟨_,_,_,[],h1,h2,fun _=>h3,fun n _=>by rw [V.deeps];exact Nat.zero_le n⟩
  by_cases h91 : c.toNat = 91
  ·simp only [if_pos h91] at e ⊢
   cases s with
   | nil=>cases e
   | cons d s' =>
    dsimp only at e ⊢
    by_cases hd : d.toNat = 91
    ·simp only [if_pos hd] at e ⊢
     cases s' with
     | nil=>cases e
     | cons e' r =>
      dsimp only at e ⊢
      by_cases he : e'.toNat = 93
      ·simp only [if_pos he] at e ⊢
       have e2:=e
       simp only [Option.some.injEq] at e2;subst e2
       exact leaf F dC F
      ·simp only [if_neg he] at e ⊢
       cases hf : bc (f k) 20 (e' :: r) [] with
       | none=>rw [hf] at e;cases e
       | some y =>
        rw [hf] at e
        simp only [Option.map_some,Option.some.injEq] at e;subst e
        refine ⟨91,[],0,y.1,F,by decide,fun h=>?_,fun n h=>?_⟩
        ·rw [(mT (g:=g k) _ _ _ hf fun s u hu hm=>h k s u hu (V.deep_mem hm)).1];rfl
        ·exact V.deeps_le fun v hv=>hO (p:=fun v=>V.deep v ≤ n) (fun s u hu=>h k s u hu) _ _ _ hf (by simp) v hv
    ·simp only [if_neg hd] at e;cases e
  ·simp only [if_neg h91] at e ⊢
   by_cases h63 : c.toNat = 63
   ·simp only [if_pos h63] at e ⊢
    cases s with
    | nil=>cases e
    | cons d s' =>
     dsimp only at e ⊢
     by_cases hd : d.toNat = 45
     ·simp only [if_pos hd] at e ⊢
      have e2:=e
      simp only [Option.some.injEq] at e2;subst e2
      exact leaf F dC F
     ·simp only [if_neg hd] at e ⊢
      by_cases hd2 : d.toNat = 43
      ·simp only [if_pos hd2] at e ⊢
       cases hf : f k s' with
       | none=>rw [hf] at e;cases e
       | some y =>
        rw [hf] at e
        simp only [Option.map_some,Option.some.injEq] at e;subst e
        refine ⟨63,[],0,[y.1],F,by decide,fun h=>?_,fun n h=>?_⟩
        ·rw [h k s' y hf (V.deep_mem (by simp))];rfl
        ·exact V.deeps_le fun v hv=>by simp only [List.mem_singleton] at hv;subst hv;exact h k s' y hf
      ·simp only [if_neg hd2] at e;cases e
   ·simp only [if_neg h63] at e ⊢
    cases hr : aX ts (c :: k) with
    | none =>
     rw [hr] at e
     dsimp only at e ⊢
     by_cases h1 : c.toNat = 110
     ·simp only [if_pos h1] at e ⊢
      cases hn : cb 999999 s with
      | none=>rw [hn] at e;cases e
      | some y =>
       rw [hn] at e
       have e2:=e
       simp only [Option.map_some,Option.some.injEq] at e2;subst e2
       exact leaf F dC F
     ·simp only [if_neg h1] at e ⊢
      by_cases h2 : c.toNat = 116
      ·simp only [if_pos h2] at e ⊢
       refine leaf (w:=116) (tx:=x.1.text) (tg:=0) ?_ dC e
       unfold dh at e
       split at e
       ·cases e
       ·split at e
        ·split at e
         ·split at e
          ·simp only [Option.some.injEq] at e;subst e;rfl
          ·cases e
         ·cases e
        ·cases e
      ·simp only [if_neg h2] at e ⊢
       by_cases h3 : c.toNat = 102
       ·simp only [if_pos h3] at e ⊢
        refine leaf (w:=102) (tx:=x.1.text) (tg:=0) ?_ dC e
        unfold dW at e
        split at e
        ·simp only [Option.some.injEq] at e;subst e;rfl
        ·split at e
         ·simp only [Option.some.injEq] at e;subst e;rfl
         ·cases e
       ·simp only [if_neg h3] at e;cases e
    | some t =>
     rw [hr] at e
     dsimp only at e ⊢
     unfold a6 at e ⊢
     cases s with
     | nil=>cases e
     | cons d s =>
      dsimp only at e ⊢
      by_cases h82 : t.sort = 82
      ·simp only [if_pos h82] at e ⊢
       by_cases hd : d.toNat = 123
       ·simp only [if_pos hd] at e ⊢
        cases s with
        | nil=>cases e
        | cons d' r =>
         dsimp only at e ⊢
         by_cases hd' : d'.toNat = 125
         ·simp only [if_pos hd'] at e ⊢
          have e2:=e
          simp only [Option.some.injEq] at e2;subst e2
          exact leaf F dC F
         ·simp only [if_neg hd'] at e ⊢
          cases hf : bC ts f t ((d' :: r).length + 1) 0 (d' :: r) [] with
          | none=>rw [hf] at e;cases e
          | some y =>
           rw [hf] at e
           simp only [Option.map_some,Option.some.injEq] at e;subst e
           refine ⟨82,[],0,y.1,F,by decide,fun h=>?_,fun n h=>?_⟩
           ·rw [(n7 (g:=g) _ _ _ _ hf fun k s u hu hm=>h k s u hu (by obtain ⟨n,hm⟩:=hm;have:=V.deep_mem hm;rwa [nD] at this)).1];rfl
           ·exact V.deeps_le fun v hv=>n8 (p:=fun v=>V.deep v ≤ n) (fun k s u hu m=>by rw [nD];exact h k s u hu) _ _ _ _ hf (by simp) v hv
       ·simp only [if_neg hd] at e;cases e
      ·simp only [if_neg h82] at e ⊢
       by_cases h69 : t.sort = 69
       ·simp only [if_pos h69] at e ⊢
        refine leaf (w:=69) (tx:=[]) (tg:=x.1.tag) ?_ dC e
        split at e
        ·split at e
         ·cases e
         ·split at e
          ·simp only [Option.some.injEq] at e;subst e;rfl
          ·cases e
        ·cases e
       ·simp only [if_neg h69] at e ⊢
        by_cases hd : d.toNat = 60
        ·simp only [if_pos hd] at e ⊢
         cases hf : aN f t s with
         | none=>rw [hf] at e;cases e
         | some y =>
          rw [hf] at e
          obtain ⟨⟨fd,v⟩,r⟩:=y
          cases r with
          | nil=>cases e
          | cons c' r =>
           dsimp only at e
           by_cases hc' : c'.toNat = 62
           ·simp only [if_pos hc',Option.some.injEq] at e;subst e
            refine ⟨85,[],fd.tag,[v],F,by decide,fun h=>?_,fun n h=>?_⟩
            ·rw [kl (g:=g) hf fun k s u hu e2=>h k s u hu (by rw [e2];exact V.deep_mem (by simp))]
             dsimp only
             rw [if_pos hc']
            ·obtain ⟨_,s',hs'⟩:=fb hf
             exact V.deeps_le fun u hu=>by simp only [List.mem_singleton] at hu;subst hu;exact h _ _ _ hs'
           ·simp only [if_neg hc'] at e;cases e
        ·simp only [if_neg hd] at e;cases e
theorem kP {ts : List Ty} : ∀ (n : Nat) (k s : act) (x : V × act),rd ts n k s = some x → V.deep x.1 ≤ n
 | 0,_,_,_,e=>by cases e
 | n + 1,k,s,x,e=>by
  obtain ⟨w,tx,tg,ks,h1,h2,_,h4⟩:=sU (g:=rd ts n) k s e
  rw [h1,cO h2]
  have:=h4 n fun k s y hy=>kP n k s y hy
  omega
theorem xh {ts : List Ty} : ∀ (n m : Nat) (k s : act) (x : V × act),rd ts n k s = some x → V.deep x.1 ≤ m → rd ts m k s = some x
 | 0,_,_,_,_,e,_=>by cases e
 | n + 1,m,k,s,x,e,hm=>by
  obtain ⟨w,tx,tg,ks,h1,h2,h3,_⟩:=sU (g:=rd ts (m - 1)) k s e
  rw [h1,cO h2] at hm
  obtain ⟨m,rfl⟩ : ∃ j,m = j + 1:=⟨m - 1,oM⟩
  exact h3 fun k s y hy hd=>xh n m k s y hy oM
theorem bn {c : UInt8} {n : Nat} (h : c.toNat = n) (hn : n < 256) : c = UInt8.ofNat n:=by
 apply UInt8.toNat_inj.1;rw [h,UInt8.toNat_ofNat'];omega
theorem jt {top : Int} {s r : act} {n : Int} (h : cb top s = some (n,r)) : s = br n ++ r:=by
 unfold cb at h
 cases hn : aL (s.takeWhile aZ) top with
 | none=>rw [hn] at h;cases h
 | some q =>
  rw [hn] at h
  simp only [Option.map_some,Option.some.injEq,Prod.mk.injEq] at h
  obtain ⟨rfl,rfl⟩:=h
  rw [← (d9 hn).2.1,List.takeWhile_append_dropWhile]
theorem mS {f : act → Option (V × act)} (h : ∀ s y,f s = some y → s = y.1.out ++ y.2) : ∀ (m : Nat) (s : act) (acc : List V) {x : List V × act},bc f m s acc = some x → ∃ vs,vs ≠ [] ∧ x.1 = acc ++ vs ∧ s = aP 44 (vs.map V.out) ++ 93 :: x.2
 | 0,_,_,_,e=>by cases e
 | m + 1,s,acc,x,e=>by
  unfold bc at e
  cases hf : f s with
  | none=>rw [hf] at e;cases e
  | some y =>
   rw [hf] at e
   have hy:=h s y hf
   obtain ⟨v,r⟩:=y
   cases r with
   | nil=>cases e
   | cons c r =>
    dsimp only at e hy
    split at e
    ·rename_i hc
     obtain ⟨vs,h1,h2,h3⟩:=mS h m r _ e
     have hc2:=bn hc dC
     refine ⟨v :: vs,by simp,by rw [h2];simp,?_⟩
     rw [hy,h3,List.map_cons,k4 _ _ (by simpa using h1),hc2]
     simp
    ·split at e
     ·rename_i hc2
      have hc3:=bn hc2 dC
      simp only [Option.some.injEq] at e;subst e
      exact ⟨[v],by simp,F,by rw [hy,hc3];rfl⟩
     ·cases e
theorem gg {t : Int} {v : V} : V.out (.nd 61 [] t [v]) = br t ++ 61 :: v.out:=by
 rw [V.out,V.outs,V.outs];simp [dl,aP]
theorem mW {f : act → act → Option (V × act)} (h : ∀ k s y,f k s = some y → s = y.1.out ++ y.2) {t : Ty} {s : act} {x : (Fld × V) × act} (e : aN f t s = some x) : s = br x.1.1.tag ++ 61 :: (x.1.2.out ++ x.2):=by
 unfold aN at e
 cases hn : cb 200 s with
 | none=>rw [hn] at e;cases e
 | some y =>
  rw [hn] at e
  obtain ⟨n,r⟩:=y
  have h1:=jt hn
  dsimp only at e
  cases hd : bK t.fields n with
  | none=>rw [hd] at e;cases e
  | some d =>
   rw [hd] at e
   have h2 : d.tag = n:=by have:=List.find?_some hd;simpa using this
   cases r with
   | nil=>cases e
   | cons c r' =>
    dsimp only at e
    by_cases hc : c.toNat = 61
    ·rw [if_pos hc] at e
     cases hf : f d.kind r' with
     | none=>rw [hf] at e;cases e
     | some y =>
      rw [hf] at e
      simp only [Option.map_some,Option.some.injEq] at e
      subst e
      have h3:=h _ _ _ hf
      dsimp only
      rw [h1,h2,h3,bn hc dC];rfl
    ·rw [if_neg hc] at e;cases e
theorem n6 {ts : List Ty} {f : act → act → Option (V × act)} (h : ∀ k s y,f k s = some y → s = y.1.out ++ y.2) {t : Ty} : ∀ (m : Nat) (last : Int) (s : act) (acc : List V) {x : List V × act},bC ts f t m last s acc = some x → ∃ vs,vs ≠ [] ∧ x.1 = acc ++ vs ∧ s = aP 44 (vs.map V.out) ++ 125 :: x.2
 | 0,_,_,_,_,e=>by cases e
 | m + 1,last,s,acc,x,e=>by
  unfold bC at e
  cases hf : aN f t s with
  | none=>rw [hf] at e;cases e
  | some y =>
   rw [hf] at e
   have hy:=mW h hf
   obtain ⟨⟨d,v⟩,r⟩:=y
   dsimp only at e hy
   split at e
   ·cases e
   ·cases r with
    | nil=>cases e
    | cons c r =>
     dsimp only at e
     split at e
     ·rename_i hc
      obtain ⟨vs,h1,h2,h3⟩:=n6 h m _ r _ e
      have hc2:=bn hc dC
      refine ⟨V.nd 61 [] d.tag [v] :: vs,by simp,by rw [h2];simp,?_⟩
      rw [hy,h3,List.map_cons,k4 _ _ (by simpa using h1),hc2,gg]
      simp
     ·split at e
      ·rename_i hc2
       have hc3:=bn hc2 dC
       simp only [Option.some.injEq] at e;subst e
       exact ⟨[V.nd 61 [] d.tag [v]],by simp,F,by rw [hy,hc3];simp [aP,gg]⟩
      ·cases e
theorem qi {k : Nat} {c : UInt8} (hc : c.toNat = k) : ∀ {s x r : act},aC k s = (x,r,true) → s = x ++ c :: r
 | [],_,_,h=>by cases h
 | d :: s,x,r,h=>by
  unfold aC at h
  split at h
  ·rename_i hd
   simp only [Prod.mk.injEq,and_true] at h
   obtain ⟨rfl,rfl⟩:=h
   have : d = c:=UInt8.toNat_inj.1 (by rw [hd,hc])
   rw [this];rfl
  ·simp only [Prod.mk.injEq] at h
   obtain ⟨h1,h2,h3⟩:=h
   have ih:=qi hc (s:=s) (x:=(aC k s).1) (r:=(aC k s).2.1) (by rw [← h3])
   rw [← h1,← h2,List.cons_append,← ih]
theorem pb {p s : act} (h : p.isPrefixOf s = true) : s = p ++ s.drop p.length:=by
 rw [List.isPrefixOf_iff_prefix] at h
 obtain ⟨t,rfl⟩:=h
 simp
theorem mQ {s : act} {x : V × act} (e : dh s = some x) : s = x.1.out ++ x.2:=by
 unfold dh at e
 cases s with
 | nil=>cases e
 | cons c s =>
  dsimp only at e
  by_cases hc : c.toNat = 39
  ·rw [if_pos hc] at e
   rcases hq : aC 39 s with ⟨y,r,b⟩
   rw [hq] at e
   cases b with
   | false=>cases e
   | true =>
    dsimp only at e
    split at e
    ·simp only [Option.some.injEq] at e;subst e
     have h1:=qi (c:=39) rfl hq
     rw [h1,bn hc dC]
     simp [V.out,dl]
    ·cases e
  ·rw [if_neg hc] at e;cases e
theorem n9 {s : act} {x : V × act} (e : dW s = some x) : s = x.1.out ++ x.2:=by
 unfold dW at e
 split at e
 ·rename_i h
  simp only [Option.some.injEq] at e;subst e
  have:=pb h
  simpa [V.out,dl] using this
 ·split at e
  ·rename_i h
   simp only [Option.some.injEq] at e;subst e
   have:=pb h
   simpa [V.out,dl] using this
  ·cases e
theorem nr {ks : List V} {r : act} : V.out (.nd 91 [] 0 ks) ++ r = 91 :: (aP 44 (ks.map V.out) ++ 93 :: r):=by
 rw [V.out,V.outs_map];simp [dl]
theorem pd {ks : List V} {r : act} : V.out (.nd 82 [] 0 ks) ++ r = 123 :: (aP 44 (ks.map V.out) ++ 125 :: r):=by
 rw [V.out,V.outs_map];simp [dl]
theorem sX {v : V} {r : act} : V.out (.nd 63 [] 0 [v]) ++ r = 43 :: (v.out ++ r):=by
 rw [V.out,V.outs_map];simp [dl,aP]
theorem sW {v : V} {n : Int} {r : act} : V.out (.nd 85 [] n [v]) ++ r = 60 :: (br n ++ 61 :: (v.out ++ 62 :: r)):=by
 rw [V.out,V.outs_map];simp [dl,aP]
theorem xV {ts : List Ty} {f : act → act → Option (V × act)} (h : ∀ k s y,f k s = some y → s = y.1.out ++ y.2) : ∀ (k s : act) {x : V × act},eB ts f k s = some x → s = x.1.out ++ x.2
 | [],_,_,e=>by cases e
 | c :: k,s,x,e=>by
  unfold eB at e
  dsimp only at e
  by_cases h91 : c.toNat = 91
  ·simp only [if_pos h91] at e
   cases s with
   | nil=>cases e
   | cons d s' =>
    dsimp only at e
    by_cases hd : d.toNat = 91
    ·simp only [if_pos hd] at e
     cases s' with
     | nil=>cases e
     | cons e' r =>
      dsimp only at e
      by_cases he : e'.toNat = 93
      ·simp only [if_pos he,Option.some.injEq] at e;subst e
       rw [nr,bn hd dC,bn he dC];rfl
      ·simp only [if_neg he] at e
       cases hf : bc (f k) 20 (e' :: r) [] with
       | none=>rw [hf] at e;cases e
       | some y =>
        rw [hf] at e
        simp only [Option.map_some,Option.some.injEq] at e;subst e
        obtain ⟨vs,_,h2,h3⟩:=mS (h k) _ _ _ hf
        rw [nr,h2,h3,bn hd dC];rfl
    ·simp only [if_neg hd] at e;cases e
  ·simp only [if_neg h91] at e
   by_cases h63 : c.toNat = 63
   ·simp only [if_pos h63] at e
    cases s with
    | nil=>cases e
    | cons d s' =>
     dsimp only at e
     by_cases hd : d.toNat = 45
     ·simp only [if_pos hd,Option.some.injEq] at e;subst e
      rw [bn hd dC];simp [V.out,dl]
     ·simp only [if_neg hd] at e
      by_cases hd2 : d.toNat = 43
      ·simp only [if_pos hd2] at e
       cases hf : f k s' with
       | none=>rw [hf] at e;cases e
       | some y =>
        rw [hf] at e
        simp only [Option.map_some,Option.some.injEq] at e;subst e
        rw [sX,← h k s' y hf,bn hd2 dC];rfl
      ·simp only [if_neg hd2] at e;cases e
   ·simp only [if_neg h63] at e
    cases hr : aX ts (c :: k) with
    | none =>
     rw [hr] at e
     dsimp only at e
     by_cases h1 : c.toNat = 110
     ·simp only [if_pos h1] at e
      cases hn : cb 999999 s with
      | none=>rw [hn] at e;cases e
      | some y =>
       rw [hn] at e
       simp only [Option.map_some,Option.some.injEq] at e;subst e
       rw [jt hn];simp [V.out,dl]
     ·simp only [if_neg h1] at e
      by_cases h2 : c.toNat = 116
      ·simp only [if_pos h2] at e;exact mQ e
      ·simp only [if_neg h2] at e
       by_cases h3 : c.toNat = 102
       ·simp only [if_pos h3] at e;exact n9 e
       ·simp only [if_neg h3] at e;cases e
    | some t =>
     rw [hr] at e
     dsimp only at e
     unfold a6 at e
     cases s with
     | nil=>cases e
     | cons d s =>
      dsimp only at e
      by_cases h82 : t.sort = 82
      ·simp only [if_pos h82] at e
       by_cases hd : d.toNat = 123
       ·simp only [if_pos hd] at e
        cases s with
        | nil=>cases e
        | cons d' r =>
         dsimp only at e
         by_cases hd' : d'.toNat = 125
         ·simp only [if_pos hd',Option.some.injEq] at e;subst e
          rw [pd,bn hd dC,bn hd' dC];rfl
         ·simp only [if_neg hd'] at e
          cases hf : bC ts f t ((d' :: r).length + 1) 0 (d' :: r) [] with
          | none=>rw [hf] at e;cases e
          | some y =>
           rw [hf] at e
           simp only [Option.map_some,Option.some.injEq] at e;subst e
           obtain ⟨vs,_,h2,h3⟩:=n6 h _ _ _ _ hf
           rw [pd,h2,h3,bn hd dC];rfl
       ·simp only [if_neg hd] at e;cases e
      ·simp only [if_neg h82] at e
       by_cases h69 : t.sort = 69
       ·simp only [if_pos h69] at e
        by_cases hd : d.toNat = 35
        ·simp only [if_pos hd] at e
         cases hn : cb 200 s with
         | none=>rw [hn] at e;cases e
         | some y =>
          rw [hn] at e
          obtain ⟨n,r⟩:=y
          dsimp only at e
          split at e
          ·simp only [Option.some.injEq] at e;subst e
           rw [jt hn,bn hd dC];simp [V.out,dl]
          ·cases e
        ·simp only [if_neg hd] at e;cases e
       ·simp only [if_neg h69] at e
        by_cases hd : d.toNat = 60
        ·simp only [if_pos hd] at e
         cases hf : aN f t s with
         | none=>rw [hf] at e;cases e
         | some y =>
          rw [hf] at e
          have h3:=mW h hf
          obtain ⟨⟨fd,v⟩,r⟩:=y
          cases r with
          | nil=>cases e
          | cons c' r =>
           dsimp only at e h3
           by_cases hc' : c'.toNat = 62
           ·simp only [if_pos hc',Option.some.injEq] at e;subst e
            rw [sW,h3,bn hd dC,bn hc' dC];rfl
           ·simp only [if_neg hc'] at e;cases e
        ·simp only [if_neg hd] at e;cases e
theorem uU {ts : List Ty} : ∀ (n : Nat) (k s : act) (x : V × act),rd ts n k s = some x → s = x.1.out ++ x.2
 | 0,_,_,_,e=>by cases e
 | n + 1,k,s,x,e=>xV (fun k s y hy=>uU n k s y hy) k s e
theorem pC {ts : List Ty} {k s : act} {v : V} (h : bZ ts k s = some v) : v.out = s ∧ s.length ≤ 400 ∧ V.deep v ≤ 12:=by
 unfold bZ at h
 split at h
 ·rename_i hl
  split at h
  ·rename_i w hw
   simp only [Option.some.injEq] at h;subst h
   have h1:=uU _ _ _ _ hw
   have h2:=kP _ _ _ _ hw
   simp only [List.append_nil] at h1
   exact ⟨h1.symm,hl,h2⟩
  ·cases h
 ·cases h
end Go.E
