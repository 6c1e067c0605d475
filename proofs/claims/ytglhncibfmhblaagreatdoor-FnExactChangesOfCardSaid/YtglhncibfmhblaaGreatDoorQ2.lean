/- Contracts and plain laws that the statement rests on, part 2. Conditions: as each says. -/
import Derived.Test.YtglhncibfmhblaaGreatDoorQ1
set_option linter.unusedVariables false
set_option linter.unusedSimpArgs false
namespace Go.E
section
variable {P : Program} {n : Nat} {D : List Deferred} {E : bN} {M : World → Prop} {d : Option Nat} {ty : TypeId} {pos : String} {aft : Array Edge} {gd : Option (Nat × Bool)}
theorem yU {x : Operand} {T el : TypeId} {size bytes : Nat} {zero : Value} {p : Option Addr} {len cap : Nat} [TI P T (.slice el) size bytes zero] (hx : ev E x = some (.slice p len cap)) : Gives P n D E M ⟨d,.call ⟨.builtin .cap,[x].toArray,[T].toArray⟩,ty,pos,aft,gd⟩ (I cap):=Gives.mk fun a w hs _=>by
 simp [execOp,resolve,hs.ev hx,invoke,builtin,Builtin.cap_,cF (T:=T) (desc:=.slice el) (size:=size) (bytes:=bytes) (zero:=zero),goInt]
theorem acm {T el : TypeId} {x lo : Operand} {desc' : TypeDesc} {size bytes size' bytes' : Nat} {zero zero' : Value} {k : IntKind} {m : Int} {b o len cap : Nat} [TI P T (.slice el) size bytes zero] [TI P el desc' size' bytes' zero']
  (hx : ev E x = some (.slice (some ⟨b,o,none⟩) len cap)) (hl : ev E lo = some (.int k m)) (h0 : 0 ≤ m ∧ m ≤ len ∧ m < cap) :
  Gives P n D E M ⟨d,.slice T x (some lo) none none,ty,pos,aft,gd⟩ (.slice (some ⟨b,o + m.toNat * size',none⟩) (len - m.toNat) (cap - m.toNat)):=by
 obtain ⟨o',h1,h2⟩:=xU (P:=P) (n:=n) (D:=D) (M:=M) (d:=d) (ty:=ty) (pos:=pos) (aft:=aft) (gd:=gd) (T:=T) (el:=el) (desc':=desc') (size':=size') (bytes':=bytes') (zero':=zero') (size:=size) (bytes:=bytes) (zero:=zero) hx hl ⟨h0.1,h0.2.1⟩
 rw [← h1 h0.2.2];exact h2
theorem qY {S : World → Prop} {G0 : Gh} {L0 : List Own} [k : Kn S G0 L0] {b : Nat} {cs : List Value} {T0 : TypeId} {fr : Nat × Nat} (hm : Own.blk b (.cells cs.toArray T0 fr) ∈ L0) {w : World} (hw : S w) : w.shape? b = some (T0,cs.length):=by
 obtain ⟨B,G,L,_,hL,hst⟩:=k.kn w hw
 have h : w.heap[b]? = some (.cells cs.toArray T0 fr):=hst.own _ (hL _ hm)
 simp [World.shape?,h]
theorem ack {T T' t T0 : TypeId} {x : Operand} {b s1 b1 js jb : Nat} {z1 jz : Value} {jd : TypeDesc} {G0 : Gh} {L0 : List Own} {cs : List Value} {fr : Nat × Nat} [t1 : TI P T (.pointer t) s1 b1 z1] [t2 : TI P t jd js jb jz] [Kn M G0 L0] [h : BlkI L0 b cs T0 fr]
  (hd : P.underlying T' = some .unsafePointer) (hx : ev E x = some (Pt b 0)) (hj : Nat.beq js 0 = false) (hc : cs.isEmpty = false) : Gives P n D E M ⟨d,.convert T T' x,ty,pos,aft,gd⟩ (Pt b 0):=Gives.mk fun a w hs hw=>by
 obtain ⟨j,hj1,hj2,_,_⟩:=t2.inf
 have hl : 0 < cs.length:=by cases cs with | nil=>cases hc | cons=>simp
 have:=Lib.run_to_unsafe (P:=P) w (src:=T) (dst:=T') (t:=t) (j:=j) ⟨b,0,none⟩ t1.und hd hj1 (by rw [hj2];intro e;subst e;simp at hj) (qY (S:=M) h.mem hw) hl
 simp only [execOp,hs.ev hx,Sem.run_bind,this,Result.andThen_ok,Sem.run_pure]
theorem zG {T T' t T0 : TypeId} {x : Operand} {b s1 b1 js jb : Nat} {z1 jz : Value} {jd : TypeDesc} {G0 : Gh} {L0 : List Own} {cs : List Value} {fr : Nat × Nat} [t1 : TI P T' (.pointer t) s1 b1 z1] [t2 : TI P t jd js jb jz] [Kn M G0 L0] [h : BlkI L0 b cs T0 fr]
  (hd : P.underlying T = some .unsafePointer) (hx : ev E x = some (Pt b 0)) (hl : liesAt P P.depth T0 (cs.length / P.cellsOf T0) 0 t 1 = true) : Gives P n D E M ⟨d,.convert T T' x,ty,pos,aft,gd⟩ (Pt b 0):=Gives.mk fun a w hs hw=>by
 obtain ⟨j,hj1,_,_,_⟩:=t2.inf
 have:=Lib.run_from_unsafe (P:=P) w (src:=T) (dst:=T') (u:=t) (j:=j) ⟨b,0,none⟩ hd t1.und hj1 (qY (S:=M) h.mem hw) hl
 simp only [execOp,hs.ev hx,Sem.run_bind,this,Result.andThen_ok,Sem.run_pure]
theorem aa9 {T T' el : TypeId} {x y : Operand} {size bytes js jb : Nat} {zero jz : Value} {jd : TypeDesc} {p : Addr} [t1 : TI P T (.pointer el) size bytes zero] [t2 : TI P el jd js jb jz] (hx : ev E x = some (.pointer (some p))) (hy : ev E y = some (.pointer (some p))) : Gives P n D E M ⟨d,.binOp .neq T x y T',ty,pos,aft,gd⟩ (Bo false):=dS hx hy rfl fun w=>by
 obtain ⟨j,hj1,_,_,_⟩:=t2.inf
 exact Lib.run_neq_ptr_same w p t1.und hj1
theorem zJ {T T' el : TypeId} {x y : Operand} {s1 b1 js jb : Nat} {z1 jz : Value} {jd : TypeDesc} {b o m c : Nat} [t1 : TI P T (.slice el) s1 b1 z1] [t2 : TI P el jd js jb jz] (hx : ev E x = some (.slice (some ⟨b,o,none⟩) m c)) (hy : ev E y = some aK) :
  Gives P n D E M ⟨d,.call ⟨.builtin .copy,[x,y].toArray,[T,T'].toArray⟩,ty,pos,aft,gd⟩ (I (0 : Nat)):=Gives.mk fun a w hs _=>by
 obtain ⟨j,hj1,_,_,_⟩:=t2.inf
 have h1:=run_copy_nil (P:=P) w T T' ty el ⟨b,o,none⟩ m c t1.und (by rw [hj1];rfl)
 have e1 : ([x,y].toArray.map a.eval) = #[.slice (some ⟨b,o,none⟩) m c,aK]:=by simp [hs.ev hx,hs.ev hy]
 simp only [execOp,resolve,e1,Sem.run_bind,Sem.run_pure,Result.andThen_ok,invoke,builtin,h1]
 rfl
theorem aa7 {T : TypeId} {x : Operand} {b o m c : Nat} (hx : ev E x = some (.slice (some ⟨b,o,none⟩) m c)) (hc : Nat.beq c 0 = false) : Gives P n D E M ⟨d,.call ⟨.builtin .unsafeSliceData,[x].toArray,[T].toArray⟩,ty,pos,aft,gd⟩ (Pt b o):=Gives.mk fun a w hs _=>by
 have h1:=Lib.run_unsafeSliceData_row (P:=P) w #[T] ty ⟨b,o,none⟩ m c (by rintro rfl;simp at hc)
 have e1 : ([x].toArray.map a.eval) = #[.slice (some ⟨b,o,none⟩) m c]:=by simp [hs.ev hx]
 simp only [execOp,resolve,e1,Sem.run_bind,Sem.run_pure,Result.andThen_ok,invoke,builtin,h1]
end
section
variable {P : Program} {n : Nat} {D : List Deferred} {E : bN} {B : Base} {G : Gh} {L : List Own} {K : Act → World → Prop} {Q : Exit → Act → World → Prop} {ty : TypeId} {pos : String} {aft : Array Edge} {gd : Option (Nat × Bool)} {d : Nat}
theorem St.freeze {w : World} {b m cap : Nat} {T : TypeId} {xs : List Value} (h : St B G (.acc (.slice (some ⟨b,0,none⟩) m cap) T 1 m xs :: L) w) (k : Nat) : St B G L (w.freeze ⟨b,0,none⟩ k):=by
 obtain ⟨h1,⟨h2,_⟩ | ⟨b',cap',rest,e,hc,hl,hb⟩⟩ : gV w _ T 1 m xs:=h.own _ List.mem_cons_self
 ·cases h2
 simp only [Value.slice.injEq,Option.some.injEq,Addr.mk.injEq,and_true,true_and] at e
 obtain ⟨rfl,rfl⟩:=e
 unfold World.freeze
 by_cases hk : k = 0
 ·rw [if_pos hk];exact h.weaken (List.sublist_cons_self _ _)
 ·rw [if_neg hk]
  have h2:=h.upd (y:=.blk b (.cells (xs ++ rest).toArray T (0,k))) (w':={ w with heap:=w.heap.modify b fun | .cells c elem (lo,hi)=>.cells c elem (if lo == hi then (0,0 + k) else (min lo 0,max hi (0 + k))) | o=>o }) (b:=b) rfl rfl (by
   show (w.heap.modify b _)[b]? = _
   rw [Array.getElem?_modify,if_pos rfl,hb]
   simp) (fun c hc=>by
    show (w.heap.modify b _)[c]? = _
    rw [Array.getElem?_modify,if_neg (fun e=>hc e.symm)]) rfl rfl rfl (by simp)
  exact h2.weaken (List.sublist_cons_self _ _)
class AccD (L : List Own) (b : Nat) (m cap : outParam Nat) (T : outParam TypeId) (sz : outParam Nat) (xs : outParam (List Value)) (L' : outParam (List Own)) : Prop where
 del : Del (.acc (.slice (some ⟨b,0,none⟩) m cap) T sz m xs) L L'
instance {b m cap : Nat} {T : TypeId} {sz : Nat} {xs : List Value} {r : List Own} : AccD (.acc (.slice (some ⟨b,0,none⟩) m cap) T sz m xs :: r) b m cap T sz xs r:=⟨.here⟩
instance {b m cap : Nat} {T : TypeId} {sz : Nat} {xs : List Value} {z : Own} {r r' : List Own} [h : AccD r b m cap T sz xs r'] : AccD (z :: r) b m cap T sz xs (z :: r'):=⟨.there h.del⟩
theorem abD {T T' el : TypeId} {x y : Operand} {b m cap s1 b1 s2 b2 : Nat} {z1 z2 : Value} {l : adB} {L' : List Own} [t1 : TI P T (.pointer el) s1 b1 z1] [t2 : TI P el (.int .u8) s2 b2 z2] [ha : AccD L b m cap el 1 (cE l) L']
  (hc1 : P.cellsOf el = 1) (hx : ev E x = some (Pt b 0)) (hy : ev E y = some (I (m : Nat))) (hlt : Nat.blt d n = true) (hm : m ≤ 9223372036854775807)
  (k : Nx n D ((d,S l) :: E) B G L' K) : Nx n D E B G L (ow P ⟨some d,.call ⟨.builtin .unsafeString,[x,y].toArray,[T,T'].toArray⟩,ty,pos,aft,gd⟩ Q K):=Nx.mk fun a w hs hw=>by
 have hw1:=hw.perm ha.del.perm
 have hat : gV w (.slice (some ⟨b,0,none⟩) m cap) el 1 m (cE l):=hw1.own _ List.mem_cons_self
 obtain ⟨h1,⟨h2,_⟩ | ⟨b',cap',rest,e,hc,hl,hb⟩⟩:=hat
 ·cases h2
 simp only [Value.slice.injEq,Option.some.injEq,Addr.mk.injEq,and_true,true_and] at e
 obtain ⟨rfl,rfl⟩:=e
 have hlm : l.length = m:=by simpa [cE] using h1
 have e1 : ([x,y].toArray.map a.eval) = #[.pointer (some ⟨b,0,none⟩),.int .i64 (m : Nat)]:=by simp [hs.ev hx,hs.ev hy]
 unfold ow Oper.wp
 by_cases h0 : l = []
 ·subst h0
  have hm0 : m = 0:=by simpa using hlm.symm
  subst hm0
  have hr:=Lib.run_unsafeString_none (P:=P) w T T' ty (some ⟨b,0,none⟩)
  have : (execOp a.eval ⟨some d,.call ⟨.builtin .unsafeString,[x,y].toArray,[T,T'].toArray⟩,ty,pos,aft,gd⟩).run P w = .ok (.value (S [])) w:=by
   simp only [execOp,resolve,e1,Sem.run_bind,Sem.run_pure,Result.andThen_ok,invoke,builtin]
   have hr' : (Builtin.unsafeString_ [T,T'].toArray ty #[.pointer (some ⟨b,0,none⟩),.int .i64 ((0 : Nat) : Int)]).run P w = .ok (.string .empty) w:=hr
   rw [hr'];rfl
  rw [this,Oper.upon_value]
  exact k.go _ w (hs.put (by simpa using hlt)) (hw1.weaken (List.sublist_cons_self _ _))
 ·have hcell : ∀ j x,l[j]? = some x → w.cell? ((⟨b,0,none⟩ : Addr).add j) = some (.int .u8 x.toNat):=fun j x hj=>by
   have hv : (cE l)[j]? = some (.int .u8 x.toNat):=by simp [cE,hj]
   rw [iV]
   exact ((gB (S:=St B G (.acc (.slice (some ⟨b,0,none⟩) m cap) el 1 m (cE l) :: L')) (m:=m) (cap:=cap) (T:=el) (sz:=1) (xs:=cE l) List.mem_cons_self).go j _ hv).go w hw1
  have hsh : w.shape? b = some (el,(cE l ++ rest).length):=by simp [World.shape?,hb]
  have hr:=Lib.run_unsafeString_row (P:=P) w T T' ty el t1.und hc1 b _ hsh l h0 (by simp [cE]) oM hcell
  have : (execOp a.eval ⟨some d,.call ⟨.builtin .unsafeString,[x,y].toArray,[T,T'].toArray⟩,ty,pos,aft,gd⟩).run P w = .ok (.value (S l)) (w.freeze ⟨b,0,none⟩ l.length):=by
   simp only [execOp,resolve,e1,Sem.run_bind,Sem.run_pure,Result.andThen_ok,invoke,builtin]
   have hr' : (Builtin.unsafeString_ [T,T'].toArray ty #[.pointer (some ⟨b,0,none⟩),.int .i64 (m : Nat)]).run P w = .ok (S l) (w.freeze ⟨b,0,none⟩ l.length):=by rw [← hlm];exact hr
   rw [hr'];rfl
  rw [this,Oper.upon_value]
  exact k.go _ _ (hs.put (by simpa using hlt)) (hw1.freeze _)
theorem mI (l : adB) : Lib.strCells ⟨l.toArray⟩ = cE l:=by simp [Lib.strCells,cE]
theorem zl {v : Value} {m : Nat} {T T2 el : TypeId} {s1 b1 s2 b2 : Nat} {z1 z2 : Value} {xs : List Value} {l : adB} {w : World} {R : List Own} [h1' : TI P T (.slice el) s1 b1 z1] [h2' : TI P T2 .string s2 b2 z2] [he : TI P el (.int .u8) 1 1 (.int .u8 0)]
  (hb : m + l.length ≤ 1000000000) (hw : St B G (.acc v el 1 m xs :: R) w) :
  ∃ v' w',(Builtin.append_ #[T,T2] ty #[v,S l]).run P w = .ok v' w' ∧ St B G (.acc v' el 1 (m + l.length) (xs ++ cE l) :: R) w' ∧ (v = aK → l = [] → v' = aK) ∧ ((v ≠ aK ∨ l ≠ []) → ∃ b cap,v' = .slice (some ⟨b,0,none⟩) (m + l.length) cap ∧ ((∀ p q,v ≠ .slice p q 0) ∨ l ≠ [] → 0 < cap)):=by
 obtain ⟨hxl,hacc⟩ : gV w v el 1 m xs:=hw.own _ List.mem_cons_self
 obtain ⟨ie,hi,hsz,hby,hze⟩:=he.inf
 have ht:=h1'.und
 have hu:=h2'.und
 have hss : (⟨l.toArray⟩ : ByteArray).size = l.length:=og l
 have hul : (cE l).length = l.length:=by simp [cE]
 have mk : ∀ nc,m + l.length ≤ nc →
   St B G (.acc (.slice (some ⟨w.heap.size,0,none⟩) (m + l.length) nc) el 1 (m + l.length) (xs ++ cE l) :: R) (w.drew.alloc (.cells (xs ++ cE l ++ cj [.int .u8 0] (nc - (m + l.length))).toArray el)):=by
  intro nc hnc
  have h2:=hw.drew.alloc (.cells (xs ++ cE l ++ cj [.int .u8 0] (nc - (m + l.length))).toArray el)
  have h3 : St B G (.blk w.drew.heap.size (.cells (xs ++ cE l ++ cj [.int .u8 0] (nc - (m + l.length))).toArray el) :: R) _:=h2.weaken (.cons_cons _ (List.sublist_cons_self _ _))
  refine h3.conv F ⟨by simp [hxl,hul],.inr ⟨_,nc,cj [.int .u8 0] (nc - (m + l.length)),F,hnc,?_,h3.own _ List.mem_cons_self⟩⟩
  simp only [List.length_append,hxl,hul,f6,List.length_cons,List.length_nil]
  omega
 have ez : (Builtin.zeroCells (Value.int .u8 0).cells) = fun k=>(cj [.int .u8 0] k).toArray:=by
  funext k;rw [← il];rfl
 rcases hacc with ⟨rfl,rfl⟩ | ⟨b,cap,rest,rfl,hmc,hrl,hblk⟩
 ·have hx0 : xs = []:=by simpa using hxl
  subst hx0
  by_cases hk : l = []
  ·subst hk
   refine ⟨aK,w,?_,by simpa [cE] using hw,fun _ _=>rfl,fun h=>by rcases h with h | h <;> exact absurd F h⟩
   have hf : (Builtin.firstCells 1 0 (S [])).run P w = .ok #[] w:=by
    have:=Lib.run_firstCells_string (P:=P) w 1 ⟨([] : adB).toArray⟩
    rw [og] at this;simpa [Lib.strCells] using this
   simp [Builtin.append_,run_underlying ht,run_underlying hu,sizeOf,typeInfo,hi,hsz,Builtin.lenOf,og,hf]
  ·have hpos : 0 < l.length:=List.length_pos_iff.2 hk
   have hr:=run_append_nil_string (P:=P) w T T2 ty el ie (.int .u8 0) ht hu hi hze ⟨l.toArray⟩ (by rw [hss];exact hpos) (by rw [hss];omega) (by rw [hss,hby];omega)
   rw [hss] at hr
   have hg:=grownCap_ge w l.length 0 el
   have:=mk (grownCap w l.length 0 el) (by simpa using hg)
   have e1 : (⟨l.toArray⟩ : ByteArray).data.map (fun b=>Value.int .u8 b.toNat) ++ Builtin.zeroCells (Value.int .u8 0).cells (grownCap w l.length 0 el - l.length) = (cE l ++ cj [.int .u8 0] (grownCap w l.length 0 el - l.length)).toArray:=by
    rw [ez];simp [cE]
   rw [e1] at hr
   simp only [Nat.zero_add,List.nil_append] at this ⊢
   exact ⟨_,_,hr,this,fun _ h=>absurd h hk,fun _=>⟨_,_,F,fun _=>by omega⟩⟩
 ·by_cases hfit : m + l.length ≤ cap
  ·have hr:=Lib.run_append_room_string (P:=P) w T T2 ty el ie ht hu hi hsz b m cap (xs ++ rest).toArray hblk ⟨l.toArray⟩ (by rw [hss];exact hfit) (by rw [hss];simp only [List.size_toArray];omega)
   have hcells : (List.take m (xs ++ rest) ++ cE l ++ List.drop (m + l.length) (xs ++ rest)) = xs ++ cE l ++ rest.drop l.length:=by
    have : m = xs.length:=oM
    rw [this];simp [List.drop_append]
   rw [hss,mI] at hr
   simp only [hcells] at hr
   refine ⟨_,_,hr,hw.upd (b:=b) F F ⟨by simp [hxl,hul],.inr ⟨b,cap,rest.drop l.length,F,hfit,?_,setRow_heap w b _ _ el _ hblk⟩⟩ (fun c hc=>setRow_other w b c _ hc) F F F (by simp),fun h=>(by cases h),fun _=>⟨b,cap,F,fun h=>?_⟩⟩
   ·simp only [List.length_append,List.length_drop] at *;omega
   ·rcases h with h | h
    ·rcases Nat.eq_zero_or_pos cap with h0 | h0
     ·subst h0;exact absurd F (h _ _)
     ·exact h0
    ·have:=List.length_pos_iff.2 h;omega
  ·have hnsc:=ir (m + l.length) cap oM
   have hold : ∀ j u,xs[j]? = some u → w.cell? ((⟨b,0,none⟩ : Addr).add j) = some u:=fun j u hj=>by
    rw [iV]
    exact ((gB (S:=St B G (.acc (.slice (some ⟨b,0,none⟩) m cap) el 1 m xs :: R)) (m:=m) (cap:=cap) (T:=el) (sz:=1) (xs:=xs) List.mem_cons_self).go j u hj).go w hw
   have hr:=Lib.run_append_grow_string (P:=P) w T T2 ty el ie (.int .u8 0) ht hu hi hze ⟨b,0,none⟩ m cap xs (by rw [hsz];simpa using hxl) hold ⟨l.toArray⟩ (by rw [hss];omega) (by rw [hss];omega) (by rw [hss,hby];omega)
   rw [hss,mI,ez] at hr
   have hg:=grownCap_ge w (m + l.length) cap el
   have:=mk (grownCap w (m + l.length) cap el) hg
   simp only [List.append_toArray] at hr this ⊢
   exact ⟨_,_,hr,this,fun h=>(by cases h),fun _=>⟨_,_,F,fun _=>by omega⟩⟩
theorem acQ {m b cap : Nat} {s x : Operand} {T T2 el : TypeId} {s1 b1 s2 b2 : Nat} {z1 z2 : Value} {xs : List Value} {l : adB} {L' : List Own} [TI P T (.slice el) s1 b1 z1] [TI P T2 .string s2 b2 z2] [TI P el (.int .u8) 1 1 (.int .u8 0)] [ha : AccI L (.slice (some ⟨b,0,none⟩) m (cap + 1)) el 1 m xs L']
  (hs : ev E s = some (.slice (some ⟨b,0,none⟩) m (cap + 1))) (hx : ev E x = some (S l)) (hlt : Nat.blt d n = true) (hb : m + l.length ≤ 1000000000)
  (kk : ∀ b' cap',Nx n D ((d,.slice (some ⟨b',0,none⟩) (m + l.length) (cap' + 1)) :: E) B G (.acc (.slice (some ⟨b',0,none⟩) (m + l.length) (cap' + 1)) el 1 (m + l.length) (xs ++ cE l) :: L') K) :
  Nx n D E B G L (ow P ⟨some d,.call ⟨.builtin .append,[s,x].toArray,[T,T2].toArray⟩,ty,pos,aft,gd⟩ Q K):=Nx.mk fun a w hsat hw=>by
 obtain ⟨v',w',hr,hst,_,h2⟩:=zl (P:=P) (ty:=ty) (T:=T) (T2:=T2) (el:=el) (s1:=s1) (b1:=b1) (z1:=z1) (s2:=s2) (b2:=b2) (z2:=z2) hb (hw.perm ha.del.perm)
 obtain ⟨b',cap',rfl,h3⟩:=h2 (.inl (by simp))
 obtain ⟨c,rfl⟩ : ∃ c,cap' = c + 1:=⟨cap' - 1,by have:=h3 (.inl (by simp));omega⟩
 have hrun : (execOp a.eval ⟨some d,.call ⟨.builtin .append,[s,x].toArray,[T,T2].toArray⟩,ty,pos,aft,gd⟩).run P w = .ok (.value (.slice (some ⟨b',0,none⟩) (m + l.length) (c + 1))) w':=by
  have e1 : ([s,x].toArray.map a.eval) = #[.slice (some ⟨b,0,none⟩) m (cap + 1),S l]:=by simp [hsat.ev hs,hsat.ev hx]
  simp only [execOp,resolve,e1,Sem.run_bind,Sem.run_pure,Result.andThen_ok,invoke,builtin,hr]
 unfold ow Oper.wp
 rw [hrun,Oper.upon_value]
 exact (kk b' c).go _ w' (hsat.put (by simpa using hlt)) hst
theorem acI {fo x : Operand} {ag : Array TypeId} {f : FuncId} {fn : Func} {t el : TypeId} {m : Nat} {ps : Array TypeId}
  (hf : ev E fo = some (.func (.func f) #[] #[])) (hx : ev E x = some (I (m : Nat))) (hlt : Nat.blt d n = true) (hfn : P.funcs[f]? = some fn) (hname : (fn.name == "runtime.NumGoroutine") = false) (hbd : fn.body.isNone = true) (hnx : Extern.findNext fn = none) (he : Extern.find fn = some (Extern.BytealgMakeNoZero.makeNoZero ps #[t])) (ht : P.underlying t = some (.slice el)) (hm : 0 < m ∧ m ≤ 1000000000)
  (k : ∀ b cap,m ≤ cap + 1 → Nx n D ((d,.slice (some ⟨b,0,none⟩) m (cap + 1)) :: E) B G (.acc (.slice (some ⟨b,0,none⟩) 0 (cap + 1)) el 1 0 [] :: L) K) : Nx n D E B G L (ow P ⟨some d,.call ⟨.value fo,[x].toArray,ag⟩,ty,pos,aft,gd⟩ Q K):=Nx.mk fun a w hs hw=>by
 obtain ⟨cs,hr,hcs,_⟩:=Lib.run_makeNoZero (P:=P) w ps t el ht m oM
 have e1 : ([x].toArray.map a.eval) = #[.int .i64 (m : Nat)]:=by simp [hs.ev hx]
 have hrun : (execOp a.eval ⟨some d,.call ⟨.value fo,[x].toArray,ag⟩,ty,pos,aft,gd⟩).run P w = .ok (.value (.slice (some ⟨w.heap.size,0,none⟩) m cs.size)) (w.drew.drew.alloc (.cells cs el)):=by
  simp only [execOp,resolve,hs.ev hf,e1,Deferred.ofValue,Sem.run_bind,Sem.run_pure,Result.andThen_ok,invoke]
  rw [show (#[] ++ #[Value.int .i64 (m : Nat)] ++ #[] : Array Value) = #[Value.int .i64 (m : Nat)] from rfl,run_callFunc_extern hfn hname hbd hnx he,hr]
  rfl
 unfold ow Oper.wp
 rw [hrun,Oper.upon_value]
 have h1:=hw.drew.drew.alloc (.cells cs el)
 obtain ⟨c,hc⟩ : ∃ c,cs.size = c + 1:=⟨cs.size - 1,oM⟩
 have h2 : St B G (.acc (.slice (some ⟨w.heap.size,0,none⟩) 0 (c + 1)) el 1 0 [] :: L) (w.drew.drew.alloc (.cells cs el)):=h1.conv rfl ⟨rfl,.inr ⟨w.heap.size,c + 1,cs.toList,rfl,Nat.zero_le _,by simp [hc],h1.own _ List.mem_cons_self⟩⟩
 rw [hc]
 exact (k w.heap.size c oM).go _ _ (hs.put (by simpa using hlt)) h2
end
def ff (P : Program) (f : FuncId) (args : List Value) (G : Gh) (L : List Own) (R : Value → Gh → List Own → Prop) : Prop:=Fn P f args G L (fun v G' L'=>Gh.le G G' ∧ R v G' L')
section
variable {P : Program} {n : Nat} {D : List Deferred} {E : bN} {B : Base} {G : Gh} {L : List Own} {K : Act → World → Prop} {Q : Exit → Act → World → Prop}
theorem eI {fo : Operand} {l : List Operand} {ag : Array TypeId} {d : Nat} {ty : TypeId} {pos : String} {aft : Array Edge} {g : Option (Nat × Bool)} {f : FuncId} {fi ca az vs : List Value} {b : Nat} {cs : List Value} {T : TypeId} {R : List Own} {Post : Value → Gh → List Own → Prop}
  [hd : DelB L b cs T R] (hf : ev E fo = some (.func (.func f) fi.toArray ca.toArray)) (ha : evs E l = some az) (hv : fi ++ az ++ ca = vs) (hc : ff P f vs G [.blk b (.cells cs.toArray T (0,0))] Post) (hlt : Nat.blt d n = true)
  (k : ∀ v G' L',Gh.le G G' → Post v G' L' → Nx n D ((d,v) :: E) B G' (L' ++ R) K) : Nx n D E B G L (ow P ⟨some d,.call ⟨.value fo,l.toArray,ag⟩,ty,pos,aft,g⟩ Q K) :=
 abN hf ha hv hc hlt fun v G' L' h=>k v G' L' h.1 h.2
theorem bK {f : FuncId} {fn : Func} {c : Code} {args : List Value} {R : Value → Gh → List Own → Prop} (E0 : bN) (hf : P.funcs[f]? = some fn) (hok : e7 P f = true) (hn : fn.ntmps = n) (hb : fn.body = some c)
  (hlen : Nat.ble args.length n = true) (hE : iG E0 (params 0 args))
  (h : ∀ B,B.G = G → B.W = cO L → Nx n [] E0 B G L (cu P (.code c) [] (bp P fn (fc B (fun v G' L'=>Gh.le G G' ∧ R v G' L'))))) : ff P f args G L R:=vd E0 hf hok hn hb hlen hE h
end
def aaJ (n : Nat) (cs : List Value) : Bool:=cs.all fun v=>match v with | .string b=>Nat.ble b.size n | _=>false
section
variable {P : Program} {n : Nat} {D : List Deferred} {E : bN} {B : Base} {G : Gh} {L : List Own} {K : Act → World → Prop} {Q : Exit → Act → World → Prop}
theorem gC (m : Nat) {T T0 : TypeId} {x : Operand} {desc : TypeDesc} {size bytes : Nat} {zero : Value} {b o d : Nat} {cs : List Value} {fr : Nat × Nat} {ty : TypeId} {pos : String} {aft : Array Edge} {g : Option (Nat × Bool)} [TI P T desc size bytes zero] [h : BlkI L b cs T0 fr] (hx : ev E x = some (Pt b o)) (ha : dJ desc = false) (hlt : Nat.blt d n = true) (ho : o < cs.length) (hs : aaJ m cs = true)
  (k : ∀ l : adB,l.length ≤ m → Nx n D ((d,S l) :: E) B G L K) : Nx n D E B G L (ow P ⟨some d,.load T x,ty,pos,aft,g⟩ Q K) :=
 yW hx ha hlt ho fun v hv=>by
  have h1:=List.all_eq_true.1 hs v hv
  split at h1
  ·rename_i b
   have e : Value.string b = S b.data.toList:=by simp [S]
   rw [e]
   exact k _ (by rw [Array.length_toList];exact Nat.le_of_ble_eq_true h1)
  ·cases h1
def li (m : Int) : List Value → Prop
 | []=>True
 | v :: r=>(∃ i : Int,v = I i ∧ 0 ≤ i ∧ i ≤ m) ∧ li m r
theorem pN {m : Int} : ∀ {cs : List Value},li m cs → ∀ v ∈ cs,∃ i : Int,v = I i ∧ 0 ≤ i ∧ i ≤ m
 | [],_,_,h=>absurd h (by simp)
 | w :: r,h,v,hv=>by
  rcases List.mem_cons.1 hv with rfl | hv
  ·exact h.1
  ·exact pN h.2 v hv
theorem vI {m : Int} : li m []:=trivial
theorem uf {m i : Int} {r : List Value} (h : 0 ≤ i ∧ i ≤ m) (h2 : li m r) : li m (I i :: r):=⟨⟨i,rfl,h.1,h.2⟩,h2⟩
theorem abP (m : Int) {T T0 : TypeId} {x : Operand} {desc : TypeDesc} {size bytes : Nat} {zero : Value} {b o d : Nat} {cs : List Value} {fr : Nat × Nat} {ty : TypeId} {pos : String} {aft : Array Edge} {g : Option (Nat × Bool)} [TI P T desc size bytes zero] [h : BlkI L b cs T0 fr] (hx : ev E x = some (Pt b o)) (ha : dJ desc = false) (hlt : Nat.blt d n = true) (ho : o < cs.length) (hs : li m cs)
  (k : ∀ i : Int,0 ≤ i → i ≤ m → Nx n D ((d,I i) :: E) B G L K) : Nx n D E B G L (ow P ⟨some d,.load T x,ty,pos,aft,g⟩ Q K) :=
 yW hx ha hlt ho fun v hv=>by
  obtain ⟨i,rfl,h0,h1⟩:=pN hs v hv
  exact k i h0 h1
end
theorem PutsR.app {cs vs cs' : List Value} {o : Nat} (h : PutsR cs o vs cs') (rest : List Value) : PutsR (cs ++ rest) o vs (cs' ++ rest):=by
 induction h with
 | nil=>exact .nil
 | here _ ih=>exact .here ih
 | there _ ih=>exact .there ih
theorem PutsR.len {cs vs cs' : List Value} {o : Nat} (h : PutsR cs o vs cs') : cs'.length = cs.length:=by
 induction h with
 | nil=>rfl
 | here _ ih=>simp [ih]
 | there _ ih=>simp [ih]
class UpdA (b : Nat) (xs' : List Value) (L : List Own) (m cap : outParam Nat) (T0 : outParam TypeId) (sz : outParam Nat) (xs : outParam (List Value)) (L' : outParam (List Own)) : Prop where
 upd : UpdO (.acc (.slice (some ⟨b,0,none⟩) m cap) T0 sz m xs) (.acc (.slice (some ⟨b,0,none⟩) m cap) T0 sz m xs') L L'
instance {b m cap : Nat} {T0 : TypeId} {sz : Nat} {xs xs' : List Value} {r : List Own} : UpdA b xs' (.acc (.slice (some ⟨b,0,none⟩) m cap) T0 sz m xs :: r) m cap T0 sz xs (.acc (.slice (some ⟨b,0,none⟩) m cap) T0 sz m xs' :: r):=⟨.here⟩
instance {b m cap : Nat} {T0 : TypeId} {sz : Nat} {xs xs' : List Value} {z : Own} {r r' : List Own} [h : UpdA b xs' r m cap T0 sz xs r'] : UpdA b xs' (z :: r) m cap T0 sz xs (z :: r'):=⟨.there h.upd⟩
section
variable {P : Program} {n : Nat} {D : List Deferred} {E : bN} {B : Base} {G : Gh} {L : List Own} {K : Act → World → Prop} {Q : Exit → Act → World → Prop} {ty : TypeId} {pos : String} {aft : Array Edge} {gd : Option (Nat × Bool)} {dd : Nat}
theorem qM {T T0 : TypeId} {x y : Operand} {desc : TypeDesc} {size bytes sz m cap : Nat} {zero v : Value} {b o : Nat} {xs vs xs' : List Value} {L' : List Own} [TI P T desc size bytes zero] (hx : ev E x = some (Pt b o)) (hy : ev E y = some v) (hv : v.cells = vs.toArray)
  (hl : Nat.beq vs.length size = true) (hne : vs.isEmpty = false) (h1 : er vs = true) (hu : UpdO (.acc (.slice (some ⟨b,0,none⟩) m cap) T0 sz m xs) (.acc (.slice (some ⟨b,0,none⟩) m cap) T0 sz m xs') L L') (hp : PutsR xs o vs xs')
  (k : Nx n D E B G L' K) : Nx n D E B G L (ow P ⟨none,.store T x y,ty,pos,aft,gd⟩ Q K):=Nx.mk fun a w hs hw=>by
 unfold ow Oper.wp
 obtain ⟨R,hp1,hp2⟩:=hu.split
 have hw':=hw.perm hp1
 obtain ⟨hxl,⟨h,_⟩ | ⟨b',cap',rest,h,hmc,hrl,hblk⟩⟩ : gV w _ T0 sz m xs:=hw'.own _ List.mem_cons_self
 ·cases h
 simp only [Value.slice.injEq,Option.some.injEq,Addr.mk.injEq] at h
 obtain ⟨⟨rfl,_,_⟩,_,rfl⟩:=h
 have hst:=iL (P:=P) (o:=o) vs (xs ++ rest) (xs' ++ rest) 0 w hblk (by simpa using hp.app rest) h1
 rcases hst with hst | ⟨rfl,_⟩
 ·have hsz : v.cells.size = size:=by rw [hv];simpa using hl
  have : (execOp a.eval ⟨none,.store T x y,ty,pos,aft,gd⟩).run P w = .ok .skip (setBlk w b (.cells (xs' ++ rest).toArray T0 (0,0))):=by
   simp [execOp,hs.ev hx,hs.ev hy,Instr.storeAt,Instr.sureAddr,storeVar,dR (T:=T) (desc:=desc) (size:=size) (bytes:=bytes) (zero:=zero),hsz]
   rw [hv];simp [hst]
  rw [this,Oper.upon_skip]
  refine k.go _ _ hs (St.perm ?_ hp2)
  have hlt : b < w.heap.size:=(Array.getElem?_eq_some_iff.1 hblk).1
  refine hw'.upd (b:=b) F F ⟨by rw [hp.len];exact hxl,.inr ⟨b,cap,rest,F,hmc,by rw [List.length_append,hp.len,← List.length_append];exact hrl,?_⟩⟩ (fun c hc=>?_) F F F (by simp [setBlk])
  ·rw [gP,if_pos rfl,if_pos hlt]
  ·rw [gP,if_neg (Ne.symm hc)]
 ·simp at hne
theorem xf {src : Value} {k sz : Nat} {s x : Operand} {T el : TypeId} {desc : TypeDesc} {size bytes s1 b1 : Nat} {z1 zero : Value} {zs news : List Value} [TI P T (.slice el) s1 b1 z1] [TI P el desc size bytes zero]
  (hs : ev E s = some aK) (hx : ev E x = some src) (hsrc : aT G src sz k news) (he : Nat.beq sz size = true) (h1 : er news = true)
  (hz : eP zero = some zs) (hzl : Nat.beq zs.length size = true) (hb0 : Nat.beq bytes 0 = false) (hlt : Nat.blt dd n = true) (hk : 0 < k) (hb : (2 * k + 768) * bytes ≤ 281474976710656)
  (kk : ∀ b' c',Nx n D ((dd,.slice (some ⟨b',0,none⟩) k c') :: E) B G (.acc (.slice (some ⟨b',0,none⟩) k c') el size k news :: L) K) :
  Nx n D E B G L (ow P ⟨some dd,.call ⟨.builtin .append,[s,x].toArray,[T,T].toArray⟩,ty,pos,aft,gd⟩ Q K):=by
 have:=Nat.eq_of_beq_eq_true he;subst this
 exact rR hs hx hsrc.src h1 (eV hz) hzl hb0 hb hlt fun v'=>Nx.shp (.head _) fun hsh=>by
  obtain ⟨b',c',rfl⟩:=hsh.pos oM
  exact kk b' c'
end
theorem jg {α : Type} (f : α → List Value) (a : α) (l : List α) : ah f (a :: l) = f a ++ ah f l:=by simp [ah]
theorem lJ {α : Type} (f : α → List Value) (a b : List α) : ah f (a ++ b) = ah f a ++ ah f b:=by simp [ah]
section
variable {P : Program} {n : Nat} {D : List Deferred} {E : bN} {B : Base} {G : Gh} {L : List Own} {K : Act → World → Prop} {Q : Exit → Act → World → Prop} {ty : TypeId} {pos : String} {aft : Array Edge} {gd : Option (Nat × Bool)} {dd : Nat}
theorem abG {α : Type} {f : α → List Value} {cs : List α} {c : α} {i : Nat} {T T0 : TypeId} {x y : Operand} {desc : TypeDesc} {sz bytes b o m cap : Nat} {zero : Value} {xs : List Value} {L' : List Own} [TI P T desc sz bytes zero] [RowF f sz] [hu : UpdA b (ah f (cs.set i c)) L m cap T0 sz xs L']
  (hx : ev E x = some (Pt b o)) (hy : ev E y = some (Ag (f c))) (h1 : er (f c) = true) (hxs : xs = ah f cs) (hs0 : Nat.blt 0 sz = true) (ho : o = i * sz) (hi : i < cs.length)
  (k : Nx n D E B G L' K) : Nx n D E B G L (ow P ⟨none,.store T x y,ty,pos,aft,gd⟩ Q K):=by
 have hl : (f c).length = sz:=RowF.len c
 have hs0 : 0 < sz:=by simpa using hs0
 have hne : f c ≠ []:=fun h=>by rw [h] at hl;simp at hl;omega
 refine qM (vs:=f c) hx hy F (by rw [hl];simp) (by cases hfc : f c with | nil=>exact absurd hfc hne | cons=>rfl) h1 hu.upd ?_ k
 subst hxs
 have e1 : cs = cs.take i ++ cs[i] :: cs.drop (i + 1):=by rw [List.getElem_cons_drop,List.take_append_drop]
 have e2 : cs.set i c = cs.take i ++ c :: cs.drop (i + 1):=by rw [List.set_eq_take_append_cons_drop,if_pos hi]
 have hlen:=cN (f:=f) (cs.take i)
 rw [List.length_take,Nat.min_eq_left oM] at hlen
 have e3 : ah f cs = ah f (cs.take i) ++ (f cs[i] ++ ah f (cs.drop (i + 1))):=by rw [← jg,← lJ,← e1]
 rw [e2,ho,← hlen,e3,lJ,jg]
 exact g9 (ah f (cs.take i)) (by rw [hl];exact RowF.len _) hne
end
def lb (o cap m sz : Nat) : Nat:=if cap = m then o else o + m * sz
section
variable {P : Program} {n : Nat} {D : List Deferred} {E : bN} {M : World → Prop} {d : Option Nat} {ty : TypeId} {pos : String} {aft : Array Edge} {gd : Option (Nat × Bool)}
theorem pQ {T el : TypeId} {x lo : Operand} {desc' : TypeDesc} {size bytes size' bytes' : Nat} {zero zero' : Value} {k : IntKind} {m : Int} {b o len cap : Nat} [TI P T (.slice el) size bytes zero] [TI P el desc' size' bytes' zero']
  (hx : ev E x = some (.slice (some ⟨b,o,none⟩) len cap)) (hl : ev E lo = some (.int k m)) (h0 : 0 ≤ m ∧ m ≤ len) :
  Gives P n D E M ⟨d,.slice T x (some lo) none none,ty,pos,aft,gd⟩ (.slice (some ⟨b,lb o cap m.toNat size',none⟩) (len - m.toNat) (cap - m.toNat)):=Gives.mk fun a w hs _=>by
 simp only [execOp,hs.ev hx,Option.map_some,Option.map_none,hs.ev hl,Instr.sliceAt,Instr.slice,Sem.run_bind,cF (desc:=.slice el) (size:=size) (bytes:=bytes) (zero:=zero),Result.andThen_ok,Instr.sliceBounds,Sem.run_pure,
  dE (P:=P) (m:=m) (y:=len) h0,dR (desc:=desc') (size:=size') (bytes:=bytes') (zero:=zero')]
 unfold lb
 by_cases hc : cap = m.toNat
 ·simp [hc]
 ·rw [if_neg hc,if_neg hc]
  by_cases hz : m.toNat * size' = 0 <;> simp [Addr.add,hz]
end
theorem aT.cutAt {G : Gh} {b o len cap sz m : Nat} {xs : List Value} (h : aT G (.slice (some ⟨b,o,none⟩) len cap) sz len xs) (hm : m ≤ len) : aT G (.slice (some ⟨b,lb o cap m sz,none⟩) (len - m) (cap - m)) sz (len - m) (xs.drop (m * sz)):=by
 obtain ⟨h1,⟨h2,_⟩ | ⟨b',o',cap',e,hc,hs⟩⟩:=h
 ·cases h2
 simp only [Value.slice.injEq,Option.some.injEq,Addr.mk.injEq] at e
 obtain ⟨⟨rfl,rfl,_⟩,_,rfl⟩:=e
 refine ⟨by rw [List.length_drop,h1,Nat.sub_mul],.inr ⟨b,_,_,F,oM,?_⟩⟩
 obtain ⟨cs,h3,h4⟩:=hs
 refine ⟨cs,h3,fun i v hv=>?_⟩
 rw [List.getElem?_drop] at hv
 unfold lb
 split
 ·rename_i hcm
  have h5:=(List.getElem?_eq_some_iff.1 hv).1
  have h6 : len = m:=oM
  rw [h1,h6] at h5
  omega
 ·have:=h4 _ v hv
  rwa [← Nat.add_assoc] at this
def bpD (P : Program) (fn : Func) (R : Ending → World → Prop) : Exit → Act → World → Prop
 | .normal,a,w | .ret,a,w=>Leaves P fn a.tmps R a.defers .returning w
 | .outgrown,_,w=>R .outgrown w
 | _,_,_=>False
instance {P : Program} {fn : Func} {R : Ending → World → Prop} : PQ (bpD P fn R):=⟨fun _ _ _ _ _ h=>h⟩
structure FnD (P : Program) (f : FuncId) (args : List Value) (G : Gh) (L : List Own) (Post : Value → Gh → List Own → Prop) : Prop where
 ok : e7 P f = true
 go : ∀ w,St ⟨w,G,cO L⟩ G L w → CallsD P f args.toArray .returning w fun e u w'=>u = .returning ∧ fc ⟨w,G,cO L⟩ Post e w'
section
variable {P : Program} {n : Nat} {D : List Deferred} {E : bN} {B : Base} {G : Gh} {L : List Own} {K : Act → World → Prop} {Q : Exit → Act → World → Prop}
end
attribute [irreducible] bpD
section
variable {P : Program} {n : Nat} {D : List Deferred} {E : bN} {B : Base} {G : Gh} {L : List Own} {K : Act → World → Prop} {Q : Exit → Act → World → Prop} {ty : TypeId} {pos : String} {aft : Array Edge} {gd : Option (Nat × Bool)}
theorem d5 {T T0 : TypeId} {x y : Operand} {desc : TypeDesc} {size bytes sz m cap : Nat} {zero v : Value} {b o : Nat} {xs ys zs vs : List Value} {L' : List Own} [TI P T desc size bytes zero] [AccB L b m cap T0 sz xs] (hx : ev E x = some (Pt b o)) (hy : ev E y = some v) (hv : v.cells = vs.toArray)
  (hl : Nat.beq vs.length size = true) (hne : vs.isEmpty = false) (h1 : er vs = true) (hxs : xs = ys ++ zs) (hz : Nat.beq zs.length vs.length = true) (hu : UpdA b (ys ++ vs) L m cap T0 sz xs L') (ho : o = ys.length)
  (k : Nx n D E B G L' K) : Nx n D E B G L (ow P ⟨none,.store T x y,ty,pos,aft,gd⟩ Q K):=by
 refine qM hx hy hv hl hne h1 hu.upd ?_ k
 subst hxs ho
 have:=g9 ys (vs:=vs) (z:=zs) (r:=[]) (Nat.eq_of_beq_eq_true hz) (by intro h;rw [h] at hne;cases hne)
 simpa using this
end
section
variable {P : Program} {n : Nat} {D : List Deferred} {E : bN} {B : Base} {G : Gh} {L : List Own} {K : Act → World → Prop} {Q : Exit → Act → World → Prop} {ty : TypeId} {pos : String} {aft : Array Edge}
theorem gF {fo : Operand} {l : List Operand} {ag : Array TypeId} {d : Nat} {g : Option (Nat × Bool)} {f : FuncId} {fi ca az vs : List Value} {xs : List Value} {el : TypeId} {u : Value} {sz m : Nat} {R : List Own} {Post : Value → List Own → Prop}
  [ha2 : AccI L u el sz m xs R] (hf : ev E fo = some (.func (.func f) fi.toArray ca.toArray)) (ha : evs E l = some az) (hv : fi ++ az ++ ca = vs) (hc : dO P f vs G [.acc u el sz m xs] Post) (hlt : Nat.blt d n = true)
  (k : ∀ v L',Post v L' → Nx n D ((d,v) :: E) B G (L' ++ R) K) : Nx n D E B G L (ow P ⟨some d,.call ⟨.value fo,l.toArray,ag⟩,ty,pos,aft,g⟩ Q K) :=
 iC (Lp:=[.acc u el sz m xs]) hf ha hv hc ha2.del.perm hlt fun v G' L' h=>by obtain ⟨rfl,h⟩:=h;exact k v L' h
end
section
variable {P : Program} {n : Nat} {D : List Deferred} {E : bN} {M : World → Prop} {d : Option Nat} {ty : TypeId} {pos : String} {aft : Array Edge} {gd : Option (Nat × Bool)}
theorem acn {T el : TypeId} {x hi mx : Operand} {desc' : TypeDesc} {size bytes size' bytes' : Nat} {zero zero' : Value} {k k' : IntKind} {m m2 : Int} {p : Option Addr} {len cap : Nat} [TI P T (.slice el) size bytes zero] [TI P el desc' size' bytes' zero']
  (hx : ev E x = some (.slice p len cap)) (hl : ev E hi = some (.int k m)) (hm : ev E mx = some (.int k' m2)) (h0 : 0 ≤ m ∧ m ≤ m2 ∧ m2 ≤ cap) :
  Gives P n D E M ⟨d,.slice T x none (some hi) (some mx),ty,pos,aft,gd⟩ (.slice p m.toNat m2.toNat):=Gives.mk fun a w hs _=>by
 have e1:=fun w=>dE (P:=P) (m:=m2) (y:=cap) (k:=k') (w:=w) (code:=.slice3Acap) ⟨oM,h0.2.2⟩
 have e2:=fun w=>dE (P:=P) (m:=m) (y:=m2.toNat) (k:=k) (w:=w) (code:=.slice3B) ⟨h0.1,oM⟩
 simp only [execOp,hs.ev hx,Option.map_some,Option.map_none,hs.ev hl,hs.ev hm,Instr.sliceAt,Instr.slice,Sem.run_bind,cF (desc:=.slice el) (size:=size) (bytes:=bytes) (zero:=zero),Result.andThen_ok,Instr.sliceBounds,Sem.run_pure,
  e1,e2,dR (desc:=desc') (size:=size') (bytes:=bytes') (zero:=zero'),if_true]
 by_cases hc : m2.toNat = 0
 ·simp [hc]
 ·rw [if_neg hc]
  cases p <;> simp [Addr.add]
end
section
variable {P : Program} {n : Nat} {D : List Deferred} {E : bN} {B : Base} {G : Gh} {L : List Own} {K : Act → World → Prop} {Q : Exit → Act → World → Prop} {ty : TypeId} {pos : String} {aft : Array Edge} {gd : Option (Nat × Bool)} {dd : Nat}
theorem abU {p : Option Addr} {m k b c c0 sz : Nat} {s x : Operand} {T el T0 : TypeId} {desc : TypeDesc} {size bytes s1 b1 : Nat} {z1 zero : Value} {zs xs news : List Value} {fr : Nat × Nat} [h1' : TI P T (.slice el) s1 b1 z1] [he : TI P el desc size bytes zero] [hb' : BlkI L b news T0 fr]
  (hs : ev E s = some (.slice p m m)) (hx : ev E x = some (.slice (some ⟨b,0,none⟩) k c)) (hsl : aT G (.slice p m c0) sz m xs) (hsz : Nat.beq sz size = true) (hl : Nat.beq news.length (k * size) = true) (h1 : er news = true)
  (hz : eP zero = some zs) (hzl : Nat.beq zs.length size = true) (hb0 : Nat.beq bytes 0 = false) (hlt : Nat.blt dd n = true) (hk : Nat.blt 0 k = true) (hb : (2 * (m + k) + 768) * bytes ≤ 281474976710656)
  (kk : ∀ b' c',Nx n D ((dd,.slice (some ⟨b',0,none⟩) (m + k) c') :: E) B G (.acc (.slice (some ⟨b',0,none⟩) (m + k) c') el size (m + k) (xs ++ news) :: L) K) :
  Nx n D E B G L (ow P ⟨some dd,.call ⟨.builtin .append,[s,x].toArray,[T,T].toArray⟩,ty,pos,aft,gd⟩ Q K):=by
 have hsz:=Nat.eq_of_beq_eq_true hsz
 subst hsz
 have hk' : 0 < k:=by simpa using hk
 obtain ⟨hxl,⟨e1,e2⟩ | ⟨b',o',cap',e,hc,hseg⟩⟩:=hsl
 ·simp only [Value.slice.injEq] at e1
  obtain ⟨rfl,rfl,-⟩:=e1
  obtain rfl : xs = []:=by simpa using hxl
  refine rR hs hx (kH hl (en hb'.mem)) h1 (eV hz) hzl hb0 (by simpa using hb) hlt fun v'=>Nx.shp (.head _) fun hsh=>?_
  obtain ⟨b',c',rfl⟩:=hsh.pos oM
  have:=kk b' c'
  simpa using this
 ·simp only [Value.slice.injEq] at e
  obtain ⟨rfl,-,rfl⟩:=e
  obtain ⟨ie,hi,hie,hby,hze⟩:=he.inf
  have ht:=h1'.und
  have hnl : news.length = k * sz:=Nat.eq_of_beq_eq_true hl
  have hzl:=Nat.eq_of_beq_eq_true hzl
  refine Nx.mk fun a w hsat hw=>?_
  have hnsc:=ir (m + k) m oM
  have hroom : Builtin.nextslicecap (m + k) m * ie.bytes ≤ 281474976710656:=by
   have : Builtin.nextslicecap (m + k) m * bytes ≤ (2 * (m + k) + 768) * bytes:=Nat.mul_le_mul_right _ hnsc
   rw [hby];omega
  have hbne : bytes ≠ 0:=fun e=>by subst e;simp at hb0
  have hsmall : m + k ≤ 281474976710656:=by
   have : (2 * (m + k) + 768) * 1 ≤ (2 * (m + k) + 768) * bytes:=Nat.mul_le_mul_left _ oM
   omega
  have hold : ∀ j u,xs[j]? = some u → w.cell? ((⟨b',o',none⟩ : Addr).add j) = some u:=fun j u hj=>by
   rw [iV]
   exact ((eG (S:=St B G L) (G0:=G) (L0:=L) hseg).go j u hj).go w hw
  have hnews : ∀ j u,news[j]? = some u → w.cell? ((⟨b,0,none⟩ : Addr).add j) = some u:=fun j u hj=>by
   rw [iV]
   exact ((en (S:=St B G L) (G0:=G) (L0:=L) hb'.mem).go j u hj).go w hw
  have hr:=run_append_grow (P:=P) w T ty el ie zero ht hi hze ⟨b',o',none⟩ m m xs (by rw [hie];exact hxl) hold ⟨b,0,none⟩ k c news (by rw [hie];exact hnl) hnews oM oM hroom
  rw [eV hz,il] at hr
  have hst : St B G (.acc (.slice (some ⟨w.heap.size,0,none⟩) (m + k) (grownCap w (m + k) m el)) el sz (m + k) (xs ++ news) :: L) (w.drew.alloc (.cells (xs ++ news ++ cj zs (grownCap w (m + k) m el - (m + k))).toArray el)):=by
   have h2:=hw.drew.alloc (.cells (xs ++ news ++ cj zs (grownCap w (m + k) m el - (m + k))).toArray el)
   refine h2.conv F ⟨by simp [hxl,hnl,Nat.add_mul],.inr ⟨_,grownCap w (m + k) m el,cj zs (grownCap w (m + k) m el - (m + k)),F,grownCap_ge w (m + k) m el,?_,h2.own _ List.mem_cons_self⟩⟩
   simp only [List.length_append,hxl,hnl,f6,hzl]
   rw [← Nat.add_mul,← Nat.add_mul];congr 1
   have:=grownCap_ge w (m + k) m el
   omega
  have hrun : (execOp a.eval ⟨some dd,.call ⟨.builtin .append,[s,x].toArray,[T,T].toArray⟩,ty,pos,aft,gd⟩).run P w = .ok (.value (.slice (some ⟨w.heap.size,0,none⟩) (m + k) (grownCap w (m + k) m el))) (w.drew.alloc (.cells (xs ++ news ++ cj zs (grownCap w (m + k) m el - (m + k))).toArray el)):=by
   have e1 : ([s,x].toArray.map a.eval) = #[.slice (some ⟨b',o',none⟩) m m,.slice (some ⟨b,0,none⟩) k c]:=by simp [hsat.ev hs,hsat.ev hx]
   simp only [List.append_toArray] at hr
   simp only [execOp,resolve,e1,Sem.run_bind,Sem.run_pure,Result.andThen_ok,invoke,builtin,hr]
  unfold ow Oper.wp
  rw [hrun,Oper.upon_value]
  exact (kk _ _).go _ _ (hsat.put (by simpa using hlt)) hst
theorem acR {p : Option Addr} {m k b c c0 sz : Nat} {s x : Operand} {T el T0 : TypeId} {desc : TypeDesc} {size bytes s1 b1 : Nat} {z1 zero : Value} {zs xs news : List Value} {fr : Nat × Nat} [h1' : TI P T (.slice el) s1 b1 z1] [he : TI P el desc size bytes zero] [hb' : BlkI L b news T0 fr]
  (hs : ev E s = some (.slice p m m)) (hx : ev E x = some (.slice (some ⟨b,0,none⟩) k c)) (hsl : aT G (.slice p m c0) sz m xs) (hsz : Nat.beq sz size = true) (hl : Nat.beq news.length (k * size) = true) (h1 : er news = true)
  (hz : eP zero = some zs) (hzl : Nat.beq zs.length size = true) (hb0 : Nat.beq bytes 0 = false) (hlt : Nat.blt dd n = true) (hk : Nat.blt 0 k = true) (hb : (2 * (m + k) + 768) * bytes ≤ 281474976710656)
  (kk : ∀ b' c' G2,Gh.le G G2 → aT G2 (.slice (some ⟨b',0,none⟩) (m + k) c') sz (m + k) (xs ++ news) → Nx n D ((dd,.slice (some ⟨b',0,none⟩) (m + k) c') :: E) B G2 L K) :
  Nx n D E B G L (ow P ⟨some dd,.call ⟨.builtin .append,[s,x].toArray,[T,T].toArray⟩,ty,pos,aft,gd⟩ Q K) :=
 abU hs hx hsl hsz hl h1 hz hzl hb0 hlt hk hb fun b' c'=>Nx.sealA .here fun G2 hG2 h=>kk b' c' G2 hG2 (by have:=Nat.eq_of_beq_eq_true hsz;subst this;exact h)
end
open Go.Proofs
abbrev bF : Value:=.bool false
abbrev u0 : Value:=.int .u8 0
noncomputable abbrev adA : Program:=Tryz.prog
instance ti2 : TI adA 2 (.int .i64) 1 8 (.int .i64 0):=TI.mk' kR kR kR
instance ti3 : TI adA 3 (.int .i64) 1 8 (.int .i64 0):=TI.mk' kR kR kR
instance ti4 : TI adA 4 .bool 1 1 (.bool false):=TI.mk' kR kR kR
instance ti5 : TI adA 5 (.int .u8) 1 1 (.int .u8 0):=TI.mk' kR kR kR
instance ti6 : TI adA 6 (.int .u8) 1 1 (.int .u8 0):=TI.mk' kR kR kR
instance ti7 : TI adA 7 (.struct (cd adA 7)) 4 24 (Ag [(.int .i64 0),(.int .i64 0),(.bool false),(.int .u8 0)]):=TI.mk' kR kR kR
instance ti8 : TI adA 8 (.struct (cd adA 8)) 4 24 (Ag [(.int .i64 0),(.int .i64 0),(.bool false),(.int .u8 0)]):=TI.mk' kR kR kR
instance ti9 : TI adA 9 .string 1 16 (S []):=TI.mk' kR kR kR
instance ti12 : TI adA 12 (.int .u64) 1 8 (.int .u64 0):=TI.mk' kR kR kR
instance ti13 : TI adA 13 (.struct (cd adA 13)) 2 24 (Ag [(S []),(.int .u64 0)]):=TI.mk' kR kR kR
instance ti14 : TI adA 14 (.struct (cd adA 14)) 2 24 (Ag [(S []),(.int .u64 0)]):=TI.mk' kR kR kR
instance ti17 : TI adA 17 (.pointer 262) 1 8 (.pointer none):=TI.mk' kR kR kR
instance ti18 : TI adA 18 (.struct (cd adA 18)) 1 8 (Ag [(.pointer none)]):=TI.mk' kR kR kR
instance ti19 : TI adA 19 (.struct (cd adA 19)) 1 8 (Ag [(.pointer none)]):=TI.mk' kR kR kR
instance ti22 : TI adA 22 (.slice 55) 1 24 aK:=TI.mk' kR kR kR
instance ti28 : TI adA 28 (.slice 5) 1 24 aK:=TI.mk' kR kR kR
instance ti35 : TI adA 35 (.slice 42) 1 24 aK:=TI.mk' kR kR kR
instance ti36 : TI adA 36 (.struct (cd adA 36)) 2 40 (Ag [(S []),aK]):=TI.mk' kR kR kR
instance ti37 : TI adA 37 (.struct (cd adA 37)) 2 40 (Ag [(S []),aK]):=TI.mk' kR kR kR
instance ti41 : TI adA 41 (.struct (cd adA 41)) 3 48 (Ag [(S []),(S []),(S [])]):=TI.mk' kR kR kR
instance ti42 : TI adA 42 (.struct (cd adA 42)) 3 48 (Ag [(S []),(S []),(S [])]):=TI.mk' kR kR kR
instance ti46 : TI adA 46 (.slice 134) 1 24 aK:=TI.mk' kR kR kR
instance ti47 : TI adA 47 (.pointer 159) 1 8 (.pointer none):=TI.mk' kR kR kR
instance ti51 : TI adA 51 (.slice 3) 1 24 aK:=TI.mk' kR kR kR
instance ti54 : TI adA 54 (.struct (cd adA 54)) 2 32 (Ag [(S []),(S [])]):=TI.mk' kR kR kR
instance ti55 : TI adA 55 (.struct (cd adA 55)) 2 32 (Ag [(S []),(S [])]):=TI.mk' kR kR kR
instance ti56 : TI adA 56 (.pointer 114) 1 8 (.pointer none):=TI.mk' kR kR kR
instance ti57 : TI adA 57 (.struct (cd adA 57)) 3 48 (Ag [(S []),(S []),(S [])]):=TI.mk' kR kR kR
instance ti58 : TI adA 58 (.struct (cd adA 58)) 3 48 (Ag [(S []),(S []),(S [])]):=TI.mk' kR kR kR
instance ti59 : TI adA 59 (.slice 61) 1 24 aK:=TI.mk' kR kR kR
instance ti60 : TI adA 60 (.struct (cd adA 60)) 4 56 (Ag [(.int .u8 0),(S []),(.int .i64 0),aK]):=TI.mk' kR kR kR
instance ti61 : TI adA 61 (.struct (cd adA 61)) 4 56 (Ag [(.int .u8 0),(S []),(.int .i64 0),aK]):=TI.mk' kR kR kR
instance ti65 : TI adA 65 (.pointer 22) 1 8 (.pointer none):=TI.mk' kR kR kR
instance ti68 : TI adA 68 (.pointer 124) 1 8 (.pointer none):=TI.mk' kR kR kR
instance ti91 : TI adA 91 (.struct (cd adA 91)) 1 24 (Ag [aK]):=TI.mk' kR kR kR
instance ti92 : TI adA 92 (.struct (cd adA 92)) 1 24 (Ag [aK]):=TI.mk' kR kR kR
instance ti99 : TI adA 99 (.slice 9) 1 24 aK:=TI.mk' kR kR kR
instance ti107 : TI adA 107 (.struct (cd adA 107)) 6 88 (Ag [(.int .i64 0),(S []),(S []),(S []),(S []),(S [])]):=TI.mk' kR kR kR
instance ti108 : TI adA 108 (.struct (cd adA 108)) 6 88 (Ag [(.int .i64 0),(S []),(S []),(S []),(S []),(S [])]):=TI.mk' kR kR kR
instance ti109 : TI adA 109 (.pointer 108) 1 8 (.pointer none):=TI.mk' kR kR kR
instance ti110 : TI adA 110 (.pointer 118) 1 8 (.pointer none):=TI.mk' kR kR kR
instance ti111 : TI adA 111 (.slice 110) 1 24 aK:=TI.mk' kR kR kR
instance ti112 : TI adA 112 (.map 9 110) 1 8 (.map none):=TI.mk' kR kR kR
instance ti113 : TI adA 113 (.struct (cd adA 113)) 2 32 (Ag [aK,(.map none)]):=TI.mk' kR kR kR
instance ti114 : TI adA 114 (.struct (cd adA 114)) 2 32 (Ag [aK,(.map none)]):=TI.mk' kR kR kR
instance ti116 : TI adA 116 (.slice 108) 1 24 aK:=TI.mk' kR kR kR
instance ti117 : TI adA 117 (.struct (cd adA 117)) 4 64 (Ag [(.int .u8 0),(S []),aK,(S [])]):=TI.mk' kR kR kR
instance ti118 : TI adA 118 (.struct (cd adA 118)) 4 64 (Ag [(.int .u8 0),(S []),aK,(S [])]):=TI.mk' kR kR kR
instance ti123 : TI adA 123 (.struct (cd adA 123)) 2 32 (Ag [aK,(.int .i64 0)]):=TI.mk' kR kR kR
instance ti124 : TI adA 124 (.struct (cd adA 124)) 2 32 (Ag [aK,(.int .i64 0)]):=TI.mk' kR kR kR
instance ti132 : TI adA 132 (.slice 136) 1 24 aK:=TI.mk' kR kR kR
instance ti133 : TI adA 133 (.struct (cd adA 133)) 3 48 (Ag [(.int .u8 0),(S []),aK]):=TI.mk' kR kR kR
instance ti134 : TI adA 134 (.struct (cd adA 134)) 3 48 (Ag [(.int .u8 0),(S []),aK]):=TI.mk' kR kR kR
instance ti135 : TI adA 135 (.struct (cd adA 135)) 4 56 (Ag [(.int .i64 0),(S []),(S []),(S [])]):=TI.mk' kR kR kR
instance ti136 : TI adA 136 (.struct (cd adA 136)) 4 56 (Ag [(.int .i64 0),(S []),(S []),(S [])]):=TI.mk' kR kR kR
instance ti149 : TI adA 149 (.map 239 4) 1 8 (.map none):=TI.mk' kR kR kR
instance ti150 : TI adA 150 (.struct (cd adA 150)) 3 24 (Ag [(.pointer none),(.pointer none),(.map none)]):=TI.mk' kR kR kR
instance ti151 : TI adA 151 (.struct (cd adA 151)) 3 24 (Ag [(.pointer none),(.pointer none),(.map none)]):=TI.mk' kR kR kR
instance ti157 : TI adA 157 (.slice 47) 1 24 aK:=TI.mk' kR kR kR
instance ti158 : TI adA 158 (.struct (cd adA 158)) 4 80 (Ag [(S []),(S []),aK,aK]):=TI.mk' kR kR kR
instance ti159 : TI adA 159 (.struct (cd adA 159)) 4 80 (Ag [(S []),(S []),aK,aK]):=TI.mk' kR kR kR
instance ti168 : TI adA 168 (.pointer 170) 1 8 (.pointer none):=TI.mk' kR kR kR
instance ti169 : TI adA 169 (.struct (cd adA 169)) 3 32 (Ag [(.pointer none),(S []),(.bool false)]):=TI.mk' kR kR kR
instance ti170 : TI adA 170 (.struct (cd adA 170)) 3 32 (Ag [(.pointer none),(S []),(.bool false)]):=TI.mk' kR kR kR
instance ti176 : TI adA 176 (.pointer 178) 1 8 (.pointer none):=TI.mk' kR kR kR
instance ti177 : TI adA 177 (.struct (cd adA 177)) 2 32 (Ag [(.pointer none),aK]):=TI.mk' kR kR kR
instance ti178 : TI adA 178 (.struct (cd adA 178)) 2 32 (Ag [(.pointer none),aK]):=TI.mk' kR kR kR
instance ti193 : TI adA 193 (.slice 223) 1 24 aK:=TI.mk' kR kR kR
instance ti194 : TI adA 194 (.struct (cd adA 194)) 3 72 (Ag [aK,aK,aK]):=TI.mk' kR kR kR
instance ti195 : TI adA 195 (.struct (cd adA 195)) 3 72 (Ag [aK,aK,aK]):=TI.mk' kR kR kR
instance ti210 : TI adA 210 (.pointer 5) 1 8 (.pointer none):=TI.mk' kR kR kR
instance ti216 : TI adA 216 (.array 256 4) 256 256 (Ag [bF,bF,bF,bF,bF,bF,bF,bF,bF,bF,bF,bF,bF,bF,bF,bF,bF,bF,bF,bF,bF,bF,bF,bF,bF,bF,bF,bF,bF,bF,bF,bF,bF,bF,bF,bF,bF,bF,bF,bF,bF,bF,bF,bF,bF,bF,bF,bF,bF,bF,bF,bF,bF,bF,bF,bF,bF,bF,bF,bF,bF,bF,bF,bF,bF,bF,bF,bF,bF,bF,bF,bF,bF,bF,bF,bF,bF,bF,bF,bF,bF,bF,bF,bF,bF,bF,bF,bF,bF,bF,bF,bF,bF,bF,bF,bF,bF,bF,bF,bF,bF,bF,bF,bF,bF,bF,bF,bF,bF,bF,bF,bF,bF,bF,bF,bF,bF,bF,bF,bF,bF,bF,bF,bF,bF,bF,bF,bF,bF,bF,bF,bF,bF,bF,bF,bF,bF,bF,bF,bF,bF,bF,bF,bF,bF,bF,bF,bF,bF,bF,bF,bF,bF,bF,bF,bF,bF,bF,bF,bF,bF,bF,bF,bF,bF,bF,bF,bF,bF,bF,bF,bF,bF,bF,bF,bF,bF,bF,bF,bF,bF,bF,bF,bF,bF,bF,bF,bF,bF,bF,bF,bF,bF,bF,bF,bF,bF,bF,bF,bF,bF,bF,bF,bF,bF,bF,bF,bF,bF,bF,bF,bF,bF,bF,bF,bF,bF,bF,bF,bF,bF,bF,bF,bF,bF,bF,bF,bF,bF,bF,bF,bF,bF,bF,bF,bF,bF,bF,bF,bF,bF,bF,bF,bF,bF,bF,bF,bF,bF,bF,bF,bF,bF,bF,bF,(.bool false)]):=TI.mk' kR kR kR
instance ti220 : TI adA 220 (.pointer 216) 1 8 (.pointer none):=TI.mk' kR kR kR
instance ti222 : TI adA 222 (.struct (cd adA 222)) 2 32 (Ag [(S []),(S [])]):=TI.mk' kR kR kR
instance ti223 : TI adA 223 (.struct (cd adA 223)) 2 32 (Ag [(S []),(S [])]):=TI.mk' kR kR kR
instance ti238 : TI adA 238 (.struct (cd adA 238)) 2 32 (Ag [(S []),(S [])]):=TI.mk' kR kR kR
instance ti239 : TI adA 239 (.struct (cd adA 239)) 2 32 (Ag [(S []),(S [])]):=TI.mk' kR kR kR
instance ti244 : TI adA 244 (.struct (cd adA 244)) 2 2 (Ag [(.int .u8 0),(.int .u8 0)]):=TI.mk' kR kR kR
instance ti245 : TI adA 245 (.struct (cd adA 245)) 2 2 (Ag [(.int .u8 0),(.int .u8 0)]):=TI.mk' kR kR kR
instance ti251 : TI adA 251 (.struct (cd adA 251)) 4 40 (Ag [(.pointer none),(.pointer none),(.pointer none),(S [])]):=TI.mk' kR kR kR
instance ti252 : TI adA 252 (.struct (cd adA 252)) 4 40 (Ag [(.pointer none),(.pointer none),(.pointer none),(S [])]):=TI.mk' kR kR kR
instance fa7_0 : FA adA 7 0 0:=FA.mk' kR ti2 rfl
instance fv7_0 : FV adA 7 0 false 0 1:=FV.mk' kR ti2 rfl
instance fa7_1 : FA adA 7 1 1:=FA.mk' kR ti3 rfl
instance fv7_1 : FV adA 7 1 false 1 1:=FV.mk' kR ti3 rfl
instance fa7_2 : FA adA 7 2 2:=FA.mk' kR ti4 rfl
instance fv7_2 : FV adA 7 2 false 2 1:=FV.mk' kR ti4 rfl
instance fa7_3 : FA adA 7 3 3:=FA.mk' kR ti6 rfl
instance fv7_3 : FV adA 7 3 false 3 1:=FV.mk' kR ti6 rfl
instance fa8_0 : FA adA 8 0 0:=FA.mk' kR ti2 rfl
instance fv8_0 : FV adA 8 0 false 0 1:=FV.mk' kR ti2 rfl
instance fa8_1 : FA adA 8 1 1:=FA.mk' kR ti3 rfl
instance fv8_1 : FV adA 8 1 false 1 1:=FV.mk' kR ti3 rfl
instance fa8_2 : FA adA 8 2 2:=FA.mk' kR ti4 rfl
instance fv8_2 : FV adA 8 2 false 2 1:=FV.mk' kR ti4 rfl
instance fa8_3 : FA adA 8 3 3:=FA.mk' kR ti6 rfl
instance fv8_3 : FV adA 8 3 false 3 1:=FV.mk' kR ti6 rfl
instance fa13_0 : FA adA 13 0 0:=FA.mk' kR ti9 rfl
instance fv13_0 : FV adA 13 0 false 0 1:=FV.mk' kR ti9 rfl
instance fa13_1 : FA adA 13 1 1:=FA.mk' kR ti12 rfl
instance fv13_1 : FV adA 13 1 false 1 1:=FV.mk' kR ti12 rfl
instance fa14_0 : FA adA 14 0 0:=FA.mk' kR ti9 rfl
instance fv14_0 : FV adA 14 0 false 0 1:=FV.mk' kR ti9 rfl
instance fa14_1 : FA adA 14 1 1:=FA.mk' kR ti12 rfl
instance fv14_1 : FV adA 14 1 false 1 1:=FV.mk' kR ti12 rfl
instance fa18_0 : FA adA 18 0 0:=FA.mk' kR ti17 rfl
instance fv18_0 : FV adA 18 0 false 0 1:=FV.mk' kR ti17 rfl
instance fa19_0 : FA adA 19 0 0:=FA.mk' kR ti17 rfl
instance fv19_0 : FV adA 19 0 false 0 1:=FV.mk' kR ti17 rfl
instance fa36_0 : FA adA 36 0 0:=FA.mk' kR ti9 rfl
instance fv36_0 : FV adA 36 0 false 0 1:=FV.mk' kR ti9 rfl
instance fa36_1 : FA adA 36 1 1:=FA.mk' kR ti35 rfl
instance fv36_1 : FV adA 36 1 false 1 1:=FV.mk' kR ti35 rfl
instance fa37_0 : FA adA 37 0 0:=FA.mk' kR ti9 rfl
instance fv37_0 : FV adA 37 0 false 0 1:=FV.mk' kR ti9 rfl
instance fa37_1 : FA adA 37 1 1:=FA.mk' kR ti35 rfl
instance fv37_1 : FV adA 37 1 false 1 1:=FV.mk' kR ti35 rfl
instance fa41_0 : FA adA 41 0 0:=FA.mk' kR ti9 rfl
instance fv41_0 : FV adA 41 0 false 0 1:=FV.mk' kR ti9 rfl
instance fa41_1 : FA adA 41 1 1:=FA.mk' kR ti9 rfl
instance fv41_1 : FV adA 41 1 false 1 1:=FV.mk' kR ti9 rfl
instance fa41_2 : FA adA 41 2 2:=FA.mk' kR ti9 rfl
instance fv41_2 : FV adA 41 2 false 2 1:=FV.mk' kR ti9 rfl
instance fa42_0 : FA adA 42 0 0:=FA.mk' kR ti9 rfl
instance fv42_0 : FV adA 42 0 false 0 1:=FV.mk' kR ti9 rfl
instance fa42_1 : FA adA 42 1 1:=FA.mk' kR ti9 rfl
instance fv42_1 : FV adA 42 1 false 1 1:=FV.mk' kR ti9 rfl
instance fa42_2 : FA adA 42 2 2:=FA.mk' kR ti9 rfl
instance fv42_2 : FV adA 42 2 false 2 1:=FV.mk' kR ti9 rfl
instance fa54_0 : FA adA 54 0 0:=FA.mk' kR ti9 rfl
instance fv54_0 : FV adA 54 0 false 0 1:=FV.mk' kR ti9 rfl
instance fa54_1 : FA adA 54 1 1:=FA.mk' kR ti9 rfl
instance fv54_1 : FV adA 54 1 false 1 1:=FV.mk' kR ti9 rfl
instance fa55_0 : FA adA 55 0 0:=FA.mk' kR ti9 rfl
instance fv55_0 : FV adA 55 0 false 0 1:=FV.mk' kR ti9 rfl
instance fa55_1 : FA adA 55 1 1:=FA.mk' kR ti9 rfl
instance fv55_1 : FV adA 55 1 false 1 1:=FV.mk' kR ti9 rfl
instance : BT adA 55 [(0,1),(1,1)] [(S []),(S [])]:=BT.mk' [(9,0,1),(9,1,1)] rfl kR kR rfl
instance fa57_0 : FA adA 57 0 0:=FA.mk' kR ti9 rfl
instance fv57_0 : FV adA 57 0 false 0 1:=FV.mk' kR ti9 rfl
instance fa57_1 : FA adA 57 1 1:=FA.mk' kR ti9 rfl
instance fv57_1 : FV adA 57 1 false 1 1:=FV.mk' kR ti9 rfl
instance fa57_2 : FA adA 57 2 2:=FA.mk' kR ti9 rfl
instance fv57_2 : FV adA 57 2 false 2 1:=FV.mk' kR ti9 rfl
instance fa58_0 : FA adA 58 0 0:=FA.mk' kR ti9 rfl
instance fv58_0 : FV adA 58 0 false 0 1:=FV.mk' kR ti9 rfl
instance fa58_1 : FA adA 58 1 1:=FA.mk' kR ti9 rfl
instance fv58_1 : FV adA 58 1 false 1 1:=FV.mk' kR ti9 rfl
instance fa58_2 : FA adA 58 2 2:=FA.mk' kR ti9 rfl
instance fv58_2 : FV adA 58 2 false 2 1:=FV.mk' kR ti9 rfl
instance : BT adA 58 [(0,1),(1,1),(2,1)] [(S []),(S []),(S [])]:=BT.mk' [(9,0,1),(9,1,1),(9,2,1)] rfl kR kR rfl
instance fa60_0 : FA adA 60 0 0:=FA.mk' kR ti5 rfl
instance fv60_0 : FV adA 60 0 false 0 1:=FV.mk' kR ti5 rfl
instance fa60_1 : FA adA 60 1 1:=FA.mk' kR ti9 rfl
instance fv60_1 : FV adA 60 1 false 1 1:=FV.mk' kR ti9 rfl
instance fa60_2 : FA adA 60 2 2:=FA.mk' kR ti3 rfl
instance fv60_2 : FV adA 60 2 false 2 1:=FV.mk' kR ti3 rfl
instance fa60_3 : FA adA 60 3 3:=FA.mk' kR ti59 rfl
instance fv60_3 : FV adA 60 3 false 3 1:=FV.mk' kR ti59 rfl
instance fa61_0 : FA adA 61 0 0:=FA.mk' kR ti5 rfl
instance fv61_0 : FV adA 61 0 false 0 1:=FV.mk' kR ti5 rfl
instance fa61_1 : FA adA 61 1 1:=FA.mk' kR ti9 rfl
instance fv61_1 : FV adA 61 1 false 1 1:=FV.mk' kR ti9 rfl
instance fa61_2 : FA adA 61 2 2:=FA.mk' kR ti3 rfl
instance fv61_2 : FV adA 61 2 false 2 1:=FV.mk' kR ti3 rfl
instance fa61_3 : FA adA 61 3 3:=FA.mk' kR ti59 rfl
instance fv61_3 : FV adA 61 3 false 3 1:=FV.mk' kR ti59 rfl
instance : BT adA 61 [(0,1),(1,1),(2,1),(3,1)] [(.int .u8 0),(S []),(.int .i64 0),aK]:=BT.mk' [(5,0,1),(9,1,1),(3,2,1),(59,3,1)] rfl kR kR rfl
instance fa91_0 : FA adA 91 0 0:=FA.mk' kR ti46 rfl
instance fv91_0 : FV adA 91 0 false 0 1:=FV.mk' kR ti46 rfl
instance fa92_0 : FA adA 92 0 0:=FA.mk' kR ti46 rfl
instance fv92_0 : FV adA 92 0 false 0 1:=FV.mk' kR ti46 rfl
instance : BT adA 92 [(0,1)] [aK]:=BT.mk' [(46,0,1)] rfl kR kR rfl
instance fa107_0 : FA adA 107 0 0:=FA.mk' kR ti3 rfl
instance fv107_0 : FV adA 107 0 false 0 1:=FV.mk' kR ti3 rfl
instance fa107_1 : FA adA 107 1 1:=FA.mk' kR ti9 rfl
instance fv107_1 : FV adA 107 1 false 1 1:=FV.mk' kR ti9 rfl
instance fa107_2 : FA adA 107 2 2:=FA.mk' kR ti58 rfl
instance fv107_2 : FV adA 107 2 true 2 3:=FV.mk' kR ti58 rfl
instance fa107_3 : FA adA 107 3 5:=FA.mk' kR ti9 rfl
instance fv107_3 : FV adA 107 3 false 5 1:=FV.mk' kR ti9 rfl
instance fa108_0 : FA adA 108 0 0:=FA.mk' kR ti3 rfl
instance fv108_0 : FV adA 108 0 false 0 1:=FV.mk' kR ti3 rfl
instance fa108_1 : FA adA 108 1 1:=FA.mk' kR ti9 rfl
instance fv108_1 : FV adA 108 1 false 1 1:=FV.mk' kR ti9 rfl
instance fa108_2 : FA adA 108 2 2:=FA.mk' kR ti58 rfl
instance fv108_2 : FV adA 108 2 true 2 3:=FV.mk' kR ti58 rfl
instance fa108_3 : FA adA 108 3 5:=FA.mk' kR ti9 rfl
instance fv108_3 : FV adA 108 3 false 5 1:=FV.mk' kR ti9 rfl
instance : BT adA 108 [(0,1),(1,1),(2,3),(5,1)] [(.int .i64 0),(S []),(S []),(S []),(S []),(S [])]:=BT.mk' [(3,0,1),(9,1,1),(58,2,3),(9,5,1)] rfl kR kR rfl
instance fa113_0 : FA adA 113 0 0:=FA.mk' kR ti111 rfl
instance fv113_0 : FV adA 113 0 false 0 1:=FV.mk' kR ti111 rfl
instance fa113_1 : FA adA 113 1 1:=FA.mk' kR ti112 rfl
instance fv113_1 : FV adA 113 1 false 1 1:=FV.mk' kR ti112 rfl
instance fa114_0 : FA adA 114 0 0:=FA.mk' kR ti111 rfl
instance fv114_0 : FV adA 114 0 false 0 1:=FV.mk' kR ti111 rfl
instance fa114_1 : FA adA 114 1 1:=FA.mk' kR ti112 rfl
instance fv114_1 : FV adA 114 1 false 1 1:=FV.mk' kR ti112 rfl
instance : BT adA 114 [(0,1),(1,1)] [aK,(.map none)]:=BT.mk' [(111,0,1),(112,1,1)] rfl kR kR rfl
instance fa117_0 : FA adA 117 0 0:=FA.mk' kR ti5 rfl
instance fv117_0 : FV adA 117 0 false 0 1:=FV.mk' kR ti5 rfl
instance fa117_1 : FA adA 117 1 1:=FA.mk' kR ti9 rfl
instance fv117_1 : FV adA 117 1 false 1 1:=FV.mk' kR ti9 rfl
instance fa117_2 : FA adA 117 2 2:=FA.mk' kR ti116 rfl
instance fv117_2 : FV adA 117 2 false 2 1:=FV.mk' kR ti116 rfl
instance fa117_3 : FA adA 117 3 3:=FA.mk' kR ti9 rfl
instance fv117_3 : FV adA 117 3 false 3 1:=FV.mk' kR ti9 rfl
instance fa118_0 : FA adA 118 0 0:=FA.mk' kR ti5 rfl
instance fv118_0 : FV adA 118 0 false 0 1:=FV.mk' kR ti5 rfl
instance fa118_1 : FA adA 118 1 1:=FA.mk' kR ti9 rfl
instance fv118_1 : FV adA 118 1 false 1 1:=FV.mk' kR ti9 rfl
instance fa118_2 : FA adA 118 2 2:=FA.mk' kR ti116 rfl
instance fv118_2 : FV adA 118 2 false 2 1:=FV.mk' kR ti116 rfl
instance fa118_3 : FA adA 118 3 3:=FA.mk' kR ti9 rfl
instance fv118_3 : FV adA 118 3 false 3 1:=FV.mk' kR ti9 rfl
instance : BT adA 118 [(0,1),(1,1),(2,1),(3,1)] [(.int .u8 0),(S []),aK,(S [])]:=BT.mk' [(5,0,1),(9,1,1),(116,2,1),(9,3,1)] rfl kR kR rfl
instance fa123_0 : FA adA 123 0 0:=FA.mk' kR ti28 rfl
instance fv123_0 : FV adA 123 0 false 0 1:=FV.mk' kR ti28 rfl
instance fa123_1 : FA adA 123 1 1:=FA.mk' kR ti3 rfl
instance fv123_1 : FV adA 123 1 false 1 1:=FV.mk' kR ti3 rfl
instance fa124_0 : FA adA 124 0 0:=FA.mk' kR ti28 rfl
instance fv124_0 : FV adA 124 0 false 0 1:=FV.mk' kR ti28 rfl
instance fa124_1 : FA adA 124 1 1:=FA.mk' kR ti3 rfl
instance fv124_1 : FV adA 124 1 false 1 1:=FV.mk' kR ti3 rfl
instance : BT adA 124 [(0,1),(1,1)] [aK,(.int .i64 0)]:=BT.mk' [(28,0,1),(3,1,1)] rfl kR kR rfl
instance fa133_0 : FA adA 133 0 0:=FA.mk' kR ti5 rfl
instance fv133_0 : FV adA 133 0 false 0 1:=FV.mk' kR ti5 rfl
instance fa133_1 : FA adA 133 1 1:=FA.mk' kR ti9 rfl
instance fv133_1 : FV adA 133 1 false 1 1:=FV.mk' kR ti9 rfl
instance fa133_2 : FA adA 133 2 2:=FA.mk' kR ti132 rfl
instance fv133_2 : FV adA 133 2 false 2 1:=FV.mk' kR ti132 rfl
instance fa134_0 : FA adA 134 0 0:=FA.mk' kR ti5 rfl
instance fv134_0 : FV adA 134 0 false 0 1:=FV.mk' kR ti5 rfl
instance fa134_1 : FA adA 134 1 1:=FA.mk' kR ti9 rfl
instance fv134_1 : FV adA 134 1 false 1 1:=FV.mk' kR ti9 rfl
instance fa134_2 : FA adA 134 2 2:=FA.mk' kR ti132 rfl
instance fv134_2 : FV adA 134 2 false 2 1:=FV.mk' kR ti132 rfl
instance : BT adA 134 [(0,1),(1,1),(2,1)] [(.int .u8 0),(S []),aK]:=BT.mk' [(5,0,1),(9,1,1),(132,2,1)] rfl kR kR rfl
instance fa135_0 : FA adA 135 0 0:=FA.mk' kR ti3 rfl
instance fv135_0 : FV adA 135 0 false 0 1:=FV.mk' kR ti3 rfl
instance fa135_1 : FA adA 135 1 1:=FA.mk' kR ti9 rfl
instance fv135_1 : FV adA 135 1 false 1 1:=FV.mk' kR ti9 rfl
instance fa135_2 : FA adA 135 2 2:=FA.mk' kR ti9 rfl
instance fv135_2 : FV adA 135 2 false 2 1:=FV.mk' kR ti9 rfl
instance fa135_3 : FA adA 135 3 3:=FA.mk' kR ti9 rfl
instance fv135_3 : FV adA 135 3 false 3 1:=FV.mk' kR ti9 rfl
instance fa136_0 : FA adA 136 0 0:=FA.mk' kR ti3 rfl
instance fv136_0 : FV adA 136 0 false 0 1:=FV.mk' kR ti3 rfl
instance fa136_1 : FA adA 136 1 1:=FA.mk' kR ti9 rfl
instance fv136_1 : FV adA 136 1 false 1 1:=FV.mk' kR ti9 rfl
instance fa136_2 : FA adA 136 2 2:=FA.mk' kR ti9 rfl
instance fv136_2 : FV adA 136 2 false 2 1:=FV.mk' kR ti9 rfl
instance fa136_3 : FA adA 136 3 3:=FA.mk' kR ti9 rfl
instance fv136_3 : FV adA 136 3 false 3 1:=FV.mk' kR ti9 rfl
instance : BT adA 136 [(0,1),(1,1),(2,1),(3,1)] [(.int .i64 0),(S []),(S []),(S [])]:=BT.mk' [(3,0,1),(9,1,1),(9,2,1),(9,3,1)] rfl kR kR rfl
instance fa150_0 : FA adA 150 0 0:=FA.mk' kR ti56 rfl
instance fv150_0 : FV adA 150 0 false 0 1:=FV.mk' kR ti56 rfl
instance fa150_1 : FA adA 150 1 1:=FA.mk' kR ti56 rfl
instance fv150_1 : FV adA 150 1 false 1 1:=FV.mk' kR ti56 rfl
instance fa150_2 : FA adA 150 2 2:=FA.mk' kR ti149 rfl
instance fv150_2 : FV adA 150 2 false 2 1:=FV.mk' kR ti149 rfl
instance fa151_0 : FA adA 151 0 0:=FA.mk' kR ti56 rfl
instance fv151_0 : FV adA 151 0 false 0 1:=FV.mk' kR ti56 rfl
instance fa151_1 : FA adA 151 1 1:=FA.mk' kR ti56 rfl
instance fv151_1 : FV adA 151 1 false 1 1:=FV.mk' kR ti56 rfl
instance fa151_2 : FA adA 151 2 2:=FA.mk' kR ti149 rfl
instance fv151_2 : FV adA 151 2 false 2 1:=FV.mk' kR ti149 rfl
instance fa158_0 : FA adA 158 0 0:=FA.mk' kR ti9 rfl
instance fv158_0 : FV adA 158 0 false 0 1:=FV.mk' kR ti9 rfl
instance fa158_1 : FA adA 158 1 1:=FA.mk' kR ti9 rfl
instance fv158_1 : FV adA 158 1 false 1 1:=FV.mk' kR ti9 rfl
instance fa158_2 : FA adA 158 2 2:=FA.mk' kR ti51 rfl
instance fv158_2 : FV adA 158 2 false 2 1:=FV.mk' kR ti51 rfl
instance fa158_3 : FA adA 158 3 3:=FA.mk' kR ti157 rfl
instance fv158_3 : FV adA 158 3 false 3 1:=FV.mk' kR ti157 rfl
instance fa159_0 : FA adA 159 0 0:=FA.mk' kR ti9 rfl
instance fv159_0 : FV adA 159 0 false 0 1:=FV.mk' kR ti9 rfl
instance fa159_1 : FA adA 159 1 1:=FA.mk' kR ti9 rfl
instance fv159_1 : FV adA 159 1 false 1 1:=FV.mk' kR ti9 rfl
instance fa159_2 : FA adA 159 2 2:=FA.mk' kR ti51 rfl
instance fv159_2 : FV adA 159 2 false 2 1:=FV.mk' kR ti51 rfl
instance fa159_3 : FA adA 159 3 3:=FA.mk' kR ti157 rfl
instance fv159_3 : FV adA 159 3 false 3 1:=FV.mk' kR ti157 rfl
instance : BT adA 159 [(0,1),(1,1),(2,1),(3,1)] [(S []),(S []),aK,aK]:=BT.mk' [(9,0,1),(9,1,1),(51,2,1),(157,3,1)] rfl kR kR rfl
instance fa169_0 : FA adA 169 0 0:=FA.mk' kR ti56 rfl
instance fv169_0 : FV adA 169 0 false 0 1:=FV.mk' kR ti56 rfl
instance fa169_1 : FA adA 169 1 1:=FA.mk' kR ti9 rfl
instance fv169_1 : FV adA 169 1 false 1 1:=FV.mk' kR ti9 rfl
instance fa169_2 : FA adA 169 2 2:=FA.mk' kR ti4 rfl
instance fv169_2 : FV adA 169 2 false 2 1:=FV.mk' kR ti4 rfl
instance fa170_0 : FA adA 170 0 0:=FA.mk' kR ti56 rfl
instance fv170_0 : FV adA 170 0 false 0 1:=FV.mk' kR ti56 rfl
instance fa170_1 : FA adA 170 1 1:=FA.mk' kR ti9 rfl
instance fv170_1 : FV adA 170 1 false 1 1:=FV.mk' kR ti9 rfl
instance fa170_2 : FA adA 170 2 2:=FA.mk' kR ti4 rfl
instance fv170_2 : FV adA 170 2 false 2 1:=FV.mk' kR ti4 rfl
instance : BT adA 170 [(0,1),(1,1),(2,1)] [(.pointer none),(S []),(.bool false)]:=BT.mk' [(56,0,1),(9,1,1),(4,2,1)] rfl kR kR rfl
instance fa177_0 : FA adA 177 0 0:=FA.mk' kR ti176 rfl
instance fv177_0 : FV adA 177 0 false 0 1:=FV.mk' kR ti176 rfl
instance fa177_1 : FA adA 177 1 1:=FA.mk' kR ti28 rfl
instance fv177_1 : FV adA 177 1 false 1 1:=FV.mk' kR ti28 rfl
instance fa178_0 : FA adA 178 0 0:=FA.mk' kR ti176 rfl
instance fv178_0 : FV adA 178 0 false 0 1:=FV.mk' kR ti176 rfl
instance fa178_1 : FA adA 178 1 1:=FA.mk' kR ti28 rfl
instance fv178_1 : FV adA 178 1 false 1 1:=FV.mk' kR ti28 rfl
instance : BT adA 178 [(0,1),(1,1)] [(.pointer none),aK]:=BT.mk' [(176,0,1),(28,1,1)] rfl kR kR rfl
instance fa194_0 : FA adA 194 0 0:=FA.mk' kR ti46 rfl
instance fv194_0 : FV adA 194 0 false 0 1:=FV.mk' kR ti46 rfl
instance fa194_1 : FA adA 194 1 1:=FA.mk' kR ti46 rfl
instance fv194_1 : FV adA 194 1 false 1 1:=FV.mk' kR ti46 rfl
instance fa194_2 : FA adA 194 2 2:=FA.mk' kR ti193 rfl
instance fv194_2 : FV adA 194 2 false 2 1:=FV.mk' kR ti193 rfl
instance fa195_0 : FA adA 195 0 0:=FA.mk' kR ti46 rfl
instance fv195_0 : FV adA 195 0 false 0 1:=FV.mk' kR ti46 rfl
instance fa195_1 : FA adA 195 1 1:=FA.mk' kR ti46 rfl
instance fv195_1 : FV adA 195 1 false 1 1:=FV.mk' kR ti46 rfl
instance fa195_2 : FA adA 195 2 2:=FA.mk' kR ti193 rfl
instance fv195_2 : FV adA 195 2 false 2 1:=FV.mk' kR ti193 rfl
instance fa222_0 : FA adA 222 0 0:=FA.mk' kR ti9 rfl
instance fv222_0 : FV adA 222 0 false 0 1:=FV.mk' kR ti9 rfl
instance fa222_1 : FA adA 222 1 1:=FA.mk' kR ti9 rfl
instance fv222_1 : FV adA 222 1 false 1 1:=FV.mk' kR ti9 rfl
instance fa223_0 : FA adA 223 0 0:=FA.mk' kR ti9 rfl
instance fv223_0 : FV adA 223 0 false 0 1:=FV.mk' kR ti9 rfl
instance fa223_1 : FA adA 223 1 1:=FA.mk' kR ti9 rfl
instance fv223_1 : FV adA 223 1 false 1 1:=FV.mk' kR ti9 rfl
instance fa238_0 : FA adA 238 0 0:=FA.mk' kR ti9 rfl
instance fv238_0 : FV adA 238 0 false 0 1:=FV.mk' kR ti9 rfl
instance fa238_1 : FA adA 238 1 1:=FA.mk' kR ti9 rfl
instance fv238_1 : FV adA 238 1 false 1 1:=FV.mk' kR ti9 rfl
instance fa239_0 : FA adA 239 0 0:=FA.mk' kR ti9 rfl
instance fv239_0 : FV adA 239 0 false 0 1:=FV.mk' kR ti9 rfl
instance fa239_1 : FA adA 239 1 1:=FA.mk' kR ti9 rfl
instance fv239_1 : FV adA 239 1 false 1 1:=FV.mk' kR ti9 rfl
instance fa244_0 : FA adA 244 0 0:=FA.mk' kR ti5 rfl
instance fv244_0 : FV adA 244 0 false 0 1:=FV.mk' kR ti5 rfl
instance fa244_1 : FA adA 244 1 1:=FA.mk' kR ti5 rfl
instance fv244_1 : FV adA 244 1 false 1 1:=FV.mk' kR ti5 rfl
instance fa245_0 : FA adA 245 0 0:=FA.mk' kR ti5 rfl
instance fv245_0 : FV adA 245 0 false 0 1:=FV.mk' kR ti5 rfl
instance fa245_1 : FA adA 245 1 1:=FA.mk' kR ti5 rfl
instance fv245_1 : FV adA 245 1 false 1 1:=FV.mk' kR ti5 rfl
instance fa251_0 : FA adA 251 0 0:=FA.mk' kR ti17 rfl
instance fv251_0 : FV adA 251 0 false 0 1:=FV.mk' kR ti17 rfl
instance fa251_1 : FA adA 251 1 1:=FA.mk' kR ti17 rfl
instance fv251_1 : FV adA 251 1 false 1 1:=FV.mk' kR ti17 rfl
instance fa251_2 : FA adA 251 2 2:=FA.mk' kR ti17 rfl
instance fv251_2 : FV adA 251 2 false 2 1:=FV.mk' kR ti17 rfl
instance fa251_3 : FA adA 251 3 3:=FA.mk' kR ti9 rfl
instance fv251_3 : FV adA 251 3 false 3 1:=FV.mk' kR ti9 rfl
instance fa252_0 : FA adA 252 0 0:=FA.mk' kR ti17 rfl
instance fv252_0 : FV adA 252 0 false 0 1:=FV.mk' kR ti17 rfl
instance fa252_1 : FA adA 252 1 1:=FA.mk' kR ti17 rfl
instance fv252_1 : FV adA 252 1 false 1 1:=FV.mk' kR ti17 rfl
instance fa252_2 : FA adA 252 2 2:=FA.mk' kR ti17 rfl
instance fv252_2 : FV adA 252 2 false 2 1:=FV.mk' kR ti17 rfl
instance fa252_3 : FA adA 252 3 3:=FA.mk' kR ti9 rfl
instance fv252_3 : FV adA 252 3 false 3 1:=FV.mk' kR ti9 rfl
def tb : Tbl:=⟨12,347376267711948586270712955026063723559809953996921692118372752023739388919904,16,3584,1686642177531434083711247799171013821799793285457276308235296669696,[(7,[(false,0,1),(false,1,1),(false,2,1),(false,3,1)]),(8,[(false,0,1),(false,1,1),(false,2,1),(false,3,1)]),(13,[(false,0,1),(false,1,1)]),(14,[(false,0,1),(false,1,1)]),(18,[(false,0,1)]),(19,[(false,0,1)]),(36,[(false,0,1),(false,1,1)]),(37,[(false,0,1),(false,1,1)]),(41,[(false,0,1),(false,1,1),(false,2,1)]),(42,[(false,0,1),(false,1,1),(false,2,1)]),(54,[(false,0,1),(false,1,1)]),(55,[(false,0,1),(false,1,1)]),(57,[(false,0,1),(false,1,1),(false,2,1)]),(58,[(false,0,1),(false,1,1),(false,2,1)]),(60,[(false,0,1),(false,1,1),(false,2,1),(false,3,1)]),(61,[(false,0,1),(false,1,1),(false,2,1),(false,3,1)]),(91,[(false,0,1)]),(92,[(false,0,1)]),(107,[(false,0,1),(false,1,1),(true,2,3),(false,5,1)]),(108,[(false,0,1),(false,1,1),(true,2,3),(false,5,1)]),(113,[(false,0,1),(false,1,1)]),(114,[(false,0,1),(false,1,1)]),(117,[(false,0,1),(false,1,1),(false,2,1),(false,3,1)]),(118,[(false,0,1),(false,1,1),(false,2,1),(false,3,1)]),(123,[(false,0,1),(false,1,1)]),(124,[(false,0,1),(false,1,1)]),(133,[(false,0,1),(false,1,1),(false,2,1)]),(134,[(false,0,1),(false,1,1),(false,2,1)]),(135,[(false,0,1),(false,1,1),(false,2,1),(false,3,1)]),(136,[(false,0,1),(false,1,1),(false,2,1),(false,3,1)]),(150,[(false,0,1),(false,1,1),(false,2,1)]),(151,[(false,0,1),(false,1,1),(false,2,1)]),(158,[(false,0,1),(false,1,1),(false,2,1),(false,3,1)]),(159,[(false,0,1),(false,1,1),(false,2,1),(false,3,1)]),(169,[(false,0,1),(false,1,1),(false,2,1)]),(170,[(false,0,1),(false,1,1),(false,2,1)]),(177,[(false,0,1),(false,1,1)]),(178,[(false,0,1),(false,1,1)]),(194,[(false,0,1),(false,1,1),(false,2,1)]),(195,[(false,0,1),(false,1,1),(false,2,1)]),(222,[(false,0,1),(false,1,1)]),(223,[(false,0,1),(false,1,1)]),(238,[(false,0,1),(false,1,1)]),(239,[(false,0,1),(false,1,1)]),(244,[(false,0,1),(false,1,1)]),(245,[(false,0,1),(false,1,1)]),(251,[(false,0,1),(false,1,1),(false,2,1),(false,3,1)]),(252,[(false,0,1),(false,1,1),(false,2,1),(false,3,1)])]⟩
theorem ade : vM adA tb.fl:=⟨⟨⟨fv7_0,fa7_0⟩,⟨fv7_1,fa7_1⟩,⟨fv7_2,fa7_2⟩,⟨fv7_3,fa7_3⟩,trivial⟩,⟨⟨fv8_0,fa8_0⟩,⟨fv8_1,fa8_1⟩,⟨fv8_2,fa8_2⟩,⟨fv8_3,fa8_3⟩,trivial⟩,⟨⟨fv13_0,fa13_0⟩,⟨fv13_1,fa13_1⟩,trivial⟩,⟨⟨fv14_0,fa14_0⟩,⟨fv14_1,fa14_1⟩,trivial⟩,⟨⟨fv18_0,fa18_0⟩,trivial⟩,⟨⟨fv19_0,fa19_0⟩,trivial⟩,⟨⟨fv36_0,fa36_0⟩,⟨fv36_1,fa36_1⟩,trivial⟩,⟨⟨fv37_0,fa37_0⟩,⟨fv37_1,fa37_1⟩,trivial⟩,⟨⟨fv41_0,fa41_0⟩,⟨fv41_1,fa41_1⟩,⟨fv41_2,fa41_2⟩,trivial⟩,⟨⟨fv42_0,fa42_0⟩,⟨fv42_1,fa42_1⟩,⟨fv42_2,fa42_2⟩,trivial⟩,⟨⟨fv54_0,fa54_0⟩,⟨fv54_1,fa54_1⟩,trivial⟩,⟨⟨fv55_0,fa55_0⟩,⟨fv55_1,fa55_1⟩,trivial⟩,⟨⟨fv57_0,fa57_0⟩,⟨fv57_1,fa57_1⟩,⟨fv57_2,fa57_2⟩,trivial⟩,⟨⟨fv58_0,fa58_0⟩,⟨fv58_1,fa58_1⟩,⟨fv58_2,fa58_2⟩,trivial⟩,⟨⟨fv60_0,fa60_0⟩,⟨fv60_1,fa60_1⟩,⟨fv60_2,fa60_2⟩,⟨fv60_3,fa60_3⟩,trivial⟩,⟨⟨fv61_0,fa61_0⟩,⟨fv61_1,fa61_1⟩,⟨fv61_2,fa61_2⟩,⟨fv61_3,fa61_3⟩,trivial⟩,⟨⟨fv91_0,fa91_0⟩,trivial⟩,⟨⟨fv92_0,fa92_0⟩,trivial⟩,⟨⟨fv107_0,fa107_0⟩,⟨fv107_1,fa107_1⟩,⟨fv107_2,fa107_2⟩,⟨fv107_3,fa107_3⟩,trivial⟩,⟨⟨fv108_0,fa108_0⟩,⟨fv108_1,fa108_1⟩,⟨fv108_2,fa108_2⟩,⟨fv108_3,fa108_3⟩,trivial⟩,⟨⟨fv113_0,fa113_0⟩,⟨fv113_1,fa113_1⟩,trivial⟩,⟨⟨fv114_0,fa114_0⟩,⟨fv114_1,fa114_1⟩,trivial⟩,⟨⟨fv117_0,fa117_0⟩,⟨fv117_1,fa117_1⟩,⟨fv117_2,fa117_2⟩,⟨fv117_3,fa117_3⟩,trivial⟩,⟨⟨fv118_0,fa118_0⟩,⟨fv118_1,fa118_1⟩,⟨fv118_2,fa118_2⟩,⟨fv118_3,fa118_3⟩,trivial⟩,⟨⟨fv123_0,fa123_0⟩,⟨fv123_1,fa123_1⟩,trivial⟩,⟨⟨fv124_0,fa124_0⟩,⟨fv124_1,fa124_1⟩,trivial⟩,⟨⟨fv133_0,fa133_0⟩,⟨fv133_1,fa133_1⟩,⟨fv133_2,fa133_2⟩,trivial⟩,⟨⟨fv134_0,fa134_0⟩,⟨fv134_1,fa134_1⟩,⟨fv134_2,fa134_2⟩,trivial⟩,⟨⟨fv135_0,fa135_0⟩,⟨fv135_1,fa135_1⟩,⟨fv135_2,fa135_2⟩,⟨fv135_3,fa135_3⟩,trivial⟩,⟨⟨fv136_0,fa136_0⟩,⟨fv136_1,fa136_1⟩,⟨fv136_2,fa136_2⟩,⟨fv136_3,fa136_3⟩,trivial⟩,⟨⟨fv150_0,fa150_0⟩,⟨fv150_1,fa150_1⟩,⟨fv150_2,fa150_2⟩,trivial⟩,⟨⟨fv151_0,fa151_0⟩,⟨fv151_1,fa151_1⟩,⟨fv151_2,fa151_2⟩,trivial⟩,⟨⟨fv158_0,fa158_0⟩,⟨fv158_1,fa158_1⟩,⟨fv158_2,fa158_2⟩,⟨fv158_3,fa158_3⟩,trivial⟩,⟨⟨fv159_0,fa159_0⟩,⟨fv159_1,fa159_1⟩,⟨fv159_2,fa159_2⟩,⟨fv159_3,fa159_3⟩,trivial⟩,⟨⟨fv169_0,fa169_0⟩,⟨fv169_1,fa169_1⟩,⟨fv169_2,fa169_2⟩,trivial⟩,⟨⟨fv170_0,fa170_0⟩,⟨fv170_1,fa170_1⟩,⟨fv170_2,fa170_2⟩,trivial⟩,⟨⟨fv177_0,fa177_0⟩,⟨fv177_1,fa177_1⟩,trivial⟩,⟨⟨fv178_0,fa178_0⟩,⟨fv178_1,fa178_1⟩,trivial⟩,⟨⟨fv194_0,fa194_0⟩,⟨fv194_1,fa194_1⟩,⟨fv194_2,fa194_2⟩,trivial⟩,⟨⟨fv195_0,fa195_0⟩,⟨fv195_1,fa195_1⟩,⟨fv195_2,fa195_2⟩,trivial⟩,⟨⟨fv222_0,fa222_0⟩,⟨fv222_1,fa222_1⟩,trivial⟩,⟨⟨fv223_0,fa223_0⟩,⟨fv223_1,fa223_1⟩,trivial⟩,⟨⟨fv238_0,fa238_0⟩,⟨fv238_1,fa238_1⟩,trivial⟩,⟨⟨fv239_0,fa239_0⟩,⟨fv239_1,fa239_1⟩,trivial⟩,⟨⟨fv244_0,fa244_0⟩,⟨fv244_1,fa244_1⟩,trivial⟩,⟨⟨fv245_0,fa245_0⟩,⟨fv245_1,fa245_1⟩,trivial⟩,⟨⟨fv251_0,fa251_0⟩,⟨fv251_1,fa251_1⟩,⟨fv251_2,fa251_2⟩,⟨fv251_3,fa251_3⟩,trivial⟩,⟨⟨fv252_0,fa252_0⟩,⟨fv252_1,fa252_1⟩,⟨fv252_2,fa252_2⟩,⟨fv252_3,fa252_3⟩,trivial⟩,trivial⟩
instance : Tab adA tb:=Tab.mk' 263 kR kR kR kR kR ade
theorem am : adA.follows .mixedOrders = true:=by kernel_rfl
section
variable {n : Nat} {D : List Deferred} {E : bN} {B : Base} {G : Gh} {L : List Own} {k : List Fr} {Q : Exit → Act → World → Prop} {K : Act → World → Prop}
theorem jT [PQ Q] {ops : List Oper} {G0 : Gh} {L0 : List Own} (fuel : Nat) (is : List Nat) {E' : bN} {p' : List Prop} {fuel' : Nat} {listed : Array Bool} (listed' : Array Bool) (hn : Nx n D E' B G L (xA adA ops.toArray Q (cG B G0 L0) fuel listed'))
    (hf : Nat.beq (fuel + is.length) fuel' = true:=by exact F) (h : iZ tb n ops is E [] = some (E',p'):=by exact F) (hsel : Region.noSelect ops.toArray = true:=by kernel_rfl) (hb : mE ops.toArray is listed listed' = true:=by kernel_rfl)
    (hG : Gh.le G0 G:=by first | exact Gh.le.refl _ | assumption) (hL : L0.Sublist L:=by repeat (first | exact List.Sublist.refl _ | exact List.nil_sublist _ | apply List.Sublist.cons_cons | apply List.Sublist.cons)) (hp : iY p':=by exact trivial) : Nx n D E B G L (xA adA ops.toArray Q (cG B G0 L0) fuel' listed):=vk is listed' hsel hb hf h hG hL hp hn
theorem jU [PQ Q] {ops : List Oper} {G0 : Gh} {L0 : List Own} (fuel : Nat) (is : List Nat) {E' : bN} {p' : List Prop} {fuel' : Nat} {listed : Array Bool} (listed' : Array Bool) (hp : iY p') (hn : Nx n D E' B G L (xA adA ops.toArray Q (cG B G0 L0) fuel listed'))
    (hf : Nat.beq (fuel + is.length) fuel' = true:=by exact F) (h : iZ tb n ops is E [] = some (E',p'):=by exact F) (hsel : Region.noSelect ops.toArray = true:=by kernel_rfl) (hb : mE ops.toArray is listed listed' = true:=by kernel_rfl)
    (hG : Gh.le G0 G:=by first | exact Gh.le.refl _ | assumption) (hL : L0.Sublist L:=by repeat (first | exact List.Sublist.refl _ | exact List.nil_sublist _ | apply List.Sublist.cons_cons | apply List.Sublist.cons)) : Nx n D E B G L (xA adA ops.toArray Q (cG B G0 L0) fuel' listed):=vk is listed' hsel hb hf h hG hL hp hn
theorem jN {ops : List Oper} {G0 : Gh} {L0 : List Own} {fuel : Nat} {listed : Array Bool} (listed' : Array Bool) [PQ Q] (i : Nat) {o : Oper} {d : Nat} (hi : ops.toArray[i]? = some o)
    (k : Nx n D ((d,undef) :: E) B G L (xA adA ops.toArray Q (cG B G0 L0) fuel listed')) (hb : nP ops.toArray listed i listed' = true:=by kernel_rfl) (hgu : sZ E ops o = some false:=by exact F) (hG : Gh.le G0 G:=by first | exact Gh.le.refl _ | assumption) (hL : L0.Sublist L:=by repeat (first | exact List.Sublist.refl _ | exact List.nil_sublist _ | apply List.Sublist.cons_cons | apply List.Sublist.cons)) (hd : o.dst = some d:=by exact F) (hlt : Nat.blt d n = true:=by exact F) :
    Nx n D E B G L (xA adA ops.toArray Q (cG B G0 L0) (fuel + 1) listed):=yx listed' i hi hb hgu hG hL hd hlt k
theorem jG {ops : List Oper} {G0 : Gh} {L0 : List Own} {fuel : Nat} {listed : Array Bool} (listed' : Array Bool) [PQ Q] (i : Nat) {o : Oper} {d : Nat} {v : Value} (hi : ops.toArray[i]? = some o) (hg : Gives adA n D E (cG B G0 L0) o v)
    (k : Nx n D ((d,v) :: E) B G L (xA adA ops.toArray Q (cG B G0 L0) fuel listed')) (hb : nP ops.toArray listed i listed' = true:=by kernel_rfl) (hgu : sZ E ops o = some true:=by exact F) (hG : Gh.le G0 G:=by first | exact Gh.le.refl _ | assumption) (hL : L0.Sublist L:=by repeat (first | exact List.Sublist.refl _ | exact List.nil_sublist _ | apply List.Sublist.cons_cons | apply List.Sublist.cons)) (hd : o.dst = some d:=by exact F) (hlt : Nat.blt d n = true:=by exact F) :
    Nx n D E B G L (xA adA ops.toArray Q (cG B G0 L0) (fuel + 1) listed):=vl listed' i hi hb hgu hG hL hg hd hlt k
theorem jV {o : Oper} {d : Nat} {v : Value} (hg : Gives adA n D E (St B G L) o v) (k : Nx n D ((d,v) :: E) B G L K) (hd : o.dst = some d:=by exact F) (hlt : Nat.blt d n = true:=by exact F) : Nx n D E B G L (ow adA o Q K):=kX hg hd hlt k
theorem jR {E' : bN} {c c' : Cu} {k k' : List Fr} {p' : List Prop} (hn : Nx n D E' B G L (cu adA c' k' Q)) (h : ss tb n 400 E c k = some ⟨E',c',k',p'⟩:=by exact F) (hp : iY p':=by exact trivial) : Nx n D E B G L (cu adA c k Q):=run 400 h hp hn
theorem jM {E' : bN} {c c' : Cu} {k k' : List Fr} {p' : List Prop} (hn : Nx n D E' B G L (cu adA c' k' Q)) (h : ss tb n 400 E c k = some ⟨E',c',k',p'⟩:=by exact F) (hp : iY p':=by (repeat' (first | exact trivial | apply And.intro | omega));done) : Nx n D E B G L (cu adA c k Q):=run 400 h hp hn
theorem jE {f : FuncId} {fn : Func} {c : Code} {args : List Value} {R : Value → Prop} (E0 : bN) (hf : adA.funcs[f]? = some fn) (hn : fn.ntmps = n)
    (h : ∀ B,B.W = [] → Nx n [] E0 B G [] (cu adA (.code c) [] (bp adA fn (fc B (fun v G' L'=>G' = G ∧ L' = [] ∧ R v))))) (hb : fn.body = some c:=by exact F) (hok : e7 adA f = true:=by kernel_rfl) (hlen : Nat.ble args.length n = true:=by exact F) (hE : iG E0 (params 0 args):=by repeat' constructor) : aZ adA f args G R:=zv E0 hf hok hn hb hlen hE h
theorem jB {f : FuncId} {fn : Func} {c : Code} {args : List Value} {Post : Value → Gh → List Own → Prop} (E0 : bN) (hf : adA.funcs[f]? = some fn) (hn : fn.ntmps = n)
    (h : ∀ B,BOk B → B.G = G → B.W = cO L → Nx n [] E0 B G L (cu adA (.code c) [] (bp adA fn (fc B Post)))) (hb : fn.body = some c:=by exact F) (hok : e7 adA f = true:=by kernel_rfl) (hlen : Nat.ble args.length n = true:=by exact F) (hE : iG E0 (params 0 args):=by repeat' constructor) : Fn adA f args G L Post:=aau E0 hf hok hn hb hlen hE h
theorem jH {f : FuncId} {fn : Func} {c : Code} {args : List Value} {R : Value → List Own → Prop} (E0 : bN) (hf : adA.funcs[f]? = some fn) (hn : fn.ntmps = n)
    (h : ∀ B,B.G = G → B.W = cO L → Nx n [] E0 B G L (cu adA (.code c) [] (bp adA fn (fc B (fun v G' L'=>G' = G ∧ R v L'))))) (hb : fn.body = some c:=by exact F) (hok : e7 adA f = true:=by kernel_rfl) (hlen : Nat.ble args.length n = true:=by exact F) (hE : iG E0 (params 0 args):=by repeat' constructor) : dO adA f args G L R:=zI E0 hf hok hn hb hlen hE h
theorem jK {ops : Array Oper} {G0 : Gh} {L0 : List Own} {fuel : Nat} {listed : Array Bool} (listed' : Array Bool) (h : Nx n D E B G L (xA adA ops Q (cG B G0 L0) fuel listed')) (hG : Gh.le G0 G:=by first | exact Gh.le.refl _ | assumption) (hL : L0.Sublist L:=by repeat (first | exact List.Sublist.refl _ | exact List.nil_sublist _ | apply List.Sublist.cons_cons | apply List.Sublist.cons)) (hl : (listed == listed') = true:=by kernel_rfl) : Nx n D E B G L (xK adA ops Q (cG B G0 L0) fuel listed):=adb hG hL hl h
theorem jS {ops : Array Oper} {G0 : Gh} {L0 : List Own} {fuel : Nat} {listed : Array Bool} (listed' : Array Bool) (h : Nx n D E B G L (xA adA ops Q (cG B G L) fuel listed')) (hG : Gh.le G0 G:=by first | exact Gh.le.refl _ | assumption) (hL : L0.Sublist L:=by repeat (first | exact List.Sublist.refl _ | exact List.nil_sublist _ | apply List.Sublist.cons_cons | apply List.Sublist.cons)) (hl : (listed == listed') = true:=by kernel_rfl) : Nx n D E B G L (xK adA ops Q (cG B G0 L0) fuel listed):=ada hG hL hl h
theorem jA {ops : List Oper} {S : World → Prop} {fuel : Nat} {listed : Array Bool} (i : Nat) {o : Oper} (hi : ops.toArray[i]? = some o) (h : Nx n D E B G L (ow adA o Q (xK adA ops.toArray Q S fuel (listed.setIfInBounds i true)))) (hr : Region.ready .any ops.toArray listed = [i]:=by kernel_rfl) (hgu : sZ E ops o = some true:=by exact F) : Nx n D E B G L (xA adA ops.toArray Q S (fuel + 1) listed) :=
  b7 [i] hr (by simp) ⟨aM hi hgu h,trivial⟩
theorem jZ {fn : Func} {rs : List ResultVar} {vs : List Value} {v : Value} {L' : List Own} {Post : Value → Gh → List Own → Prop} (hr : fn.results = rs.toArray) (h : k8 adA (St B G L) E rs vs) (hv : gJ vs = v) (hP : Post v G L')
    (hL : L'.Sublist L:=by exact List.nil_sublist _) : Nx n [] E B G L (cu adA (.exit .ret) [] (bp adA fn (fc B Post))):=aW hr h hv hL hP
theorem jX {E' : bN} {c c' : Cu} {k k' : List Fr} {p' : List Prop} (hn : Nx n D E' B G L (cu adA c' k' Q)) (h : ss tb n 400 E c k = some ⟨E',c',k',p'⟩:=by exact F) (hp : iY p':=by (repeat' (first | exact trivial | apply And.intro | omega | assumption | (simp only [List.length_append,List.length_cons,List.length_nil,Int.toNat_natCast];omega) | (simp only [List.length_append,List.length_cons,List.length_nil,List.length_take,List.length_drop];omega) | (with_reducible exact (r5 _ _).1) | (with_reducible exact (r5 _ _).2)));done) : Nx n D E B G L (cu adA c k Q):=run 400 h hp hn
theorem jW [PQ Q] {ops : List Oper} {G0 : Gh} {L0 : List Own} (fuel : Nat) (is : List Nat) {E' : bN} {p' : List Prop} {fuel' : Nat} {listed : Array Bool} (listed' : Array Bool) (hn : Nx n D E' B G L (xA adA ops.toArray Q (cG B G0 L0) fuel listed'))
    (hf : Nat.beq (fuel + is.length) fuel' = true:=by exact F) (h : iZ tb n ops is E [] = some (E',p'):=by exact F) (hsel : Region.noSelect ops.toArray = true:=by kernel_rfl) (hb : mE ops.toArray is listed listed' = true:=by kernel_rfl)
    (hG : Gh.le G0 G:=by first | exact Gh.le.refl _ | assumption) (hL : L0.Sublist L:=by repeat (first | exact List.Sublist.refl _ | exact List.nil_sublist _ | apply List.Sublist.cons_cons | apply List.Sublist.cons)) (hp : iY p':=by (repeat' (first | exact trivial | apply And.intro | omega | assumption | (simp only [List.length_append,List.length_cons,List.length_nil,Int.toNat_natCast];omega) | (simp only [List.length_append,List.length_cons,List.length_nil,List.length_take,List.length_drop];omega) | (with_reducible exact (r5 _ _).1) | (with_reducible exact (r5 _ _).2)));done) : Nx n D E B G L (xA adA ops.toArray Q (cG B G0 L0) fuel' listed):=vk is listed' hsel hb hf h hG hL hp hn
section
variable {d : Nat} {ty : TypeId} {pos : String} {aft : Array Edge} {gd : Option (Nat × Bool)} {K2 : Act → World → Prop}
theorem aB {T T0 : TypeId} {x : Operand} {desc : TypeDesc} {size bytes : Nat} {zero : Value} {b o : Nat} {v : Value} {cs : List Value} {fr : Nat × Nat} [TI adA T desc size bytes zero] [BlkI L b cs T0 fr] (hx : ev E x = some (Pt b o)) (k : Nx n D ((d,v) :: E) B G L K)
    (ha : dJ desc = false:=by exact F) (hc : cs[o]? = some v:=by exact F) (hlt : Nat.blt d n = true:=by exact F) : Nx n D E B G L (ow adA ⟨some d,.load T x,ty,pos,aft,gd⟩ Q K):=kX (aX hx ha hc) F hlt k
theorem bM {T T0 : TypeId} {x : Operand} {desc : TypeDesc} {size bytes : Nat} {zero : Value} {b o : Nat} {vs : List Value} {cs : List Value} {fr : Nat × Nat} [TI adA T desc size bytes zero] [BlkI L b cs T0 fr] (hx : ev E x = some (Pt b o)) (k : Nx n D ((d,Ag vs) :: E) B G L K)
    (ha : dJ desc = true:=by exact F) (hc : lE cs o size = some vs:=by exact F) (hl : Nat.beq vs.length size = true:=by exact F) (hlt : Nat.blt d n = true:=by exact F) : Nx n D E B G L (ow adA ⟨some d,.load T x,ty,pos,aft,gd⟩ Q K):=kX (bP hx ha hc hl) F hlt k
theorem aP {c x y : Operand} {b : Bool} {v : Value} (hc : ev E c = some (.bool b)) (k : Nx n D ((d,v) :: E) B G L K) (hx : ev E x = some v:=by exact F) (hb : b = true:=by exact F) (hlt : Nat.blt d n = true:=by exact F) : Nx n D E B G L (ow adA ⟨some d,.pick c x y,ty,pos,aft,gd⟩ Q K):=kX (bO hc hx hb) F hlt k
theorem aE {c x y : Operand} {b : Bool} {v : Value} (hc : ev E c = some (.bool b)) (k : Nx n D ((d,v) :: E) B G L K) (hy : ev E y = some v:=by exact F) (hb : b = false:=by exact F) (hlt : Nat.blt d n = true:=by exact F) : Nx n D E B G L (ow adA ⟨some d,.pick c x y,ty,pos,aft,gd⟩ Q K):=kX (bn hc hy hb) F hlt k
theorem jC {T T0 : TypeId} {x y : Operand} {desc : TypeDesc} {size bytes : Nat} {zero : Value} {b o : Nat} {cs vs cs' : List Value} {fr : Nat × Nat} {L' : List Own} [TI adA T desc size bytes zero] [BlkI L b cs T0 fr] [hu : UpdI b cs' L cs T0 L'] (hx : ev E x = some (Pt b o)) (hy : ev E y = some (Ag vs)) (hp : hC cs o vs = some cs') (k : Nx n D E B G L' K)
    (hl : Nat.beq vs.length size = true:=by exact F) (hne : vs.isEmpty = false:=by exact F) (h1 : er vs = true:=by exact F) : Nx n D E B G L (ow adA ⟨none,.store T x y,ty,pos,aft,gd⟩ Q K):=acB hx hy hl hne h1 hp k
theorem jD {T T0 : TypeId} {x y : Operand} {desc : TypeDesc} {bytes : Nat} {zero v : Value} {b o : Nat} {cs cs' : List Value} {fr : Nat × Nat} {L' : List Own} [TI adA T desc 1 bytes zero] [BlkI L b cs T0 fr] [hu : UpdI b cs' L cs T0 L'] (hx : ev E x = some (Pt b o)) (hy : ev E y = some v) (hp : hC cs o [v] = some cs') (k : Nx n D E B G L' K) (h1 : v.oneCell' = true:=by exact F) : Nx n D E B G L (ow adA ⟨none,.store T x y,ty,pos,aft,gd⟩ Q K):=acC hx hy h1 hp k
end
theorem jY {fn : Func} {rs : List ResultVar} {vs : List Value} {R : Value → Prop} (hP : R (gJ vs)) (hr : fn.results = rs.toArray:=by exact F) (h : k8 adA (St B G L) E rs vs:=by repeat' (first | exact trivial | refine ⟨F,?_⟩)) : Nx n [] E B G L (cu adA (.exit .ret) [] (bp adA fn (fc B (fun v G' L'=>G' = G ∧ L' = [] ∧ R v)))):=aW hr h F (List.nil_sublist _) ⟨F,F,hP⟩
theorem jo {a l : List Oper} {i : Nat} {pm : List Nat} {o : Oper} (h : Nx n D E B G L (ow adA o (kk adA k Q) (cu adA (.ops a l (i + 1) pm) k Q))) (hg : n7 E a pm o = some true:=by exact F) : Nx n D E B G L (cu adA (.ops a (o :: l) i pm) k Q):=vG hg h
section
variable {d : Nat} {ty : TypeId} {pos : String} {aft : Array Edge} {gd : Option (Nat × Bool)}
theorem jF {T el : TypeId} {len : Nat} {ps : List (Nat × Operand)} {qs : List (Nat × List Value)} {desc : TypeDesc} {size bytes size' bytes' : Nat} {zero zero' : Value} {zs cs : List Value} [TI adA T (.slice el) size' bytes' zero'] [TI adA el desc size bytes zero] (k : ∀ b,Nx n D ((d,.slice (some ⟨b,0,none⟩) len len) :: E) B G (.blk b (.cells cs.toArray el (0,0)) :: L) K) (hz : eP zero = some zs:=by exact F)
    (hsz : Nat.beq zs.length size = true:=by exact F) (he : rA E ps = some qs:=by exact F) (hf : pU (jI (qe size) (cj zs len) qs) = some cs:=by exact F) (hsm : Nat.ble (len * size) 16777216 = true:=by exact F) (hlt : Nat.blt d n = true:=by exact F) : Nx n D E B G L (ow adA ⟨some d,.buildSlice T len ps.toArray,ty,pos,aft,gd⟩ Q K):=acM hz hsz hsm hlt he hf k
theorem jL {T : TypeId} {desc : TypeDesc} {size bytes : Nat} {zero : Value} {cs : List Value} [TI adA T desc size bytes zero] (k : ∀ b,Nx n D ((d,Pt b 0) :: E) B G (.blk b (.cells cs.toArray T (0,0)) :: L) K) (hz : eP zero = some cs:=by exact F) (hlt : Nat.blt d n = true:=by exact F) : Nx n D E B G L (ow adA ⟨some d,.alloc T,ty,pos,aft,gd⟩ Q K):=adq hz hlt k
theorem jO {T : TypeId} {x : Operand} {v : Value} {cs : List Value} (k : ∀ b,Nx n D ((d,Pt b 0) :: E) B G (.blk b (.cells cs.toArray T (0,0)) :: L) K) (hx : ev E x = some v:=by exact F) (hz : eP v = some cs:=by exact F) (hlt : Nat.blt d n = true:=by exact F) : Nx n D E B G L (ow adA ⟨some d,.box T x,ty,pos,aft,gd⟩ Q K):=adp hx hz hlt k
end
theorem jQ {ops : Array Oper} {S : World → Prop} {fuel : Nat} {listed : Array Bool} (h : Nx n D E B G L (cu adA (.exit .normal) k Q)) (hr : Region.ready .any ops listed = []:=by kernel_rfl) : Nx n D E B G L (xA adA ops (kk adA k Q) S fuel listed):=aay hr (adn h)
theorem zA {α : Type _} {a : α} {l m : List α} : a :: l ++ m = a :: (l ++ m):=rfl
theorem fA {α : Type _} {l : List α} : [] ++ l = l:=rfl
end
set_option maxRecDepth 20000
set_option maxHeartbeats 2000000
def num (n : Nat) : adB:=if h : n < 128 then [u8 n] else u8 (128 + n % 128 : Nat) :: num (n / 128)
termination_by n
decreasing_by omega
def aaU (n : Int) : adB:=num n.toNat
def aaH (n : Int) : adB → Int
 | []=>n
 | c :: l=>aaH ((n * 31 + (c.toNat : Int)) % 9973) l
def adj (l : adB) : Int:=aaH 1 l
theorem lj {l : adB} {i : Nat} (h : i < l.length) : ∃ c : UInt8,l.drop i = c :: l.drop (i + 1) ∧ bt l i = c.toNat:=by
 refine ⟨l[i],(List.getElem_cons_drop (h:=h)).symm,?_⟩
 simp [bt,List.getD,List.getElem?_eq_getElem h]
def frame (s : adB) : adB:=[u8 126] ++ aaU s.length ++ s ++ aaU (adj s)
variable {G : Gh}
theorem abQ {n lo hi : Int} : aZ adA 128 [I n,I lo,I hi] G (· = Bo (decide (lo ≤ n) && decide (n ≤ hi))):=by
 refine jE [(0,_),(1,_),(2,_)] Tryz.func128 Tryz.ntmps128 fun B hB=>?_
 repeat' (first | refine jR ?_ | (refine jo ?_;first | refine aP F ?_ | refine aE F ?_) | refine fu F F (fun _=>?_) (fun _=>?_))
 all_goals refine jY (vs:=[_]) ?_
 all_goals (rw [aR];simp [*])
def qp (xs : List adB) : List Value:=xs.map fun x=>S x
theorem qW (xs : List adB) (x : adB) : qp (xs ++ [x]) = qp xs ++ [S x]:=by simp [qp]
abbrev vp : TypeId:=9
theorem bB {α : Type} [Inhabited α] {a : List α} {i : Nat} (h : i < a.length) : ab a i ∈ a:=by rw [aI h];exact List.getElem_mem h
theorem nH {α : Type} [Inhabited α] {a : List α} {x : α} (h : x ∈ a) : ∃ i,i < a.length ∧ ab a i = x:=by
 obtain ⟨i,hi,e⟩:=List.mem_iff_getElem.1 h
 exact ⟨i,hi,by rw [aI hi,e]⟩
theorem pM (p s : adB) : p.isPrefixOf s = decide (p.length ≤ s.length ∧ s.take p.length = p):=by
 by_cases h : p <+: s
 ·have h1:=List.isPrefixOf_iff_prefix.2 h
  rw [h1];obtain ⟨r,rfl⟩:=h;simp
 ·have h1 : p.isPrefixOf s = false:=by
   cases hb : p.isPrefixOf s with
   | false=>rfl
   | true=>exact absurd (List.isPrefixOf_iff_prefix.1 hb) h
  rw [h1];symm;refine decide_eq_false fun ⟨_,h3⟩=>h ?_
  rw [← h3];exact List.take_prefix _ _
theorem iE {s p : adB} : aZ adA 122 [S s,S p] G (· = Bo (p.isPrefixOf s)):=by
 rw [pM]
 refine jE [(0,_),(1,_)] Tryz.func122 Tryz.ntmps122 fun B hB=>?_
 repeat' (first | refine jM ?_ | (refine jo ?_;first | refine aP F ?_ | refine aE F ?_) | refine fu F F (fun _=>?_) (fun _=>?_))
 all_goals refine jY (vs:=[_]) ?_
 all_goals (rw [aR];simp;omega)
theorem ja {s p : adB} : aZ adA 77 [S s,S p] G (· = Bo (p.isPrefixOf s)):=by
 refine jE [(0,_),(1,_)] Tryz.func77 Tryz.ntmps77 fun B hB=>?_
 repeat' (first | refine jR ?_ | (refine jo ?_;refine ae F F F iE F ?_))
 all_goals refine jY (vs:=[_]) ?_
 all_goals rfl
def kN (c : UInt8) : Bool:=decide (97 ≤ c.toNat ∧ c.toNat ≤ 122)
def cT (s : adB) : Bool:=s.all kN && decide (1 ≤ s.length ∧ s.length ≤ 3)
def fe : adB → Bool
 | []=>false
 | c :: r=>if c.toNat = 91 ∨ c.toNat = 63 then fe r
  else if c.toNat = 64 then decide (((bt (c :: r) r.length : Nat) : Int) = 59) && cT (r.take (r.length - 1))
  else decide (r = []) && (decide (c.toNat = 110) || decide (c.toNat = 116) || decide (c.toNat = 102))
def bZ (s : adB) : Bool:=decide (s.length ≤ 12) && fe s
def bU : adB → adB
 | []=>[]
 | c :: r=>if c.toNat = 91 ∨ c.toNat = 63 then bU r else c :: r
theorem uM {s : adB} {i : Nat} (h : i < s.length) (h2 : ¬ (97 ≤ bt s i ∧ bt s i ≤ 122)) : cT s = false:=by
 have e : bt s i = (s[i]).toNat:=by simp [bt,List.getD,List.getElem?_eq_getElem h]
 have : s.all kN = false:=by
  rw [List.all_eq_false]
  exact ⟨s[i],List.getElem_mem h,by rw [e] at h2;simpa [kN] using h2⟩
 rw [cT,this,Bool.false_and]
theorem xP {s : adB} (h : ∀ i,i < s.length → 97 ≤ bt s i ∧ bt s i ≤ 122) : cT s = decide (1 ≤ s.length ∧ s.length ≤ 3):=by
 have : s.all kN = true:=by
  rw [List.all_eq_true]
  intro c hc
  obtain ⟨i,hi,rfl⟩:=List.mem_iff_getElem.1 hc
  have e : bt s i = (s[i]).toNat:=by simp [bt,List.getD,List.getElem?_eq_getElem hi]
  have:=h i hi
  rw [e] at this
  simpa [kN] using this
 rw [cT,this,Bool.true_and]
def rI (n : Nat) : adB:=if h : n < 10 then [u8 (48 + n : Nat)] else rI (n / 10) ++ [u8 (48 + n % 10 : Nat)]
termination_by n
decreasing_by omega
def be (n : Int) : adB:=rI n.toNat
theorem dZ {n : Int} (h : n < 10) (h0 : 0 ≤ n) : be n = [u8 (48 + n)]:=by
 unfold be;rw [rI,dif_pos oM];congr 1;congr 1;omega
theorem iU {n : Int} (h : ¬ n < 10) : be n = be (n / 10) ++ [u8 (48 + n % 10)]:=by
 unfold be;rw [rI,dif_neg oM]
 have e1 : n.toNat / 10 = (n / 10).toNat:=oM
 have e2 : ((48 + n.toNat % 10 : Nat) : Int) = 48 + n % 10:=oM
 rw [e1,e2]
theorem uV (n : Nat) : ∀ k,n < 10 ^ (k + 1) → (rI n).length ≤ k + 1:=by
 intro k
 induction k generalizing n with
 | zero=>intro h;rw [rI,dif_pos (by simpa using h)];simp
 | succ k ih =>
  intro h
  by_cases h1 : n < 10
  ·rw [rI,dif_pos h1];simp
  ·rw [rI,dif_neg h1]
   have:=ih (n / 10) (Nat.div_lt_of_lt_mul (by rw [Nat.pow_succ] at h;omega))
   simp;omega
theorem gz {n : Int} (h : n ≤ 9223372036854775807) : (be n).length ≤ 19:=uV _ 18 oM
theorem gD {s : adB} (h : s.length ≤ 9000000000000000000) : aZ adA 85 [S s] G (· = Bo (cT s)):=by
 refine jE [(0,_)] Tryz.func85 Tryz.ntmps85 fun B hB=>?_
 repeat' (refine jR ?_)
 refine aV (ι:=Nat) (fun i=>i ≤ s.length ∧ ∀ k,k < i → 97 ≤ bt s k ∧ bt s k ≤ 122) (fun i=>[(0,S s),(3,I i)]) (fun _=>G) (fun i=>[]) (fun i=>s.length - i) 0 ?_ tU F a7 (fun i Hi=>?_)
 ·exact ⟨oM,fun k hk=>absurd hk oM⟩
 by_cases hi : i < s.length
 ·repeat' (first | refine jM ?_ | (refine jo ?_;first | refine aP F ?_ | refine aE F ?_) | refine fu F F (fun _=>?_) (fun _=>?_) | (refine ac F (by first | rfl | (refine decide_eq_true ?_;(omega))) ?_) | refine eA F (fun _=>?_) (fun _=>?_))
  ·rename_i hc
   refine jY (vs:=[_]) ?_
   have hc : ((bt s i : Nat) : Int) < 97:=hc
   rw [aR,uM hi oM]
  ·rename_i _ hc
   refine jY (vs:=[_]) ?_
   have hc : (122 : Int) < ((bt s i : Nat) : Int):=hc
   rw [aR,uM hi oM]
  ·rename_i h1 h2
   have h1 : ¬ ((bt s i : Nat) : Int) < 97:=h1
   have h2 : ¬ (122 : Int) < ((bt s i : Nat) : Int):=h2
   refine bm (i + 1) ⟨oM,fun k hk=>?_⟩ oM tU F a7
   rcases Nat.lt_or_ge k i with h3 | h3
   ·exact Hi.2 k h3
   ·have : k = i:=oM
    subst this;omega
 ·repeat' (first | refine jR ?_ | (refine jo ?_;refine ae F F F abQ F ?_) | refine ad F (aF oM) ?_)
  refine jY (vs:=[_]) ?_
  rw [aR,xP fun k hk=>Hi.2 k oM]
  refine congrArg Bo ?_
  rw [Bool.decide_and]
  exact congr (congrArg and (decide_eq_decide.2 oM)) (decide_eq_decide.2 oM)
theorem mt (c : UInt8) (r : adB) : bt (c :: r) 0 = c.toNat:=by simp [bt,List.getD]
theorem aak {c : UInt8} {r : adB} (h : r ≠ []) (hl : r.length ≤ 1000000) : aZ adA 93 [S (c :: r)] G (· = Tu [S (if c.toNat = 64 then r.take (r.length - 1) else []),Bo (decide (c.toNat = 64))]):=by
 have hp:=List.length_pos_iff.2 h
 have e0:=mt c r
 refine jE [(0,_)] Tryz.func93 Tryz.ntmps93 fun B hB=>?_
 repeat' (first | refine jX ?_ | refine eA F (fun _=>?_) (fun _=>?_))
 ·rename_i hc
  refine jY (vs:=[_,_]) ?_
  have hc : ((bt (c :: r) 0 : Nat) : Int) ≠ 64:=hc
  have hc : ¬ c.toNat = 64:=oM
  rw [gu,if_neg hc,decide_eq_false hc]
 ·rename_i hc
  refine jY (vs:=[_,_]) ?_
  have hc : ¬ ((bt (c :: r) 0 : Nat) : Int) ≠ 64:=hc
  have hc : c.toNat = 64:=oM
  have e : ((((c :: r).length : Nat) : Int) - 1).toNat = (r.length - 1) + 1:=by simp only [List.length_cons];omega
  rw [gu,if_pos hc,decide_eq_true hc,e,List.take_succ_cons];rfl
theorem ns {s : adB} : aZ adA 92 [S s] G (· = Bo (bZ s)):=by
 induction s with
 | nil =>
  refine jE [(0,_)] Tryz.func92 Tryz.ntmps92 fun B hB=>?_
  repeat' (first | refine jR ?_ | (refine jo ?_;refine aE F ?_) | refine aw F F F ?_ | refine ac F F ?_)
  all_goals refine jY (vs:=[_]) ?_
  all_goals rfl
 | cons c r ih =>
  have e0 : bt (c :: r) (Int.toNat 0) = c.toNat:=mt c r
  by_cases hl : (c :: r).length ≤ 12
  ·have hl2 : r.length ≤ 12:=by simp at hl;omega
   rw [bZ,decide_eq_true hl,Bool.true_and,fe]
   rw [bZ,decide_eq_true hl2,Bool.true_and] at ih
   have hcons : (c :: r).length = r.length + 1:=rfl
   by_cases h1 : c.toNat = 91
   ·rw [if_pos (.inl h1)]
    refine jE [(0,_)] Tryz.func92 Tryz.ntmps92 fun B hB=>?_
    repeat' (first | refine jM ?_ | (refine jo ?_;first | refine aE F ?_ | refine ae F F F ih F ?_) | refine aw F F (aF oM) ?_ | refine ac F (ax oM) ?_ | refine ad F F ?_)
    refine jY (vs:=[_]) ?_
    rfl
   by_cases h2 : c.toNat = 63
   ·rw [if_pos (.inr h2)]
    refine jE [(0,_)] Tryz.func92 Tryz.ntmps92 fun B hB=>?_
    repeat' (first | refine jM ?_ | (refine jo ?_;first | refine aE F ?_ | refine ae F F F ih F ?_) | refine aw F F (aF oM) ?_ | refine ac F (ax oM) ?_ | (refine ad F (by first | rfl | (refine decide_eq_false ?_;(omega))) ?_))
    refine jY (vs:=[_]) ?_
    rfl
   rw [if_neg oM]
   by_cases h3 : c.toNat = 64
   ·rw [if_pos h3]
    have h5 : ((((c :: r).length : Nat) : Int) - 1).toNat = r.length:=oM
    by_cases h4 : ((bt (c :: r) r.length : Nat) : Int) = 59
    ·have h6 : ((bt (c :: r) ((((c :: r).length : Nat) : Int) - 1).toNat : Nat) : Int) = 59:=by rw [h5];exact h4
     have hp : 0 < r.length:=by
      rcases Nat.eq_zero_or_pos r.length with h0 | h0
      ·have : r = []:=List.length_eq_zero_iff.1 h0
       subst this
       have : ((bt [c] (Int.toNat 0) : Nat) : Int) = 59:=h4
       omega
      ·exact h0
     have e1 : ((((c :: r).length : Nat) : Int) - 1).toNat = (r.length - 1) + 1:=oM
     refine jE [(0,_)] Tryz.func92 Tryz.ntmps92 fun B hB=>?_
     repeat' (first | refine jM ?_ | (refine jo ?_;first | refine aP F ?_ | refine aE F ?_ | (refine ae F F F (gD ?_) F ?_;(focus ((simp;omega);done)))) | refine aG F F (ax ‹_›) ?_ | refine aw F F (aF oM) ?_ | refine ac F (ax oM) ?_ | (refine ad F (by first | rfl | (refine decide_eq_false ?_;(omega))) ?_))
     refine jY (vs:=[_]) ?_
     rw [aR,decide_eq_true h4,Bool.true_and,e1,List.take_succ_cons];rfl
    ·have h6 : ¬ ((bt (c :: r) ((((c :: r).length : Nat) : Int) - 1).toNat : Nat) : Int) = 59:=by rw [h5];exact h4
     refine jE [(0,_)] Tryz.func92 Tryz.ntmps92 fun B hB=>?_
     repeat' (first | refine jM ?_ | (refine jo ?_;refine aE F ?_) | (refine aw F F (by refine decide_eq_false ?_;first | assumption | omega) ?_) | refine ac F (ax oM) ?_ | (refine ad F (by first | rfl | (refine decide_eq_false ?_;(omega))) ?_))
     refine jY (vs:=[_]) ?_
     rw [aR,decide_eq_false h4,Bool.false_and]
   ·rw [if_neg h3]
    have n1 : ∀ x : UInt8,(c :: r = [x]) = (c.toNat = x.toNat ∧ r = []):=fun x=>by
     rw [List.cons.injEq];exact propext ⟨fun h=>⟨by rw [h.1],h.2⟩,fun h=>⟨UInt8.toNat_inj.1 h.1,h.2⟩⟩
    refine jE [(0,_)] Tryz.func92 Tryz.ntmps92 fun B hB=>?_
    repeat' (first | refine jM ?_ | (refine jo ?_;first | refine aP F ?_ | refine aE F ?_) | refine aG F F F ?_ | refine aw F F (aF oM) ?_ | refine fu F F (fun _=>?_) (fun _=>?_) | (refine ad F (by first | rfl | (refine decide_eq_false ?_;(omega))) ?_))
    all_goals refine jY (vs:=[_]) ?_
    all_goals rw [aR]
    ·rename_i h;rw [n1] at h;rw [decide_eq_true h.2,decide_eq_true (p:=c.toNat = 110) h.1];rfl
    ·rename_i h;rw [n1] at h;rw [decide_eq_true h.2,decide_eq_true (p:=c.toNat = 116) h.1];simp
    ·rename_i ha hb
     refine congrArg Bo ?_
     rw [n1] at ha hb
     simp only [n1]
     by_cases hr : r = []
     ·have hx : ¬ c.toNat = 110:=fun h=>ha ⟨h,hr⟩
      have hy : ¬ c.toNat = 116:=fun h=>hb ⟨h,hr⟩
      simp [hr,hx,hy]
     ·simp [hr]
  ·rw [bZ,decide_eq_false hl,Bool.false_and]
   refine jE [(0,_)] Tryz.func92 Tryz.ntmps92 fun B hB=>?_
   repeat' (first | refine jR ?_ | (refine jo ?_;refine aP F ?_) | refine aG F F (ax oM) ?_ | refine ac F F ?_)
   all_goals refine jY (vs:=[_]) ?_
   all_goals rfl
theorem tN {s : adB} (h : fe s = true) : aZ adA 94 [S s] G (· = S (bU s)):=by
 refine jE [(0,_)] Tryz.func94 Tryz.ntmps94 fun B hB=>?_
 repeat' (refine jR ?_)
 refine aV (ι:=adB) (fun t=>fe t = true ∧ bU t = bU s) (fun t=>[(0,S t)]) (fun _=>G) (fun t=>[]) (fun t=>t.length) s ?_ tU F a7 (fun t Ht=>?_)
 ·exact ⟨h,F⟩
 match t,Ht with
 | c :: r,Ht =>
  have e0 : bt (c :: r) (Int.toNat 0) = c.toNat:=mt c r
  have hcons : (c :: r).length = r.length + 1:=rfl
  by_cases h1 : c.toNat = 91 ∨ c.toNat = 63
  ·have hk : fe r = true:=by have:=Ht.1;rw [fe,if_pos h1] at this;exact this
   have hc : bU r = bU s:=by rw [← Ht.2,bU,if_pos h1]
   rcases h1 with h1 | h1
   all_goals repeat' (first | refine jM ?_ | (refine jo ?_;first | refine aP F ?_ | refine aE F ?_) | refine aG F F (ax oM) ?_ | refine aw F F (aF oM) ?_ | (refine ac F (by first | rfl | (refine decide_eq_true ?_;(omega))) ?_))
   all_goals exact bm r ⟨hk,hc⟩ oM tU F a7
  ·repeat' (first | refine jM ?_ | (refine jo ?_;refine aE F ?_) | refine aw F F (aF oM) ?_ | refine ad F (aF oM) ?_)
   refine jY (vs:=[_]) ?_
   rw [aR,← Ht.2,bU,if_neg h1]
theorem ym : ∀ (k : Nat) {n : Int},n.toNat ≤ k → 0 ≤ n ∧ n ≤ 9223372036854775807 → aZ adA 103 [I n] G (· = S (be n)):=by
 intro k
 induction k with
 | zero =>
  intro n hk hn
  have h1 : n < 10:=oM
  refine jE [(0,_)] Tryz.func103 Tryz.ntmps103 fun B hB=>?_
  repeat' (first | refine jM ?_ | (refine jo ?_;first | refine jF fun _=>?_ | refine jV (gU F F (by (repeat (first | exact BL.nil | apply BL.cons));done)) ?_) | refine ac F (ax ‹_›) ?_ | refine ad F (aF oM) ?_)
  refine jY (vs:=[_]) ?_
  rw [aR,dZ h1 hn.1]
 | succ k ih =>
  intro n hk hn
  have hl:=gz (n:=n / 10) oM
  by_cases h1 : n < 10
  ·refine jE [(0,_)] Tryz.func103 Tryz.ntmps103 fun B hB=>?_
   repeat' (first | refine jM ?_ | (refine jo ?_;first | refine jF fun _=>?_ | refine jV (gU F F (by (repeat (first | exact BL.nil | apply BL.cons));done)) ?_) | refine ac F (ax ‹_›) ?_ | refine ad F (aF oM) ?_)
   refine jY (vs:=[_]) ?_
   rw [aR,dZ h1 hn.1]
  ·refine jE [(0,_)] Tryz.func103 Tryz.ntmps103 fun B hB=>?_
   repeat' (first | refine jR ?_ | (refine ad F (by refine decide_eq_false ?_;first | assumption | omega) ?_) | (refine an (ao (id:=7) _ (fun _ h=>h) am ?_);refine jW 5 [0,1,3,4,5,6] (aa 11 123) ?_;refine b7 [2,7] kR dC ⟨?_,?_,trivial⟩;(focus (refine aM F F ?_;((refine ae F F F (ih ?_ ?_) F ?_;(focus omega);focus omega));refine jS (aa 11 127) ?_;refine jA 7 F ?_;(refine jF fun _=>?_);refine jS (aa 11 255) ?_;((refine jG (aa 11 511) 8 F (gU F F (by (repeat (first | exact BL.nil | apply BL.cons));done)) ?_));refine jW 0 [9,10] (aa 11 2047) ?_;refine jQ ?_));rotate_left 1;(focus (refine aM F F ?_;(refine jF fun _=>?_);refine jS (aa 11 251) ?_;((refine jG (aa 11 507) 8 F (gU F F (by (repeat (first | exact BL.nil | apply BL.cons));done)) ?_));refine jA 2 F ?_;((refine ae F F F (ih ?_ ?_) F ?_;(focus omega);focus omega));refine jS (aa 11 511) ?_;refine jW 0 [9,10] (aa 11 2047) ?_;refine jQ ?_));rotate_left 1))
   all_goals refine jY (vs:=[_]) ?_
   all_goals rw [aR,iU (n:=n) h1]
theorem fQ {n : Int} (hn : 0 ≤ n ∧ n ≤ 9223372036854775807) : aZ adA 103 [I n] G (· = S (be n)):=ym n.toNat (Nat.le_refl _) hn
def gH (s : adB) : adB:=if s = [110] then [48] else if s = [116] then [39,39] else if s = [102] then [110,111] else []
theorem rO {s : adB} : aZ adA 169 [S s] G (· = S (gH s)):=by
 refine jE [(0,_)] Tryz.func169 Tryz.ntmps169 fun B hB=>?_
 repeat' (first | refine jR ?_ | refine eA F (fun _=>?_) (fun _=>?_))
 all_goals refine jY (vs:=[_]) ?_
 all_goals (rw [aR,gH];simp [*])
def jt (x : Nat) : Prop:=x = 32 ∨ (48 ≤ x ∧ x ≤ 57) ∨ (97 ≤ x ∧ x ≤ 122)
instance (x : Nat) : Decidable (jt x):=inferInstanceAs (Decidable (_ ∨ _))
def TxP (s : adB) : Prop:=(2 ≤ s.length ∧ s.length ≤ 14) ∧ bt s 0 = 39 ∧ bt s (s.length - 1) = 39 ∧ ∀ i,i < s.length - 1 → i = 0 ∨ jt (bt s i)
instance (s : adB) : Decidable (TxP s):=inferInstanceAs (Decidable (_ ∧ _ ∧ _ ∧ _))
def d6 (s : adB) : Bool:=decide (TxP s)
theorem hX {s : adB} (h : s.length ≤ 100000000) : aZ adA 140 [S s] G (· = Bo (d6 s)):=by
 by_cases h1 : 2 ≤ s.length ∧ s.length ≤ 14
 case neg =>
  have e : d6 s = false:=decide_eq_false fun x=>h1 x.1
  rw [e]
  refine jE [(0,_)] Tryz.func140 Tryz.ntmps140 fun B hB=>?_
  repeat' (first | refine jR ?_ | (refine jo ?_;first | refine aP F ?_ | refine aE F ?_) | (refine aG F F (by first | rfl | (refine decide_eq_true ?_;(omega))) ?_) | refine fu F F (fun _=>?_) (fun _=>?_) | refine ac F F ?_)
  all_goals refine jY (vs:=[_]) ?_
  all_goals rfl
 by_cases h2 : bt s 0 = 39
 case neg =>
  have e : d6 s = false:=decide_eq_false fun x=>h2 x.2.1
  have h3 : ¬ bt s (Int.toNat 0) = 39:=h2
  rw [e]
  refine jE [(0,_)] Tryz.func140 Tryz.ntmps140 fun B hB=>?_
  repeat' (first | refine jM ?_ | (refine jo ?_;first | refine aP F ?_ | refine aE F ?_) | refine aG F F (ax oM) ?_ | refine aw F F (aF oM) ?_ | refine ac F F ?_)
  all_goals refine jY (vs:=[_]) ?_
  all_goals rfl
 have h3 : bt s (Int.toNat 0) = 39:=h2
 have h4 : (((s.length : Nat) : Int) - 1).toNat = s.length - 1:=oM
 by_cases h5 : bt s (s.length - 1) = 39
 case neg =>
  have e : d6 s = false:=decide_eq_false fun x=>h5 x.2.2.1
  have h6 : ¬ bt s (((s.length : Nat) : Int) - 1).toNat = 39:=by rw [h4];exact h5
  rw [e]
  refine jE [(0,_)] Tryz.func140 Tryz.ntmps140 fun B hB=>?_
  repeat' (first | refine jM ?_ | (refine jo ?_;refine aE F ?_) | refine aw F F (aF oM) ?_ | refine ac F (ax oM) ?_)
  all_goals refine jY (vs:=[_]) ?_
  all_goals rfl
 have h6 : bt s (((s.length : Nat) : Int) - 1).toNat = 39:=by rw [h4];exact h5
 refine jE [(0,_)] Tryz.func140 Tryz.ntmps140 fun B hB=>?_
 repeat' (first | refine jM ?_ | (refine jo ?_;refine aE F ?_) | refine aw F F (aF oM) ?_ | refine ad F (aF oM) ?_)
 refine aV (ι:=Nat) (fun i=>(1 ≤ i ∧ i ≤ s.length - 1) ∧ ∀ k,k < i → k = 0 ∨ jt (bt s k)) (fun i=>[(0,S s),(3,I i)]) (fun _=>G) (fun i=>[]) (fun i=>s.length - i) 1 ?_ tU F a7 (fun i Hi=>?_)
 ·exact ⟨⟨Nat.le_refl _,oM⟩,fun k hk=>.inl oM⟩
 by_cases hi : i < s.length - 1
 ·by_cases ht : jt (bt s i)
  ·have ht2 : jt (bt s ((i : Int).toNat)):=ht
   unfold jt at ht2
   repeat' (first | refine jM ?_ | (refine jo ?_;first | refine aP F ?_ | refine aE F ?_) | (refine aw F F (by first | rfl | (refine decide_eq_false ?_;(omega))) ?_) | refine fu F F (fun _=>?_) (fun _=>?_) | refine ac F (ax oM) ?_ | (refine ad F (by first | rfl | (refine decide_eq_false ?_;(omega))) ?_))
   all_goals refine bm (i + 1) ⟨⟨oM,oM⟩,fun k hk=>?_⟩ oM tU F a7
   all_goals (rcases Nat.lt_or_ge k i with h7 | h7;· exact Hi.2 k h7)
   all_goals (have : k = i:=by omega)
   all_goals (subst this;exact .inr ht)
  ·have ht2 : ¬ jt (bt s ((i : Int).toNat)):=ht
   unfold jt at ht2
   have e : d6 s = false:=decide_eq_false fun x=>(x.2.2.2 i hi).elim (fun h8=>by omega) ht
   rw [e]
   repeat' (first | refine jM ?_ | (refine jo ?_;first | refine aP F ?_ | refine aE F ?_) | (refine aG F F (by first | rfl | (refine decide_eq_true ?_;(omega))) ?_) | refine fu F F (fun _=>?_) (fun _=>?_) | (refine ac F (by first | rfl | (refine decide_eq_true ?_;(omega))) ?_))
   all_goals refine jY (vs:=[_]) ?_
   all_goals rfl
 ·have e : d6 s = true:=decide_eq_true ⟨h1,h2,h5,fun k hk=>Hi.2 k oM⟩
  rw [e]
  repeat' (first | refine jM ?_ | refine ad F (aF oM) ?_)
  refine jY (vs:=[_]) ?_
  rfl
def eC (k : Nat) (acc : adB) : adB → List adB
 | []=>[acc]
 | c :: r=>if c.toNat = k then acc :: eC k [] r else eC k (acc ++ [c]) r
def a9 (k : Nat) (s : adB) : List adB:=eC k [] s
theorem u7 {s : adB} {k : Nat} (h : s.length ≤ 100000000) : dO adA 56 [S s,U8 k] G [] (fun v L'=>L' = [.acc v vp 1 (a9 k s).length (qp (a9 k s))] ∧ vj v (a9 k s).length):=by
 refine jH [(0,_),(1,_)] Tryz.func56 Tryz.ntmps56 fun B hB hW=>?_
 repeat' (first | refine jR ?_ | (refine jo ?_;refine jF fun _=>?_))
 rename_i x
 refine Nx.blkAcc (m:=0) (sz:=1) .here F ?_
 refine aV (ι:=Value × List adB × Nat × Nat) (fun i=>(i.2.2.1 ≤ i.2.2.2 ∧ i.2.2.2 ≤ s.length ∧ i.2.1.length ≤ i.2.2.2) ∧ i.2.1 ++ eC k ((s.take i.2.2.2).drop i.2.2.1) (s.drop i.2.2.2) = a9 k s) (fun i=>[(0,S s),(1,U8 k),(5,i.1),(6,I i.2.2.1),(7,I i.2.2.2)]) (fun _=>G) (fun i=>[.acc i.1 vp 1 i.2.1.length (qp i.2.1)]) (fun i=>s.length - i.2.2.2) (.slice (some ⟨x,0,none⟩) 0 0,[],0,0) ?_ tU F a7 (fun i Hi=>?_)
 ·exact ⟨⟨Nat.le_refl _,Nat.zero_le _,Nat.zero_le _⟩,F⟩
 obtain ⟨u,xs,fr,i⟩:=i
 dsimp only at Hi ⊢
 by_cases hi : i < s.length
 ·obtain ⟨c,hc1,hc2⟩:=lj hi
  have hn : s.drop i ≠ []:=by rw [hc1];simp
  have ht : (s.take (i + 1)).drop fr = (s.take i).drop fr ++ [c]:=by
   have e : s[i] = c:=by have:=List.getElem_cons_drop (h:=hi);rw [hc1] at this;exact (List.cons.inj this).1
   rw [List.take_succ_eq_append_getElem hi,e,List.drop_append_of_le_length (by simp;omega)]
  have hcut:=Hi.2
  rw [hc1,eC] at hcut
  by_cases hk : c.toNat = k
  ·have hk2 : bt s i = k:=oM
   rw [if_pos hk] at hcut
   repeat' (first | refine jM ?_ | (refine jo ?_;first | refine jF fun _=>?_ | refine v6 F F F F F F F F oM fun _=>?_) | (refine ac F ?_ ?_;(focus ((first | (refine decide_eq_true ?_;(omega)) | (simp [*];done));done))))
   refine bm (_,xs ++ [(s.take i).drop fr],i + 1,i + 1) ⟨⟨by dsimp only;omega,by dsimp only;omega,by simp;omega⟩,?_⟩ (by dsimp only;omega) tU rfl (by dsimp only;simp only [qW,List.length_append,List.length_cons,List.length_nil,Nat.zero_add];repeat (first | exact List.nil_sublist _ | apply List.Sublist.cons_cons))
   have e0 : (s.take (i + 1)).drop (i + 1) = []:=by simp
   dsimp only;rw [e0,← hcut];simp
  ·have hk2 : ¬ bt s i = k:=oM
   rw [if_neg hk] at hcut
   repeat' (first | refine jM ?_ | refine ac F (ax oM) ?_ | (refine ad F ?_ ?_;(focus ((simp;omega);done))))
   refine bm (u,xs,fr,i + 1) ⟨⟨by dsimp only;omega,by dsimp only;omega,by dsimp only;omega⟩,?_⟩ (by dsimp only;omega) tU rfl a7
   dsimp only;rw [ht];exact hcut
 ·have e : a9 k s = xs ++ [s.drop fr]:=by
   have ei : i = s.length:=oM
   rw [← Hi.2,ei,List.take_length,List.drop_length];rfl
  repeat' (first | refine jM ?_ | (refine jo ?_;first | refine jF fun _=>?_ | refine v6 F F F F F F F F oM fun _=>?_) | refine ad F (aF oM) ?_)
  refine Nx.shp (.head _) fun hsh=>aW (vs:=[_]) F ⟨F,trivial⟩ F (List.Sublist.cons_cons _ (List.nil_sublist _)) ⟨F,?_,?_⟩
  ·rw [e,qW,List.length_append];rfl
  ·rw [e,List.length_append];exact hsh
def dv (n : Int) : adB → Option Int
 | []=>some n
 | c :: r=>if 48 ≤ c.toNat ∧ c.toNat ≤ 57 then dv (10 * n + ((c.toNat : Int) - 48)) r else none
def aN (s : adB) (top : Int) : Option Int :=
 if s.length ≤ 6 then
  match dv 0 s with
  | some n=>if s = be n ∧ n ≤ top then some n else none
  | none=>none
 else none
theorem xI (i : Nat) (hi : i ≤ 5) : (10 : Int) ^ (i + 1) = 10 * 10 ^ i ∧ (10 : Int) ^ i ≤ 100000 ∧ (0 : Int) < 10 ^ i:=by
 refine ⟨by rw [Int.pow_succ,Int.mul_comm],?_⟩
 rcases (show i = 0 ∨ i = 1 ∨ i = 2 ∨ i = 3 ∨ i = 4 ∨ i = 5 by omega) with rfl | rfl | rfl | rfl | rfl | rfl <;> decide
theorem ik {s : adB} {top : Int} (h : s.length ≤ 100000000) : aZ adA 57 [S s,I top] G (fun v=>∃ n,v = Tu [I n,Bo (aN s top).isSome] ∧ (∀ m,aN s top = some m → n = m)):=by
 refine jE [(0,_),(1,_)] Tryz.func57 Tryz.ntmps57 fun B hB=>?_
 repeat' (refine jR ?_)
 refine aV (ι:=Nat × Int) (fun i=>(i.1 ≤ s.length ∧ i.1 ≤ 6) ∧ (0 ≤ i.2 ∧ i.2 + 1 ≤ 10 ^ i.1) ∧ dv i.2 (s.drop i.1) = dv 0 s) (fun i=>[(0,S s),(1,I top),(6,I i.2),(7,I i.1)]) (fun _=>G) (fun i=>[]) (fun i=>s.length - i.1) (0,0) ?_ tU F a7 (fun i Hi=>?_)
 ·exact ⟨⟨by dsimp only;omega,by dsimp only;omega⟩,⟨by dsimp only;omega,by dsimp only;decide⟩,rfl⟩
 obtain ⟨i,n⟩:=i
 dsimp only at Hi ⊢
 by_cases hi : i < s.length
 ·obtain ⟨c,hc1,hc2⟩:=lj hi
  have hc3 : bt s ((i : Int).toNat) = c.toNat:=hc2
  have hd:=Hi.2.2
  rw [hc1,dv] at hd
  by_cases h5 : i ≤ 5
  ·have hp:=xI i h5
   by_cases hdig : 48 ≤ c.toNat ∧ c.toNat ≤ 57
   ·rw [if_pos hdig] at hd
    repeat' (first | refine jM ?_ | (refine jo ?_;refine aE F ?_) | refine aw F F (aF oM) ?_ | refine ac F (ax oM) ?_ | refine ad F (aF oM) ?_)
    refine bm (i + 1,10 * n + ((c.toNat : Int) - 48)) ⟨⟨by dsimp only;omega,by dsimp only;omega⟩,⟨by dsimp only;omega,by dsimp only;rw [hp.1];omega⟩,hd⟩ (by dsimp only;omega) ?_ rfl a7
    rw [← hc2];repeat (first | exact trivial | refine ⟨F,?_⟩)
   ·rw [if_neg hdig] at hd
    have hno : aN s top = none:=by unfold aN;rw [← hd];split <;> rfl
    repeat' (first | refine jM ?_ | (refine jo ?_;first | refine aP F ?_ | refine aE F ?_) | (refine aG F F (by first | rfl | (refine decide_eq_true ?_;(omega))) ?_) | refine fu F F (fun _=>?_) (fun _=>?_) | (refine ac F (by first | rfl | (refine decide_eq_true ?_;(omega))) ?_))
    all_goals refine jY (vs:=[_,_]) ?_
    all_goals exact ⟨_,by rw [hno];rfl,fun m hm=>by rw [hno] at hm;cases hm⟩
  ·have hno : aN s top = none:=by unfold aN;rw [if_neg oM]
   have e6 : i = 6:=oM
   subst e6
   repeat' (first | refine jM ?_ | (refine jo ?_;first | refine aP F ?_ | refine aE F ?_) | refine aG F F F ?_ | refine fu F F (fun _=>?_) (fun _=>?_) | (refine ac F (by first | rfl | (refine decide_eq_true ?_;(omega))) ?_))
   all_goals refine jY (vs:=[_,_]) ?_
   all_goals exact ⟨_,by rw [hno];rfl,fun m hm=>by rw [hno] at hm;cases hm⟩
 ·have ei : i = s.length:=oM
  have hd:=Hi.2.2
  rw [ei,List.drop_length,dv] at hd
  have hp : n ≤ 9223372036854775807:=by
   rcases Nat.lt_or_ge i 6 with h1 | h1
   ·have:=xI i oM;omega
   ·have e6 : i = 6:=oM
    subst e6
    have:=Hi.2.1.2
    have e : (10 : Int) ^ 6 = 1000000:=by decide
    omega
  have hno : aN s top = if s = be n ∧ n ≤ top then some n else none:=by unfold aN;rw [if_pos oM,← hd]
  repeat' (first | refine jR ?_ | (refine jo ?_;first | refine aP F ?_ | refine aE F ?_ | refine ae F F F (fQ oM) F ?_) | refine fu F F (fun _=>?_) (fun _=>?_) | refine ad F (aF oM) ?_)
  ·rename_i hs
   refine jY (vs:=[_,_]) ?_
   refine ⟨n,?_,fun m hm=>?_⟩
   ·rw [hno,gu]
    by_cases ht : n ≤ top
    ·rw [if_pos ⟨hs,ht⟩,decide_eq_true ht];rfl
    ·rw [if_neg (fun h=>ht h.2),decide_eq_false ht];rfl
   ·rw [hno] at hm
    split at hm
    ·exact Option.some.inj hm
    ·cases hm
  ·rename_i hs
   refine jY (vs:=[_,_]) ?_
   refine ⟨n,by rw [hno,if_neg (fun h=>hs h.1)];rfl,fun m hm=>?_⟩
   rw [hno,if_neg (fun h=>hs h.1)] at hm;cases hm
def b9 (k s : adB) : Bool :=
 if k = [110] then (aN s 999999).isSome && decide (s ≠ [48])
 else if k = [116] then d6 s && decide (s ≠ [39,39])
 else if k = [102] then decide (s = [121,101,115])
 else false
theorem w8 {k s : adB} (h : s.length ≤ 100000000) : aZ adA 177 [S k,S s] G (· = Bo (b9 k s)):=by
 by_cases h1 : k = [110]
 ·have e : b9 k s = ((aN s 999999).isSome && decide (s ≠ [48])):=by rw [b9,if_pos h1]
  rw [e]
  refine jE [(0,_),(1,_)] Tryz.func177 Tryz.ntmps177 fun B hB=>?_
  repeat' (first | refine jR ?_ | (refine jo ?_;first | refine aP F ?_ | refine aE F ?_ | (refine ep F F F (ik oM) F ?_;rintro _ ⟨n,rfl,hnum⟩)) | refine m4 F F (fun _=>?_) (fun _=>?_) | refine ac F (ax ‹_›) ?_)
  all_goals refine jY (vs:=[_]) ?_
  all_goals (rw [aR];simp [*])
 by_cases h2 : k = [116]
 ·have e : b9 k s = (d6 s && decide (s ≠ [39,39])):=by rw [b9,if_neg h1,if_pos h2]
  rw [e]
  refine jE [(0,_),(1,_)] Tryz.func177 Tryz.ntmps177 fun B hB=>?_
  repeat' (first | refine jR ?_ | (refine jo ?_;first | refine aP F ?_ | refine aE F ?_ | refine ae F F F (hX ‹_›) F ?_) | refine fu F F (fun _=>?_) (fun _=>?_) | refine ac F (ax ‹_›) ?_ | refine ad F (aF ‹_›) ?_)
  all_goals refine jY (vs:=[_]) ?_
  all_goals (rw [aR];simp [*,d6])
 by_cases h3 : k = [102]
 ·have e : b9 k s = decide (s = [121,101,115]):=by rw [b9,if_neg h1,if_neg h2,if_pos h3]
  rw [e]
  refine jE [(0,_),(1,_)] Tryz.func177 Tryz.ntmps177 fun B hB=>?_
  repeat' (first | refine jR ?_ | refine ac F (ax ‹_›) ?_ | refine ad F (aF ‹_›) ?_)
  all_goals refine jY (vs:=[_]) ?_
  all_goals rfl
 ·have e : b9 k s = false:=by rw [b9,if_neg h1,if_neg h2,if_neg h3]
  rw [e]
  refine jE [(0,_),(1,_)] Tryz.func177 Tryz.ntmps177 fun B hB=>?_
  repeat' (first | refine jR ?_ | refine ad F (aF ‹_›) ?_)
  all_goals refine jY (vs:=[_]) ?_
  all_goals rfl
structure Fld where
 tag : Int
 name : adB
 kind : adB
 stand : adB
deriving Inhabited
def hO (f : Fld) : List Value:=[I f.tag,S f.name,S f.kind,S f.stand]
instance : RowF hO 4:=⟨fun _=>rfl⟩
def cB (s : adB) (k : Nat) : Option Fld :=
 match a9 58 s with
 | [a,b]=>if k = 69 then
   match aN a 200 with
   | some n=>if 1 ≤ n ∧ cT b = true then some ⟨n,b,[],[]⟩ else none
   | none=>none
  else none
 | [a,b,c]=>if k = 69 then none else
   match aN a 200 with
   | some n=>if 1 ≤ n ∧ cT b = true then
     match a9 61 c with
     | [d]=>if bZ d = true then some ⟨n,b,d,[]⟩ else none
     | [d,e]=>if k = 82 ∧ b9 d e = true then some ⟨n,b,d,e⟩ else none
     | _=>none
    else none
   | none=>none
 | _=>none
theorem oR {k : Nat} : ∀ {s acc : adB} {x : adB},x ∈ eC k acc s → x.length ≤ acc.length + s.length
 | [],acc,x,h=>by simp [eC] at h;subst h;simp
 | c :: r,acc,x,h=>by
  unfold eC at h
  split at h
  ·rcases List.mem_cons.1 h with rfl | h
   ·simp
   ·have:=oR h;simp at this ⊢;omega
  ·have:=oR h;simp at this ⊢;omega
theorem dz {k : Nat} {s x : adB} (h : x ∈ a9 k s) : x.length ≤ s.length:=by have:=oR h;simpa using this
theorem oU {k : Nat} : ∀ {s acc : adB},0 < (eC k acc s).length
 | [],acc=>by simp [eC]
 | c :: r,acc=>by
  unfold eC
  split
  ·simp
  ·exact oU
theorem eB {k : Nat} {s : adB} : 0 < (a9 k s).length:=oU
theorem jr {k : Nat} : ∀ {s acc : adB},(eC k acc s).length ≤ s.length + 1
 | [],acc=>by simp [eC]
 | c :: r,acc=>by
  unfold eC
  split
  ·have:=jr (k:=k) (s:=r) (acc:=[]);simp;omega
  ·have:=jr (k:=k) (s:=r) (acc:=acc ++ [c]);simp;omega
theorem ii {k : Nat} {s : adB} : (a9 k s).length ≤ s.length + 1:=jr
def aH (k : Nat) : adB → adB × adB × Bool
 | []=>([],[],false)
 | c :: r=>if c.toNat = k then ([],r,true) else (c :: (aH k r).1,(aH k r).2.1,(aH k r).2.2)
theorem eJ (c : UInt8) (r : adB) (i : Nat) : bt (c :: r) (i + 1) = bt r i:=by simp [bt,List.getD]
theorem bD (c : UInt8) (r : adB) : bt (c :: r) 0 = c.toNat:=by simp [bt,List.getD]
theorem qJ {k : Nat} : ∀ {s : adB},(∀ j,j < s.length → bt s j ≠ k) → aH k s = (s,[],false)
 | [],_=>rfl
 | c :: r,h=>by
  have h0:=h 0 (by simp)
  rw [bD] at h0
  have ih:=qJ (k:=k) (s:=r) fun j hj=>by have:=h (j + 1) (by simpa using hj);rwa [eJ] at this
  rw [aH,if_neg h0,ih]
theorem nJ {k : Nat} : ∀ {s : adB} {i : Nat},i < s.length → (∀ j,j < i → bt s j ≠ k) → bt s i = k → aH k s = (s.take i,s.drop (i + 1),true)
 | [],i,h,_,_=>by simp at h
 | c :: r,0,_,_,h=>by rw [bD] at h;rw [aH,if_pos h];rfl
 | c :: r,i + 1,hl,h,hi=>by
  have h0:=h 0 oM
  rw [bD] at h0
  rw [eJ] at hi
  have ih:=nJ (k:=k) (s:=r) (i:=i) (by simpa using hl) (fun j hj=>by have:=h (j + 1) oM;rwa [eJ] at this) hi
  rw [aH,if_neg h0,ih];rfl
structure Ty where
 sort : Nat
 name : adB
 fields : List Fld
deriving Inhabited
def fresh (f : Fld) (fs : List Fld) : Bool:=fs.all fun g=>decide (g.tag < f.tag ∧ g.name ≠ f.name)
def dp (k : Nat) : List adB → List Fld → Option (List Fld)
 | [],fs=>some fs
 | x :: xs,fs=>match cB x k with
  | none=>none
  | some f=>if fresh f fs = true then dp k xs (fs ++ [f]) else none
def eM (k : Nat) : Prop:=k = 82 ∨ k = 85 ∨ k = 69
instance (k : Nat) : Decidable (eM k):=inferInstanceAs (Decidable (_ ∨ _ ∨ _))
def dB : adB → Option Ty
 | []=>none
 | c :: r=>match aH 61 r with
  | (name,rest,true)=>if cT name = true ∧ eM c.toNat then
    if rest = [] then (if c.toNat = 82 then some ⟨82,name,[]⟩ else none)
    else match dp c.toNat (a9 44 rest) [] with
     | some fs=>if fs.length ≤ 8 then some ⟨c.toNat,name,fs⟩ else none
     | none=>none
   else none
  | _=>none
def cx : adB → Option adB
 | []=>none
 | c :: r=>if c.toNat = 64 then some (r.take (r.length - 1)) else none
def iw (ts : List Ty) (name : adB) : Option Ty:=ts.find? fun t=>decide (t.name = name)
def a8 (ts : List Ty) (k : adB) : Option Ty:=(cx k).bind (iw ts)
def eS (t : Ty) : adB:=(t.fields.headD default).kind
def cr (ts : List Ty) : Nat → Ty → Bool
 | 0,_=>false
 | n + 1,t=>if t.sort ≠ 85 then true else match a8 ts (eS t) with
  | none=>true
  | some u=>cr ts n u
def fh (ts : List Ty) (k : adB) : Bool:=match cx (bU k) with
 | none=>true
 | some n=>(iw ts n).isSome
def ly (ts : List Ty) (i : Nat) : Prop:=∀ k,k < i → (ab ts k).name ≠ (ab ts i).name
def iX (ts : List Ty) (t : Ty) : Prop:=t.sort = 69 ∨ ∀ j,j < t.fields.length → fh ts (ab t.fields j).kind = true
def jn (ts : List Ty) : Prop:=(∀ i,i < ts.length → ly ts i ∧ iX ts (ab ts i)) ∧ ∀ i,i < ts.length → cr ts (ts.length + 1) (ab ts i) = true
instance (ts : List Ty) (i : Nat) : Decidable (ly ts i):=inferInstanceAs (Decidable (∀ k,k < i → _))
instance (ts : List Ty) (t : Ty) : Decidable (iX ts t):=inferInstanceAs (Decidable (_ ∨ ∀ j,j < t.fields.length → _))
instance (ts : List Ty) : Decidable (jn ts):=inferInstanceAs (Decidable ((∀ i,i < ts.length → _) ∧ ∀ i,i < ts.length → _))
def cH : List adB → Option (List Ty)
 | []=>some []
 | x :: xs=>match dB x with
  | none=>none
  | some t=>(cH xs).map (t :: ·)
def bc (s : adB) : Option (List Ty) :=
 if s.length ≤ 400 ∧ (a9 10 s).length ≤ 9 ∧ (a9 10 s).getLastD [] = [] then
  match cH (a9 10 s).dropLast with
  | some ts=>if jn ts then some ts else none
  | none=>none
 else none
structure FldW (k : Nat) (f : Fld) : Prop where
 tag : 1 ≤ f.tag ∧ f.tag ≤ 200
 name : cT f.name = true
 kind : k ≠ 69 → bZ f.kind = true
 enm : k = 69 → f.kind = [] ∧ f.stand = []
 stand : f.stand ≠ [] → k = 82 ∧ b9 f.kind f.stand = true
theorem ed {s : adB} {top n : Int} (h : aN s top = some n) : n ≤ top ∧ s = be n ∧ s.length ≤ 6:=by
 unfold aN at h
 split at h
 ·split at h
  ·split at h
   ·rename_i h1 _ _ _ h2;simp only [Option.some.injEq] at h;subst h;exact ⟨h2.2,h2.1,h1⟩
   ·cases h
  ·cases h
 ·cases h
theorem mK {k s : adB} (h : b9 k s = true) : bZ k = true:=by
 unfold b9 at h
 split at h
 ·subst_vars;decide
 ·split at h
  ·subst_vars;decide
  ·split at h
   ·subst_vars;decide
   ·cases h
theorem zO {s : adB} {k : Nat} {f : Fld} (h : cB s k = some f) : FldW k f:=by
 unfold cB at h
 split at h
 ·split at h
  ·rename_i hk
   split at h
   ·rename_i n hn
    split at h
    ·rename_i hg
     simp only [Option.some.injEq] at h;subst h
     exact ⟨⟨hg.1,(ed hn).1⟩,hg.2,fun h=>absurd hk h,fun _=>⟨F,F⟩,fun h=>absurd F h⟩
    ·cases h
   ·cases h
  ·cases h
 ·split at h
  ·cases h
  ·rename_i hk
   split at h
   ·rename_i n hn
    split at h
    ·rename_i hg
     split at h
     ·split at h
      ·rename_i hd
       simp only [Option.some.injEq] at h;subst h
       exact ⟨⟨hg.1,(ed hn).1⟩,hg.2,fun _=>hd,fun h=>absurd h hk,fun h=>absurd F h⟩
      ·cases h
     ·split at h
      ·rename_i hd
       simp only [Option.some.injEq] at h;subst h
       exact ⟨⟨hg.1,(ed hn).1⟩,hg.2,fun _=>mK hd.2,fun h=>absurd h hk,fun _=>hd⟩
      ·cases h
     ·cases h
    ·cases h
   ·cases h
 ·cases h
structure TyW (t : Ty) : Prop where
 sort : eM t.sort
 name : cT t.name = true
 ne : t.sort ≠ 82 → t.fields ≠ []
 len : t.fields.length ≤ 8
 fld : ∀ f ∈ t.fields,FldW t.sort f
 asc : t.fields.Pairwise fun g f=>g.tag < f.tag ∧ g.name ≠ f.name
theorem pR {k : Nat} : ∀ {xs : List adB} {fs gs : List Fld},dp k xs fs = some gs → (∀ f ∈ fs,FldW k f) → fs.Pairwise (fun g f=>g.tag < f.tag ∧ g.name ≠ f.name) →
  (∀ f ∈ gs,FldW k f) ∧ gs.Pairwise (fun g f=>g.tag < f.tag ∧ g.name ≠ f.name) ∧ gs.length = fs.length + xs.length
 | [],fs,gs,h,h1,h2=>by
  simp only [dp,Option.some.injEq] at h;subst h;exact ⟨h1,h2,by simp⟩
 | x :: xs,fs,gs,h,h1,h2=>by
  unfold dp at h
  split at h
  ·cases h
  ·rename_i f hf
   split at h
   ·rename_i hfr
    simp only [fresh,List.all_eq_true,decide_eq_true_eq] at hfr
    have:=pR h (fun g hg=>by
     rcases List.mem_append.1 hg with hg | hg
     ·exact h1 g hg
     ·simp only [List.mem_singleton] at hg;subst hg;exact zO hf) (List.pairwise_append.2 ⟨h2,by simp,fun a ha b hb=>by
      simp only [List.mem_singleton] at hb;subst hb;exact hfr a ha⟩)
    refine ⟨this.1,this.2.1,?_⟩
    rw [this.2.2];simp;omega
   ·cases h
theorem aaA {s : adB} {t : Ty} (h : dB s = some t) : TyW t:=by
 unfold dB at h
 split at h
 ·cases h
 ·split at h
  ·split at h
   ·rename_i hn
    split at h
    ·split at h
     ·simp only [Option.some.injEq] at h;subst h
      exact ⟨.inl F,hn.1,fun h=>absurd F h,by simp,by simp,by simp⟩
     ·cases h
    ·split at h
     ·rename_i fs hfs
      split at h
      ·rename_i hl
       simp only [Option.some.injEq] at h;subst h
       have hw:=pR hfs (by simp) (by simp)
       refine ⟨hn.2,hn.1,fun _ h0=>?_,hl,hw.1,hw.2.1⟩
       have:=hw.2.2
       dsimp only at h0
       rw [h0] at this
       have:=eB (k:=44) (s:=‹adB›)
       simp at *;omega
      ·cases h
     ·cases h
   ·cases h
  ·cases h
theorem je : ∀ {xs : List adB} {ts : List Ty},cH xs = some ts → (∀ t ∈ ts,TyW t) ∧ ts.length = xs.length
 | [],ts,h=>by simp only [cH,Option.some.injEq] at h;subst h;simp
 | x :: xs,ts,h=>by
  unfold cH at h
  split at h
  ·cases h
  ·rename_i t ht
   cases hr : cH xs with
   | none=>rw [hr] at h;cases h
   | some us =>
    rw [hr] at h
    simp only [Option.map_some,Option.some.injEq] at h;subst h
    have:=je hr
    exact ⟨fun u hu=>by rcases List.mem_cons.1 hu with rfl | hu;exact aaA ht;exact this.1 u hu,by simp [this.2]⟩
structure SchW (ts : List Ty) : Prop where
 ty : ∀ t ∈ ts,TyW t
 len : ts.length ≤ 8
 valid : jn ts
theorem d9 {s : adB} {ts : List Ty} (h : bc s = some ts) : SchW ts:=by
 unfold bc at h
 split at h
 ·rename_i hc
  split at h
  ·rename_i us hus
   split at h
   ·rename_i hv
    simp only [Option.some.injEq] at h;subst h
    have:=je hus
    exact ⟨this.1,by rw [this.2,List.length_dropLast];omega,hv⟩
   ·cases h
  ·cases h
 ·cases h
def aA (ts : List Ty) (k : adB) : Bool:=bZ k && fh ts k
def gi (k : Nat) (s : adB) : Int:=if (aH k s).2.2 = true then ((aH k s).1.length : Int) else -1
theorem ij {k : Nat} : ∀ {s a b : adB},aH k s = (a,b,true) → ∃ c : UInt8,c.toNat = k ∧ s = a ++ c :: b
 | [],a,b,h=>by simp [aH] at h
 | c :: r,a,b,h=>by
  unfold aH at h
  split at h
  ·rename_i hc
   simp only [Prod.mk.injEq,and_true] at h
   obtain ⟨rfl,rfl⟩:=h
   exact ⟨c,hc,F⟩
  ·simp only [Prod.mk.injEq] at h
   obtain ⟨rfl,h2,h3⟩:=h
   obtain ⟨d,hd,hr⟩:=ij (k:=k) (s:=r) (a:=(aH k r).1) (b:=b) (by rw [← h2,← h3])
   exact ⟨d,hd,by rw [List.cons_append,← hr]⟩
theorem fS {k : Nat} : ∀ {s : adB},(aH k s).2.2 = false → aH k s = (s,[],false)
 | [],h=>rfl
 | c :: r,h=>by
  unfold aH at h ⊢
  split at h
  ·cases h
  ·rename_i hc
   rw [if_neg hc,fS (s:=r) h]
theorem kx {k : Nat} {s : adB} : (aH k s).1.length ≤ s.length ∧ (aH k s).2.1.length ≤ s.length:=by
 cases h : (aH k s).2.2 with
 | false=>rw [fS h];simp
 | true =>
  obtain ⟨c,_,e⟩:=ij (k:=k) (s:=s) (a:=(aH k s).1) (b:=(aH k s).2.1) (by rw [← h])
  have:=congrArg List.length e
  simp at this
  omega
theorem qz (s : adB) (c : UInt8) : Lib.indexByte s c = gi c.toNat s:=by
 induction s with
 | nil=>rfl
 | cons b r ih =>
  unfold Lib.indexByte
  by_cases hb : b = c
  ·subst hb;simp [gi,aH]
  ·have hb2 : ¬ b.toNat = c.toNat:=fun h=>hb (UInt8.toNat_inj.1 h)
   have hb3 : (b == c) = false:=by simpa using hb
   rw [hb3,ih]
   unfold gi
   rw [aH,if_neg hb2]
   dsimp only
   cases (aH c.toNat r).2.2 <;> simp
theorem tY {s : adB} {c : UInt8} : aZ adA 190 [S s,U8 c.toNat] G (· = I (gi c.toNat s)):=by
 have hx : ∀ w,(callFunc 197 [S s,U8 c.toNat].toArray).run adA w = .ok (.value (I (gi c.toNat s))) w:=fun w=>by
  rw [run_callFunc_extern Tryz.func197 kR kR kR (e:=Extern.BytealgIndexByte.indexByte) kR]
  have:=Lib.run_indexByteString (P:=adA) ⟨s.toArray⟩ (c.toNat : Int) w
  rw [this]
  simp only [Result.andThen]
  rw [qz]
  simp
 refine jE [(0,_),(1,_)] Tryz.func190 Tryz.ntmps190 fun B hB=>?_
 repeat' (refine jR ?_)
 refine vG F (kX (oK F F F hx) F F ?_)
 repeat' (refine jR ?_)
 refine jY (vs:=[_]) ?_
 rfl
theorem wA (c : UInt8) : gi c.toNat [c] = 0:=by simp [gi,aH]
theorem tX {s : adB} {c : UInt8} : aZ adA 182 [S s,S [c]] G (· = I (gi c.toNat s)):=by
 have e0 : ((bt [c] (Int.toNat 0) : Nat) : Int) = c.toNat:=by rw [show Int.toNat 0 = 0 from rfl,bD]
 by_cases hs : [c] = s
 ·subst hs
  rw [wA]
  refine jE [(0,_),(1,_)] Tryz.func182 Tryz.ntmps182 fun B hB=>?_
  repeat' (first | refine jR ?_ | (refine jo ?_;refine aE F ?_) | refine aw F F F ?_ | refine ac F (ax F) ?_)
  all_goals refine jY (vs:=[_]) ?_
  all_goals rfl
 ·have cx_ib : aZ adA 190 [S s,U8 (bt [c] (Int.toNat 0))] G (· = I (gi c.toNat s)):=by rw [show (bt [c] (Int.toNat 0)) = c.toNat from bD c []];exact tY
  refine jE [(0,_),(1,_)] Tryz.func182 Tryz.ntmps182 fun B hB=>?_
  repeat' (first | refine jX ?_ | (refine jo ?_;first | refine aE F ?_ | refine ae F F F cx_ib F ?_) | refine aw F F F ?_ | refine ac F F ?_ | refine ad F (aF ‹_›) ?_)
  all_goals refine jY (vs:=[_]) ?_
  all_goals rfl
theorem vh {s : adB} {c : UInt8} : aZ adA 176 [S s,S [c]] G (· = I (gi c.toNat s)):=by
 refine jE [(0,_),(1,_)] Tryz.func176 Tryz.ntmps176 fun B hB=>?_
 repeat' (first | refine jR ?_ | (refine jo ?_;refine ae F F F tX F ?_))
 refine jY (vs:=[_]) ?_
 rfl
theorem pO (k : Nat) (s : adB) : (gi k s = -1 ∧ aH k s = (s,[],false)) ∨ ∃ i : Nat,gi k s = i ∧ i < s.length ∧ aH k s = (s.take i,s.drop (i + 1),true):=by
 cases h : (aH k s).2.2 with
 | false=>exact .inl ⟨by simp [gi,h],fS h⟩
 | true =>
  obtain ⟨c,_,e⟩:=ij (k:=k) (s:=s) (a:=(aH k s).1) (b:=(aH k s).2.1) (by rw [← h])
  have h5 : aH k s = ((aH k s).1,(aH k s).2.1,true):=by rw [← h]
  have h6 : gi k s = ((aH k s).1.length : Int):=by simp [gi,h]
  generalize (aH k s).1 = a at *
  generalize (aH k s).2.1 = b at *
  refine .inr ⟨a.length,h6,?_,?_⟩
  ·have:=congrArg List.length e
   simp at this
   omega
  ·rw [h5,e];simp
theorem abV {s : adB} {c : UInt8} (h : s.length ≤ 9000000000000000000) : aZ adA 165 [S s,S [c]] G (· = Tu [S (aH c.toNat s).1,S (aH c.toNat s).2.1,Bo (aH c.toNat s).2.2]):=by
 have hix:=tX (G:=G) (s:=s) (c:=c)
 rcases pO c.toNat s with ⟨h1,h2⟩ | ⟨i,h1,h3,h2⟩
 ·rw [h2]
  have cx_ix : aZ adA 182 [S s,S [c]] G (· = I (-1)):=by rwa [h1] at hix
  refine jE [(0,_),(1,_)] Tryz.func165 Tryz.ntmps165 fun B hB=>?_
  repeat' (first | refine jR ?_ | (refine jo ?_;refine ae F F F cx_ix F ?_) | refine ad F F ?_)
  all_goals refine jY (vs:=[_,_,_]) ?_
  all_goals rfl
 ·rw [h2]
  have cx_ix : aZ adA 182 [S s,S [c]] G (· = I (i : Int)):=by rwa [h1] at hix
  have e2 : ((i : Int) + (([c] : adB).length : Nat)).toNat = i + 1:=by simp only [List.length_cons,List.length_nil];omega
  refine jE [(0,_),(1,_)] Tryz.func165 Tryz.ntmps165 fun B hB=>?_
  repeat' (first | refine jR ?_ | (refine jo ?_;refine ae F F F cx_ix F ?_) | refine ac F F ?_ | (refine an (ao (id:=3) _ (fun _ h=>h) am ?_);refine jW 0 [0,1,2,3,4,5,6,7,8,9,10,11] (aa 12 4095) ?_;refine jQ ?_))
  all_goals refine jY (vs:=[_,_,_]) ?_
  all_goals (rfl)
theorem qc {s : adB} {c : UInt8} (h : s.length ≤ 9000000000000000000) : aZ adA 130 [S s,S [c]] G (· = Tu [S (aH c.toNat s).1,S (aH c.toNat s).2.1,Bo (aH c.toNat s).2.2]):=by
 refine jE [(0,_),(1,_)] Tryz.func130 Tryz.ntmps130 fun B hB=>?_
 repeat' (first | refine jR ?_ | (refine jo ?_;refine ae F F F (abV oM) F ?_))
 all_goals refine jY (vs:=[_,_,_]) ?_
 all_goals rfl
theorem v9 {s : adB} {c : UInt8} : aZ adA 166 [S s,S [c]] G (· = Bo (decide (0 ≤ gi c.toNat s))):=by
 refine jE [(0,_),(1,_)] Tryz.func166 Tryz.ntmps166 fun B hB=>?_
 repeat' (first | refine jR ?_ | (refine jo ?_;refine ae F F F vh F ?_))
 all_goals refine jY (vs:=[_]) ?_
 all_goals rfl
def fK (k : Nat) (s : adB) : Prop:=∀ c ∈ s,c.toNat ≠ k
def aO (c : UInt8) : List adB → adB
 | []=>[]
 | [x]=>x
 | x :: y :: r=>x ++ c :: aO c (y :: r)
theorem lY (c : UInt8) (x : adB) {xs : List adB} (h : xs ≠ []) : aO c (x :: xs) = x ++ c :: aO c xs:=by
 cases xs with
 | nil=>exact absurd F h
 | cons y r=>rfl
theorem kQ {c : UInt8} : ∀ {s acc : adB},fK c.toNat acc → aO c (eC c.toNat acc s) = acc ++ s ∧ ∀ x ∈ eC c.toNat acc s,fK c.toNat x
 | [],acc,h=>by simp [eC,aO];exact h
 | d :: r,acc,h=>by
  unfold eC
  split
  ·rename_i hd
   have hd : d = c:=UInt8.toNat_inj.1 hd
   subst hd
   have ih:=kQ (c:=d) (s:=r) (acc:=[]) (by intro x hx;cases hx)
   have hp : eC d.toNat [] r ≠ []:=fun e=>by have:=oU (k:=d.toNat) (s:=r) (acc:=[]);rw [e] at this;simp at this
   refine ⟨by rw [lY d acc hp,ih.1];rfl,fun x hx=>?_⟩
   rcases List.mem_cons.1 hx with rfl | hx
   ·exact h
   ·exact ih.2 x hx
  ·rename_i hd
   have ih:=kQ (c:=c) (s:=r) (acc:=acc ++ [d]) (by
    intro x hx
    rcases List.mem_append.1 hx with hx | hx
    ·exact h x hx
    ·simp only [List.mem_singleton] at hx;subst hx;exact hd)
   exact ⟨by rw [ih.1];simp,ih.2⟩
theorem l9 (c : UInt8) (s : adB) : aO c (a9 c.toNat s) = s:=by have:=(kQ (c:=c) (s:=s) (acc:=[]) (by intro x hx;cases hx)).1;simpa [a9] using this
theorem zU {c : UInt8} {s x : adB} (h : x ∈ a9 c.toNat s) : fK c.toNat x:=(kQ (c:=c) (s:=s) (acc:=[]) (by intro x hx;cases hx)).2 x h
theorem oT {k : Nat} : ∀ {s acc t : adB},fK k s → eC k acc (s ++ t) = eC k (acc ++ s) t
 | [],acc,t,_=>by simp
 | d :: r,acc,t,h=>by
  rw [List.cons_append,eC,if_neg (h d (by simp)),oT (fun c hc=>h c (by simp [hc]))];simp
theorem pT {k : Nat} {s : adB} (h : fK k s) : a9 k s = [s]:=by
 have:=oT (k:=k) (s:=s) (acc:=[]) (t:=[]) h
 simpa [a9,eC] using this
theorem qI {k : Nat} {s t : adB} {c : UInt8} (h : fK k s) (hc : c.toNat = k) : a9 k (s ++ c :: t) = s :: a9 k t:=by
 unfold a9
 rw [oT h,eC,if_pos hc];rfl
theorem lW {c : UInt8} : ∀ {xs : List adB},xs ≠ [] → (∀ x ∈ xs,fK c.toNat x) → a9 c.toNat (aO c xs) = xs
 | [],h,_=>absurd rfl h
 | [x],_,h=>pT (h x (by simp))
 | x :: y :: r,_,h=>by
  rw [aO,qI (h x (by simp)) rfl,lW (by simp) fun z hz=>h z (by simp at hz ⊢;exact .inr hz)]
theorem yf {k : Nat} {s t : adB} {c : UInt8} (h : fK k s) (hc : c.toNat = k) : aH k (s ++ c :: t) = (s,t,true):=by
 induction s with
 | nil=>rw [List.nil_append,aH,if_pos hc]
 | cons d r ih=>rw [List.cons_append,aH,if_neg (h d (by simp)),ih fun x hx=>h x (by simp [hx])]
theorem tA {k : Nat} {s : adB} (h : fK k s) : aH k s = (s,[],false):=by
 induction s with
 | nil=>rfl
 | cons d r ih=>rw [aH,if_neg (h d (by simp)),ih fun x hx=>h x (by simp [hx])]
theorem oV {k : Nat} : ∀ {s : adB},fK k (aH k s).1
 | []=>by intro c hc;cases hc
 | d :: r=>by
  unfold aH
  split
  ·intro c hc;cases hc
  ·rename_i hd
   intro c hc
   rcases List.mem_cons.1 hc with rfl | hc
   ·exact hd
   ·exact oV c hc
theorem ma {k : Nat} (s : adB) : a9 k s = if (aH k s).2.2 = true then (aH k s).1 :: a9 k (aH k s).2.1 else [s]:=by
 cases h : (aH k s).2.2 with
 | false =>
  rw [if_neg (by simp)]
  have h1:=fS h
  refine pT ?_
  have:=oV (k:=k) (s:=s)
  rwa [h1] at this
 | true =>
  rw [if_pos rfl]
  obtain ⟨c,hc,e⟩:=ij (k:=k) (s:=s) (a:=(aH k s).1) (b:=(aH k s).2.1) (by rw [← h])
  conv=>{ lhs;rw [e] }
  exact qI oV hc
theorem lZ {s : adB} {k : Nat} (h : cT s = true) (hk : k < 97) : fK k s:=by
 intro c hc
 simp only [cT,Bool.and_eq_true,List.all_eq_true] at h
 have:=h.1 c hc
 simp only [kN,decide_eq_true_eq] at this
 omega
theorem tr {n m : Int} : ∀ {s : adB},dv n s = some m → ∀ c ∈ s,48 ≤ c.toNat ∧ c.toNat ≤ 57
 | [],_,c,hc=>by cases hc
 | d :: r,h,c,hc=>by
  unfold dv at h
  split at h
  ·rename_i hd
   rcases List.mem_cons.1 hc with rfl | hc
   ·exact hd
   ·exact tr h c hc
  ·cases h
theorem rk {s : adB} {top n : Int} (h : aN s top = some n) : ∀ c ∈ s,48 ≤ c.toNat ∧ c.toNat ≤ 57:=by
 unfold aN at h
 split at h
 ·split at h
  ·rename_i hd;exact tr hd
  ·cases h
 ·cases h
theorem mW {s : adB} {top n : Int} {k : Nat} (h : aN s top = some n) (hk : 57 < k) : fK k s:=fun c hc=>by
 have:=rk h c hc;omega
theorem wz {s : adB} (h : d6 s = true) {c : UInt8} (hc : c ∈ s) : c.toNat = 39 ∨ jt c.toNat:=by
 unfold d6 at h
 simp only [decide_eq_true_eq] at h
 obtain ⟨h1,h2,h3,h4⟩:=h
 obtain ⟨i,hi,rfl⟩:=List.mem_iff_getElem.1 hc
 have e : bt s i = (s[i]).toNat:=by simp [bt,List.getD,List.getElem?_eq_getElem hi]
 rw [← e]
 rcases Nat.lt_or_ge i (s.length - 1) with h5 | h5
 ·rcases h4 i h5 with h6 | h6
  ·subst h6;exact .inl h2
  ·exact .inr h6
 ·have : i = s.length - 1:=oM
  subst this;exact .inl h3
theorem nS {d v : adB} {k : Nat} (h : b9 d v = true) (hk : k = 58 ∨ k = 61) : fK k v:=by
 intro c hc
 unfold b9 at h
 split at h
 ·simp only [Bool.and_eq_true] at h
  obtain ⟨n,hn⟩:=Option.isSome_iff_exists.1 h.1
  have:=rk hn c hc;omega
 ·split at h
  ·simp only [Bool.and_eq_true] at h
   have:=wz h.1 hc
   unfold jt at this;omega
  ·split at h
   ·simp only [decide_eq_true_eq] at h
    subst h
    simp only [List.mem_cons,List.not_mem_nil,or_false] at hc
    rcases hc with rfl | rfl | rfl <;> (rcases hk with rfl | rfl <;> decide)
   ·cases h
theorem md : ∀ s : adB,(bU s).length ≤ s.length
 | []=>Nat.le_refl _
 | c :: r=>by
  unfold bU
  split
  ·have:=md r;simp;omega
  ·exact Nat.le_refl _
def sg (s : adB) : adB:=s.take (s.length - (bU s).length)
def qd : adB → adB
 | []=>[]
 | c :: r=>if c.toNat = 64 then [64] else c :: r
def bs (s : adB) : adB:=qd (bU s)
def nm (s : adB) : adB:=(cx (bU s)).getD []
theorem uL {k : Nat} (hk : k = 58 ∨ k = 61) : ∀ {s : adB},fe s = true → fK k s
 | [],h=>by cases h
 | c :: r,h=>by
  unfold fe at h
  split at h
  ·rename_i hc
   intro d hd
   rcases List.mem_cons.1 hd with rfl | hd
   ·omega
   ·exact uL hk h d hd
  ·split at h
   ·rename_i hc
    simp only [Bool.and_eq_true,decide_eq_true_eq] at h
    intro d hd
    rcases List.mem_cons.1 hd with rfl | hd
    ·omega
    ·obtain ⟨i,hi,rfl⟩:=List.mem_iff_getElem.1 hd
     rcases Nat.lt_or_ge i (r.length - 1) with h5 | h5
     ·refine lZ h.2 oM _ ?_
      exact List.mem_iff_getElem.2 ⟨i,by simp;omega,by simp⟩
     ·have h1 : bt (c :: r) r.length = 59:=oM
      have e : i = r.length - 1:=oM
      obtain ⟨m,hm⟩ : ∃ m,r.length = m + 1:=⟨r.length - 1,oM⟩
      rw [hm,eJ] at h1
      have : bt r m = (r[m]'oM).toNat:=by simp [bt,List.getD,List.getElem?_eq_getElem (show m < r.length by omega)]
      have e2 : i = m:=oM
      subst e2
      omega
   ·simp only [Bool.and_eq_true,Bool.or_eq_true,decide_eq_true_eq] at h
    intro d hd
    obtain ⟨rfl,h⟩:=h
    simp only [List.mem_singleton] at hd
    subst hd;omega
theorem iu {k : Nat} (hk : k = 58 ∨ k = 61) {s : adB} (h : bZ s = true) : fK k s:=by
 unfold bZ at h;simp only [Bool.and_eq_true] at h;exact uL hk h.2
def m9 (s : adB) (k : Nat) : Option Fld :=
 match a9 58 (aH 61 s).1 with
 | [a,b]=>if k = 69 ∧ (aH 61 s).2.2 = false then
   match aN a 200 with
   | some n=>if 1 ≤ n ∧ cT b = true then some ⟨n,b,[],[]⟩ else none
   | none=>none
  else none
 | [a,b,c]=>if k = 69 then none else
   match aN a 200 with
   | some n=>if (1 ≤ n ∧ cT b = true) ∧ bZ c = true ∧ ((aH 61 s).2.2 = true → k = 82 ∧ b9 c (aH 61 s).2.1 = true) then some ⟨n,b,c,(aH 61 s).2.1⟩ else none
   | none=>none
 | _=>none
theorem gK {k : Nat} {a b : adB} : fK k (a ++ b) ↔ fK k a ∧ fK k b:=by
 constructor
 ·intro h;exact ⟨fun c hc=>h c (by simp [hc]),fun c hc=>h c (by simp [hc])⟩
 ·intro h c hc
  rcases List.mem_append.1 hc with hc | hc
  ·exact h.1 c hc
  ·exact h.2 c hc
theorem iO {k : Nat} {c : UInt8} {b : adB} : fK k (c :: b) ↔ c.toNat ≠ k ∧ fK k b:=by
 constructor
 ·intro h;exact ⟨h c (by simp),fun d hd=>h d (by simp [hd])⟩
 ·intro h d hd
  rcases List.mem_cons.1 hd with rfl | hd
  ·exact h.1
  ·exact h.2 d hd
theorem vT {s : adB} {xs : List adB} (h : a9 58 s = xs) : s = aO 58 xs ∧ ∀ x ∈ xs,fK 58 x:=by
 subst h
 exact ⟨(l9 58 s).symm,fun x hx=>zU (c:=58) hx⟩
theorem qC (s : adB) (k : Nat) : m9 s k = cB s k:=by
 apply Option.ext
 intro f
 constructor
 ·intro h
  unfold m9 at h
  split at h
  ·rename_i a b e
   split at h
   ·rename_i hk
    have hs:=fS hk.2
    rw [hs] at e
    unfold cB
    rw [e]
    simp only [hk.1,if_true]
    exact h
   ·cases h
  ·rename_i a b c e
   split at h
   ·cases h
   ·rename_i hk
    split at h
    ·rename_i n hn
     split at h
     ·rename_i hg
      simp only [Option.some.injEq] at h;subst h
      cases ht : (aH 61 s).2.2 with
      | false =>
       have hs:=fS ht
       rw [hs] at e ⊢
       have hc61 : a9 61 c = [c]:=pT (iu (.inr rfl) hg.2.1)
       unfold cB
       rw [e]
       simp [hk,hn,hg.1.1,hg.1.2,hc61,hg.2.1]
      | true =>
       have hst:=hg.2.2 ht
       obtain ⟨d,hd,es⟩:=ij (k:=61) (s:=s) (a:=(aH 61 s).1) (b:=(aH 61 s).2.1) (by rw [← ht])
       generalize (aH 61 s).1 = hd1 at *
       generalize (aH 61 s).2.1 = v at *
       have hd : d = 61:=UInt8.toNat_inj.1 hd
       subst hd
       obtain ⟨e1,e2⟩:=vT e
       have e3 : s = aO 58 [a,b,c ++ 61 :: v]:=by rw [es,e1];simp [aO]
       have e4 : a9 58 s = [a,b,c ++ 61 :: v]:=by
        rw [e3]
        refine lW (c:=58) (by simp) fun x hx=>?_
        simp only [List.mem_cons,List.not_mem_nil,or_false] at hx
        rcases hx with rfl | rfl | rfl
        ·exact e2 _ (by simp)
        ·exact e2 _ (by simp)
        ·exact gK.2 ⟨e2 _ (by simp),iO.2 ⟨by decide,nS hst.2 (.inl F)⟩⟩
       have e5 : a9 61 (c ++ 61 :: v) = [c,v]:=by
        rw [qI (k:=61) (iu (.inr rfl) hg.2.1) rfl,pT (nS hst.2 (.inr rfl))]
       unfold cB
       rw [e4]
       simp [hk,hn,hg.1.1,hg.1.2,e5,hst.1,hst.2]
     ·cases h
    ·cases h
  ·cases h
 ·intro h
  unfold cB at h
  split at h
  ·rename_i a b e
   split at h
   ·rename_i hk
    split at h
    ·rename_i n hn
     split at h
     ·rename_i hg
      obtain ⟨e1,e2⟩:=vT e
      have hno : fK 61 s:=by rw [e1];simp only [aO];exact gK.2 ⟨mW hn oM,iO.2 ⟨by decide,lZ hg.2 oM⟩⟩
      unfold m9
      rw [tA hno,e]
      simp only [hk,hn,hg,and_self,if_true]
      exact h
     ·cases h
    ·cases h
   ·cases h
  ·rename_i a b c e
   split at h
   ·cases h
   ·rename_i hk
    split at h
    ·rename_i n hn
     split at h
     ·rename_i hg
      obtain ⟨e1,e2⟩:=vT e
      split at h
      ·rename_i d e3
       split at h
       ·rename_i hd
        simp only [Option.some.injEq] at h;subst h
        have e4 : c = d:=by have:=l9 61 c;rw [show (61 : UInt8).toNat = 61 from rfl,e3] at this;exact this.symm
        subst e4
        have hno : fK 61 s:=by rw [e1];simp only [aO];exact gK.2 ⟨mW hn oM,iO.2 ⟨by decide,gK.2 ⟨lZ hg.2 oM,iO.2 ⟨by decide,iu (.inr F) hd⟩⟩⟩⟩
        unfold m9
        rw [tA hno,e]
        simp [hk,hn,hg.1,hg.2,hd]
       ·cases h
      ·rename_i d v e3
       split at h
       ·rename_i hd
        simp only [Option.some.injEq] at h;subst h
        have e4 : c = d ++ 61 :: v:=by have:=l9 61 c;rw [show (61 : UInt8).toNat = 61 from rfl,e3] at this;exact this.symm
        subst e4
        have hkd:=mK hd.2
        have es : s = aO 58 [a,b,d] ++ 61 :: v:=by rw [e1];simp [aO]
        have hno : fK 61 (aO 58 [a,b,d]):=by simp only [aO];exact gK.2 ⟨mW hn oM,iO.2 ⟨by decide,gK.2 ⟨lZ hg.2 oM,iO.2 ⟨by decide,iu (.inr F) hkd⟩⟩⟩⟩
        have e5 : a9 58 (aO 58 [a,b,d]) = [a,b,d]:=by
         refine lW (c:=58) (by simp) fun x hx=>?_
         simp only [List.mem_cons,List.not_mem_nil,or_false] at hx
         rcases hx with rfl | rfl | rfl
         ·exact e2 _ (by simp)
         ·exact e2 _ (by simp)
         ·exact iu (.inl F) hkd
        unfold m9
        rw [es,yf (k:=61) hno rfl,e5]
        simp [hn,hg.1,hg.2,hkd,hd.1,hd.2]
       ·cases h
      ·cases h
     ·cases h
    ·cases h
  ·cases h
def fR (cs : adB) (c : Nat) : Bool:=cs.any fun d=>d.toNat == c
def dQ (p : Nat → Bool) : adB → adB
 | []=>[]
 | c :: r=>if p c.toNat = true then dQ p r else c :: r
def fT (p : Nat → Bool) (s : adB) : adB:=(dQ p s.reverse).reverse
abbrev o8 : TypeId:=216
theorem iD {b : Nat} {p : Nat → Bool} {c : Nat} (h : c < 256) : dO adA 178 [Pt b 0,U8 c] G [.blk b (.cells (cU p).toArray o8 (0,0))] (fun v L'=>v = Bo (p c) ∧ L' = [.blk b (.cells (cU p).toArray o8 (0,0))]):=by
 refine jH [(0,_),(1,_)] Tryz.func178 Tryz.ntmps178 fun B hB hW=>?_
 repeat' (first | refine jR ?_ | (refine jo ?_;first | refine jV (s6 F F oM) ?_ | refine jV (abe F F F aS) ?_))
 refine aW (vs:=[_]) F ⟨F,trivial⟩ F (List.Sublist.refl _) ⟨F,F,F⟩
theorem kU {b : Nat} {p : Nat → Bool} {s : adB} : dO adA 159 [S s,Pt b 0] G [.blk b (.cells (cU p).toArray o8 (0,0))] (fun v L'=>v = S (dQ p s) ∧ L' = [.blk b (.cells (cU p).toArray o8 (0,0))]):=by
 refine jH [(0,_),(1,_)] Tryz.func159 Tryz.ntmps159 fun B hB hW=>?_
 repeat' (refine jR ?_)
 refine aV (ι:=adB) (fun t=>dQ p t = dQ p s) (fun t=>[(0,S t),(1,Pt b 0)]) (fun _=>G) (fun t=>[.blk b (.cells (cU p).toArray o8 (0,0))]) (fun t=>t.length) s ?_ tU F a7 (fun t Ht=>?_)
 ·rfl
 match t,Ht with
 | [],Ht =>
  repeat' (first | refine jR ?_ | refine ad F F ?_)
  refine aW (vs:=[_]) F ⟨F,trivial⟩ F (List.Sublist.refl _) ⟨F,by rw [← Ht];rfl,rfl⟩
 | c :: r,Ht =>
  have hlt : bt (c :: r) (Int.toNat 0) < 256:=mr _ _
  have e0 : bt (c :: r) (Int.toNat 0) = c.toNat:=bD c r
  have hcons : (c :: r).length = r.length + 1:=rfl
  rw [dQ] at Ht
  by_cases hp : p (bt (c :: r) (Int.toNat 0)) = true
  ·have hp2 : (!p (bt (c :: r) (Int.toNat 0))) = false:=by rw [hp];rfl
   repeat' (first | refine jM ?_ | (refine jo ?_;(refine aL F F F (iD (by (repeat (assumption));done)) rfl ?_;rintro _ _ ⟨rfl,rfl⟩;dsimp only [zA,fA])) | refine ac F (ax oM) ?_ | refine ad F ‹_› ?_)
   refine bm r (by rw [← Ht,← e0,if_pos hp]) oM tU F a7
  ·have hp2 : (!p (bt (c :: r) (Int.toNat 0))) = true:=by simpa using hp
   repeat' (first | refine jM ?_ | (refine jo ?_;(refine aL F F F (iD (by (repeat (assumption));done)) rfl ?_;rintro _ _ ⟨rfl,rfl⟩;dsimp only [zA,fA])) | (refine ac F (by first | assumption | (refine decide_eq_true ?_;(omega))) ?_))
   refine aW (vs:=[_]) F ⟨F,trivial⟩ F (List.Sublist.refl _) ⟨F,by rw [← Ht,← e0,if_neg hp];rfl,rfl⟩
theorem qS (p : Nat → Bool) : ∀ s : adB,(dQ p s).length ≤ s.length
 | []=>Nat.le_refl _
 | c :: r=>by
  unfold dQ
  split
  ·have:=qS p r;simp;omega
  ·exact Nat.le_refl _
theorem wk (p : Nat → Bool) (s : adB) : (fT p s).length ≤ s.length:=by have:=qS p s.reverse;simpa [fT] using this
theorem vn (p : Nat → Bool) (s : adB) (c : UInt8) : fT p (s ++ [c]) = if p c.toNat = true then fT p s else s ++ [c]:=by
 unfold fT
 rw [List.reverse_append]
 simp only [List.reverse_cons,List.reverse_nil,List.nil_append,List.singleton_append,dQ]
 split <;> simp
theorem oW {b : Nat} {p : Nat → Bool} {s : adB} (hs : s.length ≤ 1000000000) : dO adA 160 [S s,Pt b 0] G [.blk b (.cells (cU p).toArray o8 (0,0))] (fun v L'=>v = S (fT p s) ∧ L' = [.blk b (.cells (cU p).toArray o8 (0,0))]):=by
 refine jH [(0,_),(1,_)] Tryz.func160 Tryz.ntmps160 fun B hB hW=>?_
 repeat' (refine jR ?_)
 refine aV (ι:=adB) (fun t=>t.length ≤ 1000000000 ∧ fT p t = fT p s) (fun t=>[(0,S t),(1,Pt b 0)]) (fun _=>G) (fun t=>[.blk b (.cells (cU p).toArray o8 (0,0))]) (fun t=>t.length) s ?_ tU F a7 (fun t Ht=>?_)
 ·exact ⟨hs,F⟩
 have hcase : t = [] ∨ ∃ r c,t = r ++ [c]:=by
  rcases List.eq_nil_or_concat t with h | ⟨r,c,h⟩
  ·exact .inl h
  ·exact .inr ⟨r,c,by rw [h,List.concat_eq_append]⟩
 rcases hcase with rfl | ⟨r,c,rfl⟩
 ·repeat' (first | refine jR ?_ | refine ad F F ?_)
  refine aW (vs:=[_]) F ⟨F,trivial⟩ F (List.Sublist.refl _) ⟨F,by rw [← Ht.2];rfl,rfl⟩
 ·have hcons : (r ++ [c]).length = r.length + 1:=by simp
  have e1 : (((r ++ [c]).length : Nat) : Int) - 1 = (r.length : Nat):=oM
  have e2 : ((((r ++ [c]).length : Nat) : Int) - 1).toNat = r.length:=oM
  have e0 : bt (r ++ [c]) ((((r ++ [c]).length : Nat) : Int) - 1).toNat = c.toNat:=by rw [e2];simp [bt,List.getD]
  have hlt : bt (r ++ [c]) ((((r ++ [c]).length : Nat) : Int) - 1).toNat < 256:=mr _ _
  have e3 : (r ++ [c]).take ((((r ++ [c]).length : Nat) : Int) - 1).toNat = r:=by rw [e2];simp
  have Ht2:=Ht.2
  rw [vn] at Ht2
  have hne : r ++ [c] ≠ []:=by simp
  by_cases hp : p (bt (r ++ [c]) ((((r ++ [c]).length : Nat) : Int) - 1).toNat) = true
  ·have hp2 : (!p (bt (r ++ [c]) ((((r ++ [c]).length : Nat) : Int) - 1).toNat)) = false:=by rw [hp];rfl
   repeat' (first | refine jM ?_ | (refine jo ?_;(refine aL F F F (iD (by (repeat (assumption));done)) rfl ?_;rintro _ _ ⟨rfl,rfl⟩;dsimp only [zA,fA])) | refine ac F (ax oM) ?_ | refine ad F ‹_› ?_)
   refine bm r ⟨oM,by rw [← Ht2,← e0,if_pos hp]⟩ oM ?_ F a7
   rw [e3];repeat (first | exact trivial | refine ⟨F,?_⟩)
  ·have hp2 : (!p (bt (r ++ [c]) ((((r ++ [c]).length : Nat) : Int) - 1).toNat)) = true:=by simpa using hp
   repeat' (first | refine jM ?_ | (refine jo ?_;(refine aL F F F (iD (by (repeat (assumption));done)) rfl ?_;rintro _ _ ⟨rfl,rfl⟩;dsimp only [zA,fA])) | (refine ac F (by first | assumption | (refine decide_eq_true ?_;(omega))) ?_))
   refine aW (vs:=[_]) F ⟨F,trivial⟩ F (List.Sublist.refl _) ⟨F,by rw [← Ht2,← e0,if_neg hp];rfl,rfl⟩
theorem xR (cs : adB) (i : Nat) (h : i < cs.length) : (fun x=>fR (cs.take i) x || x == bt cs i) = fR (cs.take (i + 1)):=by
 funext x
 have e : bt cs i = (cs[i]).toNat:=by simp [bt,List.getD,List.getElem?_eq_getElem h]
 have e2 : (x == (cs[i]).toNat) = ((cs[i]).toNat == x):=by rw [Bool.eq_iff_iff,beq_iff_eq,beq_iff_eq];exact eq_comm
 rw [List.take_succ_eq_append_getElem h,e,e2]
 simp only [fR,List.any_append,List.any_cons,List.any_nil,Bool.or_false]
theorem xk {cs : adB} (h : cs.all (fun c=>decide (c.toNat < 128)) = true) : ∀ i,i < cs.length → bt cs i < 128:=fun i hi=>by
 have e : bt cs i = (cs[i]).toNat:=by simp [bt,List.getD,List.getElem?_eq_getElem hi]
 rw [List.all_eq_true] at h
 rw [e]
 simpa using h cs[i] (List.getElem_mem hi)
theorem lu {cs : adB} (hc : ∀ i,i < cs.length → bt cs i < 128) (hl : cs.length ≤ 1000) : aZ adA 158 [S cs] G (· = Tu [Ag (cU (fR cs)),Bo true]):=by
 refine jE [(0,_)] Tryz.func158 Tryz.ntmps158 fun B hB=>?_
 repeat' (first | refine jR ?_ | (refine jo ?_;refine tV F F fun _=>?_))
 rename_i x
 refine aV (ι:=Nat) (fun i=>i ≤ cs.length) (fun i=>[(0,S cs),(2,Pt x 0),(4,I i)]) (fun _=>G) (fun i=>[.blk x (.cells (cU (fR (cs.take i))).toArray o8 (0,0))]) (fun i=>cs.length - i) 0 ?_ tU F a7 (fun i Hi=>?_)
 ·exact Nat.zero_le _
 by_cases hi : i < cs.length
 ·have h1 : bt cs ((i : Int).toNat) < 128:=hc i hi
  have h2 : bt cs ((i : Int).toNat) < 256:=oM
  repeat' (first | refine jM ?_ | (refine jo ?_;first | refine abF F F F F aS ?_ | refine jV (s6 F F oM) ?_) | refine ac F (ax oM) ?_ | refine ad F (aF oM) ?_)
  refine bm (i + 1) oM oM tU F (by rw [← xR cs i hi];repeat (exact List.Sublist.refl _))
 ·have ei : i = cs.length:=oM
  subst ei
  repeat' (first | refine jR ?_ | (refine jo ?_;first | refine jV (abd F F F F) ?_ | refine tH F F F F ?_) | refine ad F (aF oM) ?_)
  refine jZ (vs:=[_,_]) F ⟨ace F F F F,F,trivial⟩ F ⟨F,F,?_⟩
  rw [List.take_length];rfl
theorem xh {s cs : adB} (h2 : Nat.ble 2 cs.length = true) (hc : cs.all (fun c=>decide (c.toNat < 128)) = true) (hl : Nat.ble cs.length 1000 = true) (hs : s.length ≤ 2000000) : aZ adA 126 [S s,S cs] G (· = S (dQ (fR cs) (fT (fR cs) s))):=by
 have h2:=Nat.le_of_ble_eq_true h2
 have hl:=Nat.le_of_ble_eq_true hl
 have cx_mkas:=lu (G:=G) (xk hc) hl
 by_cases h0 : s = []
 ·subst h0
  refine jE [(0,_),(1,_)] Tryz.func126 Tryz.ntmps126 fun B hB=>?_
  repeat' (first | refine jR ?_ | (refine jo ?_;refine aP F ?_) | refine aG F F F ?_ | refine ac F F ?_)
  all_goals refine jY (vs:=[_]) ?_
  all_goals rfl
 have hn : ¬ cs = []:=by rintro rfl;simp at h2
 have hr:=wk (fR cs) s
 refine jE [(0,_),(1,_)] Tryz.func126 Tryz.ntmps126 fun B hB=>?_
 repeat' (first | refine jR ?_ | (refine jo ?_;first | refine aE F ?_ | refine tV F F fun _=>?_ | refine tH F F F F ?_ | refine ae F F F cx_mkas F ?_ | (refine aL F F F (oW oM) F ?_;rintro _ _ ⟨rfl,rfl⟩;dsimp only [zA,fA]) | (refine aL F F F kU F ?_;rintro _ _ ⟨rfl,rfl⟩;dsimp only [zA,fA])) | (refine aw F F (by refine decide_eq_false ?_;first | assumption | omega) ?_) | refine ac F F ?_ | (refine ad F (by first | rfl | (refine decide_eq_false ?_;(assumption))) ?_))
 all_goals refine jY (vs:=[_]) ?_
 all_goals rfl
theorem mq {s cs : adB} (h2 : Nat.ble 2 cs.length = true) (hc : cs.all (fun c=>decide (c.toNat < 128)) = true) (hl : Nat.ble cs.length 1000 = true) : aZ adA 133 [S s,S cs] G (· = S (dQ (fR cs) s)):=by
 have h2:=Nat.le_of_ble_eq_true h2
 have hl:=Nat.le_of_ble_eq_true hl
 have cx_mkas:=lu (G:=G) (xk hc) hl
 by_cases h0 : s = []
 ·subst h0
  refine jE [(0,_),(1,_)] Tryz.func133 Tryz.ntmps133 fun B hB=>?_
  repeat' (first | refine jR ?_ | (refine jo ?_;refine aP F ?_) | refine aG F F F ?_ | refine ac F F ?_)
  all_goals refine jY (vs:=[_]) ?_
  all_goals rfl
 have hn : ¬ cs = []:=by rintro rfl;simp at h2
 refine jE [(0,_),(1,_)] Tryz.func133 Tryz.ntmps133 fun B hB=>?_
 repeat' (first | refine jR ?_ | (refine jo ?_;first | refine aE F ?_ | refine tV F F fun _=>?_ | refine tH F F F F ?_ | refine ae F F F cx_mkas F ?_ | (refine aL F F F kU F ?_;rintro _ _ ⟨rfl,rfl⟩;dsimp only [zA,fA])) | (refine aw F F (by refine decide_eq_false ?_;first | assumption | omega) ?_) | refine ac F F ?_ | (refine ad F (by first | rfl | (refine decide_eq_false ?_;(assumption))) ?_))
 all_goals refine jY (vs:=[_]) ?_
 all_goals rfl
theorem qR {p : Nat → Bool} : ∀ {s : adB},dQ p s = [] ↔ ∀ c ∈ s,p c.toNat = true
 | []=>by simp [dQ]
 | c :: r=>by
  unfold dQ
  by_cases h : p c.toNat = true
  ·rw [if_pos h,qR];simp [h]
  ·rw [if_neg h];simp [h]
theorem wj {p : Nat → Bool} {s : adB} : (∀ c ∈ fT p s,p c.toNat = true) ↔ ∀ c ∈ s,p c.toNat = true:=by
 have key : ∀ l : adB,(∀ c ∈ dQ p l,p c.toNat = true) ↔ ∀ c ∈ l,p c.toNat = true:=by
  intro l
  induction l with
  | nil=>simp [dQ]
  | cons c r ih =>
   unfold dQ
   by_cases h : p c.toNat = true
   ·rw [if_pos h,ih];simp [h]
   ·rw [if_neg h]
 unfold fT
 have:=key s.reverse
 simpa using this
theorem sd {p : Nat → Bool} {s : adB} : dQ p (fT p s) = [] ↔ ∀ c ∈ s,p c.toNat = true:=by rw [qR,wj]
def vi : adB:=[97,98,99,100,101,102,103,104,105,106,107,108,109,110,111,112,113,114,115,116,117,118,119,120,121,122]
def r9 : adB:=vi ++ [48,49,50,51,52,53,54,55,56,57,32]
theorem acS (c : UInt8) : fR vi c.toNat = kN c:=by
 have : ∀ n : Nat,n < 256 → fR vi n = decide (97 ≤ n ∧ n ≤ 122):=by decide +kernel
 rw [this _ c.toNat_lt];rfl
theorem ab7 (c : UInt8) : fR r9 c.toNat = decide (jt c.toNat):=by
 have : ∀ n : Nat,n < 256 → fR r9 n = decide (jt n):=by decide +kernel
 exact this _ c.toNat_lt
theorem aav (s : adB) : dQ (fR vi) (fT (fR vi) s) = [] ↔ s.all kN = true:=by
 rw [sd,List.all_eq_true]
 exact forall_congr' fun c=>forall_congr' fun _=>by rw [acS]
theorem dT {s : adB} (h : s.length ≤ 2000000) : aZ adA 83 [S s] G (· = Bo (cT s)):=by
 have cx_trim:=xh (G:=G) (s:=s) (cs:=vi) rfl kR rfl h
 by_cases hl : 1 ≤ s.length ∧ s.length ≤ 3
 ·refine jE [(0,_)] Tryz.func83 Tryz.ntmps83 fun B hB=>?_
  repeat' (first | refine jR ?_ | (refine jo ?_;first | refine aE F ?_ | refine ae F F F cx_trim F ?_) | refine aw F F (aF oM) ?_ | refine ad F (aF oM) ?_)
  all_goals refine jY (vs:=[_]) ?_
  have:=aav s
  unfold cT
  rw [decide_eq_true hl,Bool.and_true]
  refine congrArg Bo ?_
  rw [Bool.eq_iff_iff]
  simpa using this
 ·have e : cT s = false:=by unfold cT;rw [decide_eq_false hl,Bool.and_false]
  rw [e]
  refine jE [(0,_)] Tryz.func83 Tryz.ntmps83 fun B hB=>?_
  repeat' (first | refine jR ?_ | (refine jo ?_;first | refine aP F ?_ | refine aE F ?_) | refine fu F F (fun _=>?_) (fun _=>?_) | (refine ac F (by first | rfl | (refine decide_eq_true ?_;(omega))) ?_))
  all_goals refine jY (vs:=[_]) ?_
  all_goals rfl
theorem vU (s : adB) : bU s = dQ (fR [91,63]) s:=by
 induction s with
 | nil=>rfl
 | cons c r ih =>
  have e : fR [91,63] c.toNat = decide (c.toNat = 91 ∨ c.toNat = 63):=by
   have : ∀ n : Nat,n < 256 → fR [91,63] n = decide (n = 91 ∨ n = 63):=by decide +kernel
   exact this _ c.toNat_lt
  unfold bU dQ
  rw [e]
  by_cases h : c.toNat = 91 ∨ c.toNat = 63
  ·simp only [h,if_true,decide_true];exact ih
  ·simp [h]
theorem sV : ∀ {s : adB},fe (bU s) = fe s
 | []=>rfl
 | c :: r=>by
  unfold bU
  split
  ·rename_i h;rw [sV];conv=>{ rhs;unfold fe };rw [if_pos h]
  ·rfl
def cR (s : adB) : List Value:=[S (sg s),S (bs s),S (nm s)]
def xm (s : adB) (v : Value) : Prop:=∃ a b c,v = Tu [Ag [S a,S b,S c],Bo (bZ s)] ∧ (bZ s = true → a = sg s ∧ b = bs s ∧ c = nm s)
theorem tZ {s p : adB} (hp : p.length ≤ 1000000000) (hs : s.length ≤ 1000000000) : aZ adA 168 [S s,S p] G (· = Bo (decide (p.length ≤ s.length ∧ s.drop (s.length - p.length) = p))):=by
 by_cases h : p.length ≤ s.length
 ·have e : (((s.length : Nat) : Int) - ((p.length : Nat) : Int)).toNat = s.length - p.length:=oM
  refine jE [(0,_),(1,_)] Tryz.func168 Tryz.ntmps168 fun B hB=>?_
  repeat' (first | refine jM ?_ | (refine jo ?_;refine aP F ?_) | refine aG F F (ax oM) ?_)
  all_goals refine jY (vs:=[_]) ?_
  all_goals (rw [e];simp [h];try rfl)
 ·refine jE [(0,_),(1,_)] Tryz.func168 Tryz.ntmps168 fun B hB=>?_
  repeat' (first | refine jR ?_ | (refine jo ?_;refine aE F ?_) | refine aw F F (aF oM) ?_)
  all_goals refine jY (vs:=[_]) ?_
  all_goals (simp [h];try rfl)
theorem oe {s p : adB} (hp : p.length ≤ 1000000000) (hs : s.length ≤ 1000000000) : aZ adA 134 [S s,S p] G (· = Bo (decide (p.length ≤ s.length ∧ s.drop (s.length - p.length) = p))):=by
 refine jE [(0,_),(1,_)] Tryz.func134 Tryz.ntmps134 fun B hB=>?_
 repeat' (first | refine jR ?_ | (refine jo ?_;refine ae F F F (tZ oM oM) F ?_))
 all_goals refine jY (vs:=[_]) ?_
 all_goals rfl
theorem aaI {c : UInt8} {r : adB} : (1 ≤ (c :: r).length ∧ (c :: r).drop ((c :: r).length - 1) = [59]) ↔ bt (c :: r) r.length = 59:=by
 have hl : (c :: r).length - 1 = r.length:=by simp
 rw [hl]
 have hlt : r.length < (c :: r).length:=by simp
 obtain ⟨d,h1,h2⟩:=lj hlt
 rw [h1,h2]
 have h3 : (c :: r).drop (r.length + 1) = []:=by simp
 rw [h3]
 constructor
 ·rintro ⟨_,h⟩;simp only [List.cons.injEq,and_true] at h;rw [h];rfl
 ·intro h;exact ⟨by simp,by rw [show d = 59 from UInt8.toNat_inj.1 h]⟩
theorem nk : ∀ {s : adB} {c : UInt8} {r : adB},bU s = c :: r → ¬ (c.toNat = 91 ∨ c.toNat = 63)
 | [],c,r,h=>by simp [bU] at h
 | d :: s,c,r,h=>by
  unfold bU at h
  split at h
  ·exact nk h
  ·rename_i hd
   simp only [List.cons.injEq] at h
   rw [← h.1];exact hd
theorem ui {s t : adB} (h : s.length ≤ 12) (ht : bU s = t) : aZ adA 88 [S s] G (xm s):=by
 have cx_triml : aZ adA 133 [S s,S [91,63]] G (· = S t):=by
  rw [← ht,vU]
  exact mq F kR F
 have hcl:=md s
 rw [ht] at hcl
 have ek : bZ s = fe t:=by unfold bZ;rw [decide_eq_true h,Bool.true_and,← ht,sV]
 have esg : s.take (((s.length : Nat) : Int) - ((t.length : Nat) : Int)).toNat = sg s:=by
  unfold sg;rw [ht];congr 1;omega
 have ebs : bs s = qd t:=by unfold bs;rw [ht]
 have enm : nm s = (cx t).getD []:=by unfold nm;rw [ht]
 have hns : ∀ c r,t = c :: r → ¬ (c.toNat = 91 ∨ c.toNat = 63):=fun c r e=>nk (ht.trans e)
 clear ht
 match t,hcl,ek,ebs,enm,cx_triml,esg,hns with
 | [],hcl,ek,ebs,enm,cx_triml,esg,hns =>
  have hno : bZ s = false:=by rw [ek];rfl
  have cx_suf:=oe (G:=G) (s:=[]) (p:=[59]) (by simp) (by simp)
  refine jE [(0,_)] Tryz.func88 Tryz.ntmps88 fun B hB=>?_
  repeat' (first | refine jM ?_ | (refine jo ?_;first | refine jL fun _=>?_ | refine jV (ay F F) ?_ | refine jC F F F ?_ | refine aE F ?_ | refine ae F F F cx_triml F ?_ | refine ae F F F ja F ?_) | refine aw F F F ?_ | (refine ad F (by first | rfl | (refine decide_eq_false ?_;(omega))) ?_))
  all_goals refine jZ (vs:=[_,_]) F ⟨aJ F F F F,F,trivial⟩ F ⟨F,F,?_⟩
  all_goals exact ⟨[],[],[],by rw [hno];rfl,fun h=>by rw [hno] at h;cases h⟩
 | c :: r,hcl,ek,ebs,enm,cx_triml,esg,hns =>
  by_cases hA : c :: r = [110] ∨ c :: r = [116] ∨ c :: r = [102]
  ·rcases hA with hA | hA | hA
   all_goals (simp only [List.cons.injEq] at hA;obtain ⟨rfl,rfl⟩:=hA)
   all_goals have hyes : bZ s = true:=by rw [ek];rfl
   all_goals refine jE [(0,_)] Tryz.func88 Tryz.ntmps88 fun B hB=>?_
   all_goals repeat' (first | refine jM ?_ | (refine jo ?_;first | refine jL fun _=>?_ | refine jV (ay F F) ?_ | refine jD F F F ?_ | refine jC F F F ?_ | refine aP F ?_ | refine aE F ?_ | refine bM F ?_ | refine ae F F F cx_triml F ?_) | refine aG F F F ?_ | refine aw F F F ?_ | refine ac F F ?_ | refine ad F (aF oM) ?_)
   all_goals refine jZ (vs:=[_,_]) F ⟨aJ F F F F,F,trivial⟩ F ⟨F,F,?_⟩
   all_goals exact ⟨_,_,_,by rw [hyes];rfl,fun _=>⟨esg,by rw [ebs];rfl,by rw [enm];rfl⟩⟩
  simp only [not_or] at hA
  obtain ⟨hA1,hA2,hA3⟩:=hA
  by_cases hc : c = 64
  case neg =>
   have hc' : ¬ c.toNat = 64:=fun h=>hc (UInt8.toNat_inj.1 h)
   have hno : bZ s = false:=by
    rw [ek,fe,if_neg (hns c r rfl),if_neg hc']
    by_cases hr : r = []
    ·subst hr
     have n1 : ¬ c.toNat = 110:=fun h=>hA1 (by rw [show c = 110 from UInt8.toNat_inj.1 h])
     have n2 : ¬ c.toNat = 116:=fun h=>hA2 (by rw [show c = 116 from UInt8.toNat_inj.1 h])
     have n3 : ¬ c.toNat = 102:=fun h=>hA3 (by rw [show c = 102 from UInt8.toNat_inj.1 h])
     simp [n1,n2,n3]
    ·simp [hr]
   have hp : ([64] : adB).isPrefixOf (c :: r) = false:=by simp [List.isPrefixOf];exact fun h=>hc h.symm
   refine jE [(0,_)] Tryz.func88 Tryz.ntmps88 fun B hB=>?_
   repeat' (first | refine jM ?_ | (refine jo ?_;first | refine jL fun _=>?_ | refine jV (ay F F) ?_ | refine jC F F F ?_ | refine aE F ?_ | refine ae F F F cx_triml F ?_ | refine ae F F F ja F ?_) | (refine aw F F (by first | assumption | (refine decide_eq_false ?_;(assumption))) ?_) | (refine ad F (by first | rfl | (refine decide_eq_false ?_;first | assumption | omega)) ?_))
   all_goals refine jZ (vs:=[_,_]) F ⟨aJ F F F F,F,trivial⟩ F ⟨F,F,?_⟩
   all_goals exact ⟨[],[],[],by rw [hno];rfl,fun h=>by rw [hno] at h;cases h⟩
  subst hc
  have hp : ([64] : adB).isPrefixOf (64 :: r) = true:=by simp [List.isPrefixOf]
  have hsuf:=oe (G:=G) (s:=64 :: r) (p:=[59]) (by simp) (by simp at hcl ⊢;omega)
  have ek2 : bZ s = (decide (bt (64 :: r) r.length = 59) && cT (r.take (r.length - 1))):=by
   rw [ek,fe,if_neg dC,if_pos dC]
   congr 1
   refine decide_eq_decide.2 ?_
   omega
  have hsb:=aaI (c:=64) (r:=r)
  by_cases hb : bt (64 :: r) r.length = 59
  case neg =>
   have cx_suf : aZ adA 134 [S (64 :: r),S [59]] G (· = Bo false):=by
    have e : decide (([59] : adB).length ≤ (64 :: r : adB).length ∧ (64 :: r : adB).drop ((64 :: r : adB).length - ([59] : adB).length) = [59]) = false:=decide_eq_false fun h=>hb (hsb.1 h)
    rwa [e] at hsuf
   have hno : bZ s = false:=by rw [ek2,decide_eq_false hb,Bool.false_and]
   refine jE [(0,_)] Tryz.func88 Tryz.ntmps88 fun B hB=>?_
   repeat' (first | refine jM ?_ | (refine jo ?_;first | refine jL fun _=>?_ | refine jV (ay F F) ?_ | refine jC F F F ?_ | refine aP F ?_ | refine aE F ?_ | refine ae F F F cx_triml F ?_ | refine ae F F F ja F ?_ | refine ae F F F cx_suf F ?_) | refine aG F F F ?_ | refine aw F F F ?_ | (refine ad F (by first | rfl | (refine decide_eq_false ?_;(omega))) ?_))
   all_goals refine jZ (vs:=[_,_]) F ⟨aJ F F F F,F,trivial⟩ F ⟨F,F,?_⟩
   all_goals exact ⟨[],[],[],by rw [hno];rfl,fun h=>by rw [hno] at h;cases h⟩
  have cx_suf : aZ adA 134 [S (64 :: r),S [59]] G (· = Bo true):=by
   have e : decide (([59] : adB).length ≤ (64 :: r : adB).length ∧ (64 :: r : adB).drop ((64 :: r : adB).length - ([59] : adB).length) = [59]) = true:=decide_eq_true (hsb.2 hb)
   rwa [e] at hsuf
  have hr : 1 ≤ r.length:=by
   cases r with
   | nil=>exact absurd hb dC
   | cons=>simp
  have hl2 : (64 :: r : adB).length = r.length + 1:=rfl
  have e1 : ((64 :: r : adB).take ((((64 :: r : adB).length : Nat) : Int) - 1).toNat).drop (Int.toNat 1) = r.take (r.length - 1):=by
   have e2 : ((((64 :: r : adB).length : Nat) : Int) - 1).toNat = (r.length - 1) + 1:=oM
   rw [e2,List.take_succ_cons];rfl
  have hyes : bZ s = cT (r.take (r.length - 1)):=by rw [ek2,decide_eq_true hb,Bool.true_and]
  have cx_isnm : aZ adA 83 [S (((64 :: r : adB).take ((((64 :: r : adB).length : Nat) : Int) - 1).toNat).drop (Int.toNat 1))] G (· = Bo (cT (r.take (r.length - 1)))):=by
   rw [e1];exact dT (by simp at hcl ⊢;omega)
  refine jE [(0,_)] Tryz.func88 Tryz.ntmps88 fun B hB=>?_
  repeat' (first | refine jM ?_ | (refine jo ?_;first | refine jL fun _=>?_ | refine jV (ay F F) ?_ | refine jD F F F ?_ | refine jC F F F ?_ | refine aP F ?_ | refine aE F ?_ | refine ae F F F cx_triml F ?_ | refine ae F F F ja F ?_ | refine ae F F F cx_suf F ?_) | refine aG F F F ?_ | refine aw F F F ?_ | refine ac F F ?_ | (refine ad F (by first | rfl | (refine decide_eq_false ?_;(omega))) ?_) | (refine an (ec (id:=11) (tt:=2) F am ?_);refine jW 5 [1] (aa 6 2) ?_;(refine jG (aa 6 3) 0 F (bP F F F F) ?_);(refine jG (aa 6 7) 2 F (aX F F F) ?_);refine jA 3 F ?_;(refine ae F F F cx_isnm F ?_);refine jK (aa 6 15) ?_;refine jA 4 F ?_;(refine jC F F F ?_);refine jK (aa 6 31) ?_;refine jW 0 [5] (aa 6 63) ?_;refine jQ ?_))
  all_goals refine jZ (vs:=[_,_]) F ⟨aJ F F F F,F,trivial⟩ F ⟨F,F,?_⟩
  all_goals exact ⟨_,_,_,by rw [hyes];rfl,fun _=>⟨esg,by rw [ebs];rfl,by rw [enm,e1];rfl⟩⟩
theorem mj {s : adB} (h : s.length ≤ 2000000) : aZ adA 88 [S s] G (xm s):=by
 by_cases hl : s.length ≤ 12
 ·exact ui hl F
 have e : bZ s = false:=by unfold bZ;rw [decide_eq_false hl,Bool.false_and]
 refine jE [(0,_)] Tryz.func88 Tryz.ntmps88 fun B hB=>?_
 repeat' (first | refine jR ?_ | (refine jo ?_;first | refine jL fun _=>?_ | refine jV (ay F F) ?_ | refine jC F F F ?_) | refine ac F (ax oM) ?_)
 all_goals refine jZ (vs:=[_,_]) F ⟨aJ F F F F,F,trivial⟩ F ⟨F,F,?_⟩
 all_goals exact ⟨[],[],[],by rw [e];rfl,fun h=>by rw [e] at h;cases h⟩
theorem wg {c : UInt8} (h : 48 ≤ c.toNat) : u8 (48 + ((c.toNat : Int) - 48)) = c:=by
 apply UInt8.toNat_inj.1
 have h2:=c.toNat_lt
 have:=jc (a:=48 + ((c.toNat : Int) - 48)) oM
 omega
theorem tu : ∀ {s : adB} {n m : Int},1 ≤ n → dv n s = some m → be m = be n ++ s ∧ n ≤ m
 | [],n,m,h0,h=>by simp only [dv,Option.some.injEq] at h;subst h;simp
 | c :: r,n,m,h0,h=>by
  unfold dv at h
  split at h
  ·rename_i hc
   have ih:=tu (s:=r) oM h
   refine ⟨?_,oM⟩
   have e1 : (10 * n + ((c.toNat : Int) - 48)) / 10 = n:=oM
   have e2 : (10 * n + ((c.toNat : Int) - 48)) % 10 = (c.toNat : Int) - 48:=oM
   rw [ih.1,iU (n:=10 * n + ((c.toNat : Int) - 48)) oM,e1,e2,wg hc.1];simp
  ·cases h
theorem ni : ∀ (k : Nat) {m : Int},m.toNat ≤ k → 1 ≤ m → ∃ c r,be m = c :: r ∧ c.toNat ≠ 48
 | 0,m,h,h1=>by omega
 | k + 1,m,h,h1=>by
  by_cases hm : m < 10
  ·refine ⟨_,[],dZ hm oM,?_⟩
   have:=jc (a:=48 + m) oM
   omega
  ·obtain ⟨c,r,e,hc⟩:=ni k (m:=m / 10) oM oM
   exact ⟨c,r ++ [u8 (48 + m % 10)],by rw [iU hm,e];rfl,hc⟩
theorem qH : ∀ {s : adB} {n m : Int},0 ≤ n → dv n s = some m → 0 ≤ m
 | [],n,m,h0,h=>by simp only [dv,Option.some.injEq] at h;omega
 | c :: r,n,m,h0,h=>by
  unfold dv at h
  split at h
  ·exact qH (s:=r) oM h
  ·cases h
theorem uW {c : UInt8} {r : adB} {m : Int} (h : dv 0 (c :: r) = some m) : c :: r = be m ↔ ¬ (c.toNat = 48 ∧ r ≠ []):=by
 have h':=h
 unfold dv at h
 split at h
 ·rename_i hc
  by_cases h0 : c.toNat = 48
  ·have e0 : (10 * 0 + ((c.toNat : Int) - 48)) = 0:=oM
   rw [e0] at h
   constructor
   ·rintro e ⟨_,hr⟩
    have hm:=qH (Int.le_refl 0) h
    rcases Int.lt_or_le m 1 with h1 | h1
    ·have : m = 0:=oM
     subst this
     rw [dZ oM oM] at e
     simp only [List.cons.injEq] at e
     exact hr e.2
    ·obtain ⟨d,t,e2,hd⟩:=ni m.toNat (Nat.le_refl _) h1
     rw [e2] at e
     simp only [List.cons.injEq] at e
     exact hd (by rw [← e.1];exact h0)
   ·intro hn
    have hr : r = []:=by
     by_cases hr : r = []
     ·exact hr
     ·exact absurd ⟨h0,hr⟩ hn
    subst hr
    simp only [dv,Option.some.injEq] at h
    subst h
    rw [dZ oM oM]
    congr 1
    apply UInt8.toNat_inj.1
    have:=jc (a:=48 + 0) oM
    omega
  ·have:=tu oM h
   rw [this.1,dZ oM oM]
   have e : (10 * 0 + ((c.toNat : Int) - 48)) = (c.toNat : Int) - 48:=oM
   rw [e,wg hc.1]
   simp [h0]
 ·cases h
theorem lq {s : adB} {top : Int} (h : s.length ≤ 100000000) : aZ adA 119 [S s,I top] G (fun v=>∃ n,v = Tu [I n,Bo (aN s top).isSome] ∧ (∀ m,aN s top = some m → n = m) ∧ 0 ≤ n ∧ n ≤ 999999):=by
  by_cases hl : 1 ≤ s.length ∧ s.length ≤ 6
  case neg =>
    have hno : aN s top = none:=by
      unfold aN
      by_cases h6 : s.length ≤ 6
      · have : s = []:=List.length_eq_zero_iff.1 oM
        subst this
        rw [if_pos (by simp)]
        simp [dv,dZ]
      · rw [if_neg h6]
    refine jE [(0,_),(1,_)] Tryz.func119 Tryz.ntmps119 fun B hB=>?_
    repeat' (first | refine jR ?_ | (refine jo ?_;first | refine aP F ?_ | refine aE F ?_) | (refine aG F F (by first | rfl | (refine decide_eq_true ?_;(omega))) ?_) | refine fu F F (fun _=>?_) (fun _=>?_) | refine ac F F ?_)
    all_goals refine jY (vs:=[_,_]) ?_
    all_goals exact ⟨_,by rw [hno];rfl,fun m hm=>(by rw [hno] at hm;cases hm),by decide,by decide⟩
  by_cases hz : bt s 0 = 48 ∧ 1 < s.length
  · have hz0 : bt s (Int.toNat 0) = 48:=hz.1
    have hno : aN s top = none:=by
      match s,hz,hl with
      | c :: r,hz,hl =>
        unfold aN
        rw [if_pos hl.2]
        split
        · rename_i n hn
          rw [if_neg]
          rintro ⟨e,_⟩
          rw [bD] at hz
          exact (uW hn).1 e ⟨hz.1,by rintro rfl;simp at hz⟩
        · rfl
    refine jE [(0,_),(1,_)] Tryz.func119 Tryz.ntmps119 fun B hB=>?_
    repeat' (first | refine jM ?_ | (refine jo ?_;first | refine aP F ?_ | refine aE F ?_) | refine aG F F (ax oM) ?_ | refine aw F F (aF oM) ?_ | refine ac F (ax oM) ?_)
    all_goals refine jY (vs:=[_,_]) ?_
    all_goals exact ⟨_,by rw [hno];rfl,fun m hm=>(by rw [hno] at hm;cases hm),by decide,by decide⟩
  have hz0 : ¬ (bt s (Int.toNat 0) = 48 ∧ 1 < s.length):=hz
  have key : aN s top = match dv 0 s with
      | some n=>if n ≤ top then some n else none
      | none=>none:=by
    match s,hz,hl with
    | c :: r,hz,hl =>
      unfold aN
      rw [if_pos hl.2]
      cases hd : dv 0 (c :: r) with
      | some n =>
        have hn:=hd
        have : c :: r = be n:=(uW hn).2 (by rw [bD] at hz;rintro ⟨h1,h2⟩;exact hz ⟨h1,by have:=List.length_pos_iff.2 h2;simp;omega⟩)
        dsimp only
        rw [← this]
        simp
      | none=>rfl
  refine jE [(0,_),(1,_)] Tryz.func119 Tryz.ntmps119 fun B hB=>?_
  repeat' (first | refine jM ?_ | (refine jo ?_;first | refine aP F ?_ | refine aE F ?_) | refine aw F F (aF oM) ?_ | refine fu F F (fun _=>?_) (fun _=>?_) | (refine ad F (by first | rfl | (refine decide_eq_false ?_;(omega))) ?_))
  all_goals (refine aV (ι:=Nat × Int) (fun i=>(i.1 ≤ s.length ∧ i.1 ≤ 6) ∧ (0 ≤ i.2 ∧ i.2 + 1 ≤ 10 ^ i.1) ∧ dv i.2 (s.drop i.1) = dv 0 s) (fun i=>[(0,S s),(1,I top),(6,I i.2),(27,I s.length),(28,I i.1)]) (fun _=>G) (fun i=>[]) (fun i=>s.length - i.1) (0,0) ?_ tU F a7 (fun i Hi=>?_))
  all_goals (first | exact ⟨⟨by dsimp only;omega,by dsimp only;omega⟩,⟨by dsimp only;omega,by dsimp only;decide⟩,rfl⟩ | skip)
  all_goals obtain ⟨i,n⟩:=i
  all_goals dsimp only at Hi ⊢
  all_goals by_cases hi : i < s.length
  all_goals first
    | (obtain ⟨c,hc1,hc2⟩:=lj hi
       have hc3 : bt s ((i : Int).toNat) = c.toNat:=hc2
       have hd:=Hi.2.2
       rw [hc1,dv] at hd
       have h5 : i ≤ 5:=oM
       have hp:=xI i h5
       by_cases hdig : 48 ≤ c.toNat ∧ c.toNat ≤ 57
       · rw [if_pos hdig] at hd
         repeat' (first | refine jM ?_ | (refine jo ?_;refine aE F ?_) | refine aw F F (aF oM) ?_ | refine ac F (ax oM) ?_ | refine ad F (aF oM) ?_)
         refine bm (i + 1,10 * n + ((c.toNat : Int) - 48)) ⟨⟨by dsimp only;omega,by dsimp only;omega⟩,⟨by dsimp only;omega,by dsimp only;rw [hp.1];omega⟩,hd⟩ (by dsimp only;omega) ?_ rfl a7
         rw [← hc2];repeat (first | exact trivial | refine ⟨F,?_⟩)
       · rw [if_neg hdig] at hd
         have hno : aN s top = none:=by rw [key,← hd]
         repeat' (first | refine jM ?_ | (refine jo ?_;first | refine aP F ?_ | refine aE F ?_) | refine fu F F (fun _=>?_) (fun _=>?_) | (refine ac F (by first | rfl | (refine decide_eq_true ?_;(omega))) ?_))
         all_goals refine jY (vs:=[_,_]) ?_
         all_goals exact ⟨_,by rw [hno];rfl,fun m hm=>(by rw [hno] at hm;cases hm),by decide,by decide⟩)
    | (have ei : i = s.length:=oM
       have hd:=Hi.2.2
       rw [ei,List.drop_length,dv] at hd
       have hno : aN s top = if n ≤ top then some n else none:=by rw [key,← hd]
       repeat' (first | refine jR ?_ | refine ad F (aF oM) ?_)
       refine jY (vs:=[_,_]) ?_
       have hp6 : ∀ i : Nat,i ≤ 6 → (10 : Int) ^ i ≤ 1000000:=by decide
       have hp7:=hp6 i oM
       have hlo:=Hi.2.1.1
       have hhi:=Hi.2.1.2
       refine ⟨n,?_,fun m hm=>?_,oM,oM⟩
       · rw [hno,gu]
         by_cases ht : n ≤ top
         · rw [if_pos ht,decide_eq_true ht];rfl
         · rw [if_neg ht,decide_eq_false ht];rfl
       · rw [hno] at hm
         split at hm
         · exact Option.some.inj hm
         · cases hm)
theorem eL {s : adB} {top : Int} (h : s.length ≤ 100000000) : aZ adA 119 [S s,I top] G (fun v=>∃ n,v = Tu [I n,Bo (aN s top).isSome] ∧ (∀ m,aN s top = some m → n = m)):=by
 refine (lq (G:=G) h).mono ?_
 rintro v G' L' ⟨h1,h2,n,h3,h4,_⟩
 exact ⟨h1,h2,n,h3,h4⟩
theorem xd : ∀ (k : Nat) {n : Int},n.toNat ≤ k → 0 ≤ n ∧ n ≤ 9223372036854775807 → aZ adA 62 [I n] G (· = S (be n)):=by
 intro k
 induction k with
 | zero =>
  intro n hk hn
  have h1 : n < 10:=oM
  refine jE [(0,_)] Tryz.func62 Tryz.ntmps62 fun B hB=>?_
  repeat' (first | refine jM ?_ | (refine jo ?_;first | refine jF fun _=>?_ | refine jV (gU F F (by (repeat (first | exact BL.nil | apply BL.cons));done)) ?_) | refine ac F (ax ‹_›) ?_)
  refine jY (vs:=[_]) ?_
  rw [aR,dZ h1 hn.1]
 | succ k ih =>
  intro n hk hn
  have hl:=gz (n:=n / 10) oM
  have hl2:=gz (n:=n % 10) oM
  by_cases h1 : n < 10
  ·refine jE [(0,_)] Tryz.func62 Tryz.ntmps62 fun B hB=>?_
   repeat' (first | refine jM ?_ | (refine jo ?_;first | refine jF fun _=>?_ | refine jV (gU F F (by (repeat (first | exact BL.nil | apply BL.cons));done)) ?_) | refine ac F (ax ‹_›) ?_)
   refine jY (vs:=[_]) ?_
   rw [aR,dZ h1 hn.1]
  ·refine jE [(0,_)] Tryz.func62 Tryz.ntmps62 fun B hB=>?_
   repeat' (first | refine jM ?_ | (refine jo ?_;(refine ae F F F (ih oM ?_) F ?_;focus omega)) | refine ad F (aF ‹_›) ?_)
   all_goals refine jY (vs:=[_]) ?_
   all_goals rw [aR,iU (n:=n) h1,dZ (n:=n % 10) oM oM]
theorem iB {n : Int} (hn : 0 ≤ n ∧ n ≤ 9223372036854775807) : aZ adA 62 [I n] G (· = S (be n)):=xd n.toNat (Nat.le_refl _) hn
theorem mc (c : UInt8) : ∀ s acc : adB,(eC c.toNat acc s).length = s.count c + 1
 | [],acc=>by simp [eC]
 | d :: r,acc=>by
  unfold eC
  by_cases h : d = c
  ·subst h
   rw [if_pos rfl,List.length_cons,mc d r []];simp
  ·have h2 : ¬ d.toNat = c.toNat:=fun e=>h (UInt8.toNat_inj.1 e)
   rw [if_neg h2,mc c r _,List.count_cons];simp [h]
theorem aaq {s : adB} {c : UInt8} : aZ adA 175 [S s,S [c]] G (· = I (((a9 c.toNat s).length : Int) - 1)):=by
 have hx : ∀ w,(callFunc 186 [S s,U8 (bt [c] (Int.toNat 0))].toArray).run adA w = .ok (.value (I (((a9 c.toNat s).length : Int) - 1))) w:=fun w=>by
  rw [show bt [c] (Int.toNat 0) = c.toNat from bD c []]
  rw [run_callFunc_extern Tryz.func186 kR kR kR (e:=Extern.BytealgCount.count) kR]
  have:=Lib.run_countString (P:=adA) ⟨s.toArray⟩ (c.toNat : Int) w
  rw [this]
  simp only [Result.andThen]
  have e : (a9 c.toNat s).length = s.count c + 1:=mc c s []
  rw [e]
  simp [Lib.countByte]
 refine jE [(0,_),(1,_)] Tryz.func175 Tryz.ntmps175 fun B hB=>?_
 repeat' (first | refine jX ?_ | refine ac F F ?_ | refine ad F F ?_)
 refine vG F (kX (oK F F F hx) F F ?_)
 repeat' (refine jR ?_)
 refine jY (vs:=[_]) ?_
 rfl
theorem v4 {s : adB} {c : UInt8} (hs : s.length ≤ 100000000) : bG adA 152 [S s,S [c],I 0,I (-1)] G (fun v G'=>aT G' v 1 (a9 c.toNat s).length (ah c9 (a9 c.toNat s))):=by
 have hlen:=ii (k:=c.toNat) (s:=s)
 have hpos:=eB (k:=c.toNat) (s:=s)
 have emin : min (((a9 c.toNat s).length : Int) - 1 + 1) ((s.length : Int) + 1) = ((a9 c.toNat s).length : Nat):=oM
 refine jB [(0,_),(1,_),(2,_),(3,_)] Tryz.func152 Tryz.ntmps152 fun B hok hB hW=>?_
 repeat' (first | refine jM ?_ | (refine jo ?_;first | refine jV (vJ F F) ?_ | refine ae F F F aaq F ?_) | refine ac F F ?_ | refine ad F F ?_)
 rw [emin]
 repeat' (first | refine jM ?_ | (refine jo ?_;refine ado F F F F oM (fun _=>?_)))
 rename_i x
 refine aV (ι:=List adB × adB) (fun i=>i.1.length + i.2.length ≤ s.length ∧ i.1.length < (a9 c.toNat s).length ∧ i.1 ++ a9 c.toNat i.2 = a9 c.toNat s) (fun i=>[(0,S i.2),(1,S [c]),(2,I 0),(3,I (((a9 c.toNat s).length : Int) - 1)),(9,.slice (some ⟨x,0,none⟩) (a9 c.toNat s).length (a9 c.toNat s).length),(10,I (i.1.length : Nat))]) (fun _=>G) (fun i=>[.blk x (.cells (ah c9 i.1 ++ cj [S []] ((a9 c.toNat s).length - i.1.length)).toArray vp (0,0))]) (fun i=>(a9 c.toNat s).length - i.1.length) ([],s) ?_ tU F a7 (fun i Hi=>?_)
 ·exact ⟨by simp,hpos,F⟩
 obtain ⟨xs,t⟩:=i
 dsimp only at Hi ⊢
 obtain ⟨hl,hlt,he⟩:=Hi
 have hel:=congrArg List.length he
 rw [List.length_append] at hel
 rcases pO c.toNat t with ⟨h1,h2⟩ | ⟨m,h1,h3,h2⟩
 ·have hc1 : a9 c.toNat t = [t]:=by rw [ma,h2];rfl
  rw [hc1] at he hel
  simp only [List.length_cons,List.length_nil] at hel
  have hm : (a9 c.toNat s).length - xs.length = 1:=oM
  rw [hm]
  repeat' (first | refine jM ?_ | (refine jo ?_;first | refine jV (ak F F oM) ?_ | (refine wX F F F oM ?_ ?_;focus omega) | refine jV (s5 F F oM) ?_) | refine ad F (aF oM) ?_)
  refine Nx.sealC (b:=x) fun G' hle hseg=>?_
  refine jZ (vs:=[_]) F ⟨F,trivial⟩ F ⟨hle,F,?_⟩
  have e1 : (((xs.length : Nat) : Int) + 1).toNat = (a9 c.toNat s).length:=oM
  have e2 : ah c9 (xs ++ [t]) ++ cj [S []] (1 - 1) = ah c9 (a9 c.toNat s):=by rw [he];simp [cj]
  rw [aR,e1]
  rw [e2] at hseg
  exact ⟨by rw [cN],.inr ⟨_,_,_,F,Nat.le_refl _,hseg⟩⟩
 ·have hc1 : a9 c.toNat t = t.take m :: a9 c.toNat (t.drop (m + 1)):=by rw [ma,h2];rfl
  rw [hc1] at he hel
  have hp2:=eB (k:=c.toNat) (s:=t.drop (m + 1))
  simp only [List.length_cons] at hel
  have cx_ix : aZ adA 176 [S t,S [c]] G (· = I (m : Int)):=by have:=vh (G:=G) (s:=t) (c:=c);rwa [h1] at this
  obtain ⟨k,hk⟩ : ∃ k,(a9 c.toNat s).length - xs.length = k + 1:=⟨(a9 c.toNat s).length - xs.length - 1,oM⟩
  have hk2 : (a9 c.toNat s).length = xs.length + k + 1:=oM
  rw [hk]
  generalize (a9 c.toNat s).length = N at *
  repeat' (first | refine jX ?_ | (refine jo ?_;first | refine jV (ak F F oM) ?_ | (refine wX F F F oM ?_ ?_;focus omega) | refine ae F F F cx_ix F ?_) | refine ac F (ax oM) ?_ | refine ad F F ?_)
  have e1 : ah c9 (xs ++ [t.take ((m : Int) + 0).toNat]) ++ cj [S []] (k + 1 - 1) = ah c9 (xs ++ [t.take m]) ++ cj [S []] (N - (xs ++ [t.take m]).length):=by
   have e2 : N - (xs ++ [t.take m]).length = k + 1 - 1:=by simp;omega
   rw [e2]
   have e3 : ((m : Int) + 0).toNat = m:=oM
   rw [e3]
  have e4 : ((m : Int) + (([c] : adB).length : Nat)).toNat = m + 1:=by simp only [List.length_cons,List.length_nil];omega
  have e5 : ((xs.length : Nat) : Int) + 1 = ((xs ++ [t.take m]).length : Nat):=by simp
  rw [e1,e4,e5]
  refine bm (xs ++ [t.take m],t.drop (m + 1)) ⟨by simp;omega,by simp;omega,by simpa using he⟩ (by simp;omega) tU rfl a7
theorem vg {s : adB} {c : UInt8} (hs : s.length ≤ 100000000) : bG adA 118 [S s,S [c]] G (fun v G'=>aT G' v 1 (a9 c.toNat s).length (ah c9 (a9 c.toNat s))):=by
 have cx_gs:=v4 (G:=G) (c:=c) hs
 refine jB [(0,_),(1,_)] Tryz.func118 Tryz.ntmps118 fun B hok hB hW=>?_
 repeat' (first | refine jR ?_ | (refine jo ?_;(refine ar F F F cx_gs F ?_;rintro _ G hle hspl;skip)))
 all_goals refine jZ (vs:=[_]) F ⟨F,trivial⟩ F ⟨hle,F,?_⟩
 all_goals exact hspl
def gx (f : Fld) : List Value:=[I f.tag,S f.name,S (sg f.kind),S (bs f.kind),S (nm f.kind),S f.stand]
instance : RowF gx 6:=⟨fun _=>rfl⟩
theorem zg (s : adB) : dQ (fR r9) (fT (fR r9) s) = [] ↔ ∀ c ∈ s,jt c.toNat:=by
 rw [sd]
 exact forall_congr' fun c=>forall_congr' fun _=>by rw [ab7];simp
def sW (s : adB) : Bool:=decide (s.length ≤ 12) && s.all fun c=>decide (jt c.toNat)
theorem yp {s : adB} (h : s.length ≤ 2000000) : aZ adA 194 [S s] G (· = Bo (sW s)):=by
 have cx_trim:=xh (G:=G) (s:=s) (cs:=r9) rfl kR rfl h
 have key:=zg s
 have e : sW s = (decide (s.length ≤ 12) && decide (dQ (fR r9) (fT (fR r9) s) = [])):=by
  unfold sW
  congr 1
  rw [Bool.eq_iff_iff,List.all_eq_true,decide_eq_true_eq,key]
  simp
 rw [e]
 by_cases hl : s.length ≤ 12
 ·rw [decide_eq_true hl,Bool.true_and]
  refine jE [(0,_)] Tryz.func194 Tryz.ntmps194 fun B hB=>?_
  repeat' (first | refine jR ?_ | (refine jo ?_;first | refine aP F ?_ | refine ae F F F cx_trim F ?_) | refine aG F F (ax oM) ?_)
  all_goals refine jY (vs:=[_]) ?_
  all_goals rfl
 ·rw [decide_eq_false hl,Bool.false_and]
  refine jE [(0,_)] Tryz.func194 Tryz.ntmps194 fun B hB=>?_
  repeat' (first | refine jR ?_ | (refine jo ?_;refine aE F ?_) | refine aw F F (aF oM) ?_)
  all_goals refine jY (vs:=[_]) ?_
  all_goals rfl
theorem zy {s : adB} : (d6 s && decide (s ≠ [39,39])) = (decide (2 < s.length) && (decide (bt s 0 = 39) && (decide (bt s (s.length - 1) = 39) && sW ((s.take (s.length - 1)).drop 1)))):=by
 rw [Bool.eq_iff_iff]
 simp only [Bool.and_eq_true,decide_eq_true_eq,d6,sW,List.all_eq_true]
 constructor
 ·rintro ⟨⟨h1,h2,h3,h4⟩,h5⟩
  have hl : 2 < s.length:=by
   rcases Nat.lt_or_ge 2 s.length with h6 | h6
   ·exact h6
   ·exfalso
    match s,h1,h6,h2,h3 with
    | [a,b],_,_,h2,h3 =>
     rw [bD] at h2
     simp only [List.length_cons,List.length_nil] at h3
     rw [show (0 + 1 + 1 - 1) = 0 + 1 from rfl,eJ,bD] at h3
     have e1 : a = 39:=UInt8.toNat_inj.1 h2
     have e2 : b = 39:=UInt8.toNat_inj.1 h3
     subst e1;subst e2;exact h5 F
  refine ⟨hl,h2,h3,by simp;omega,fun c hc=>?_⟩
  obtain ⟨i,hi,rfl⟩:=List.mem_iff_getElem.1 hc
  simp only [List.length_drop,List.length_take] at hi
  have e : bt s (i + 1) = (((s.take (s.length - 1)).drop 1)[i]'(by simp;omega)).toNat:=by
   simp [bt,List.getD,List.getElem?_eq_getElem (show i + 1 < s.length by omega)]
  rw [← e]
  rcases h4 (i + 1) oM with h6 | h6
  ·omega
  ·exact h6
 ·rintro ⟨hl,h2,h3,h4,h5⟩
  simp only [List.length_drop,List.length_take] at h4
  refine ⟨⟨oM,h2,h3,fun i hi=>?_⟩,fun e=>by subst e;simp at hl⟩
  rcases Nat.eq_zero_or_pos i with h6 | h6
  ·exact .inl h6
  ·refine .inr ?_
   have e : bt s i = (((s.take (s.length - 1)).drop 1)[i - 1]'(by simp;omega)).toNat:=by
    have e1 : i - 1 + 1 = i:=oM
    simp [bt,List.getD,List.getElem?_eq_getElem (show i < s.length by omega),e1]
   rw [e]
   exact h5 _ (List.getElem_mem _)
theorem pW {b v : adB} (h : v.length ≤ 2000000) : aZ adA 183 [S b,S v] G (· = Bo (b9 b v)):=by
 by_cases h1 : b = [110]
 ·have e : b9 b v = ((aN v 999999).isSome && decide (v ≠ [48])):=by rw [b9,if_pos h1]
  rw [e]
  rcases hn : aN v 999999 with _ | m
  ·refine jE [(0,_),(1,_)] Tryz.func183 Tryz.ntmps183 fun B hB=>?_
   repeat' (first | refine jR ?_ | (refine jo ?_;first | refine aE F ?_ | (refine ep F F F (eL oM) F ?_;rintro _ ⟨n,rfl,hnum⟩)) | (refine aw F F ?_ ?_;(focus ((simp [*];done);done))) | refine ac F (ax ‹_›) ?_)
   all_goals refine jY (vs:=[_]) ?_
   all_goals (simp [*])
  ·have hm:=ed hn
   have h0 : 0 ≤ m:=by
    unfold aN at hn
    split at hn
    ·split at hn
     ·rename_i hd
      split at hn
      ·simp only [Option.some.injEq] at hn;subst hn;exact qH (Int.le_refl 0) hd
      ·cases hn
     ·cases hn
    ·cases hn
   have ev : decide (v ≠ [48]) = decide (0 < m):=by
    refine decide_eq_decide.2 ?_
    rw [hm.2.1]
    constructor
    ·intro h2
     rcases Int.lt_or_le 0 m with h3 | h3
     ·exact h3
     ·have : m = 0:=oM
      subst this
      exact absurd (by rw [dZ oM oM];rfl) h2
    ·intro h2 h3
     obtain ⟨c,r,e2,hc⟩:=ni m.toNat (Nat.le_refl _) oM
     rw [e2] at h3
     simp only [List.cons.injEq] at h3
     exact hc (by rw [h3.1];rfl)
   have cx_pnum : aZ adA 119 [S v,I 999999] G (· = Tu [I m,Bo true]):=by
    refine (eL (G:=G) (top:=999999) (s:=v) oM).mono ?_
    rintro w G' L' ⟨h2,h3,n,rfl,h4⟩
    exact ⟨h2,h3,by rw [hn,h4 m hn];rfl⟩
   rw [ev]
   refine jE [(0,_),(1,_)] Tryz.func183 Tryz.ntmps183 fun B hB=>?_
   repeat' (first | refine jR ?_ | (refine jo ?_;first | refine aP F ?_ | refine ae F F F cx_pnum F ?_) | refine aG F F F ?_ | refine ac F (ax ‹_›) ?_)
   all_goals refine jY (vs:=[_]) ?_
   all_goals (simp [*])
 by_cases h2 : b = [116]
 ·have e : b9 b v = (d6 v && decide (v ≠ [39,39])):=by rw [b9,if_neg h1,if_pos h2]
  rw [e,zy]
  have e4 : (((v.length : Nat) : Int) - 1).toNat = v.length - 1:=oM
  by_cases hl : 2 < v.length
  case neg =>
   rw [decide_eq_false hl,Bool.false_and]
   refine jE [(0,_),(1,_)] Tryz.func183 Tryz.ntmps183 fun B hB=>?_
   repeat' (first | refine jR ?_ | (refine jo ?_;refine aE F ?_) | (refine aw F F (by first | rfl | (refine decide_eq_false ?_;(omega))) ?_) | refine ac F (ax ‹_›) ?_ | refine ad F (aF ‹_›) ?_)
   all_goals refine jY (vs:=[_]) ?_
   all_goals rfl
  rw [decide_eq_true hl,Bool.true_and]
  by_cases hq : bt v 0 = 39
  case neg =>
   have hq2 : ¬ bt v (Int.toNat 0) = 39:=hq
   rw [decide_eq_false hq,Bool.false_and]
   refine jE [(0,_),(1,_)] Tryz.func183 Tryz.ntmps183 fun B hB=>?_
   repeat' (first | refine jM ?_ | (refine jo ?_;first | refine aP F ?_ | refine aE F ?_) | refine aG F F (ax oM) ?_ | (refine aw F F (by first | rfl | (refine decide_eq_false ?_;(omega))) ?_) | refine ac F (ax ‹_›) ?_ | refine ad F (aF ‹_›) ?_)
   all_goals refine jY (vs:=[_]) ?_
   all_goals rfl
  have hq2 : bt v (Int.toNat 0) = 39:=hq
  rw [decide_eq_true hq,Bool.true_and]
  by_cases hr : bt v (v.length - 1) = 39
  case neg =>
   have hr2 : ¬ bt v (((v.length : Nat) : Int) - 1).toNat = 39:=by rw [e4];exact hr
   rw [decide_eq_false hr,Bool.false_and]
   refine jE [(0,_),(1,_)] Tryz.func183 Tryz.ntmps183 fun B hB=>?_
   repeat' (first | refine jM ?_ | (refine jo ?_;first | refine aP F ?_ | refine aE F ?_) | refine aG F F (ax oM) ?_ | refine aw F F (aF oM) ?_ | refine ac F (ax ‹_›) ?_ | refine ad F (aF ‹_›) ?_)
   all_goals refine jY (vs:=[_]) ?_
   all_goals rfl
  have hr2 : bt v (((v.length : Nat) : Int) - 1).toNat = 39:=by rw [e4];exact hr
  rw [decide_eq_true hr,Bool.true_and]
  refine jE [(0,_),(1,_)] Tryz.func183 Tryz.ntmps183 fun B hB=>?_
  repeat' (first | refine jM ?_ | (refine jo ?_;first | refine aP F ?_ | (refine ae F F F (yp ?_) F ?_;(focus ((simp;omega);done)))) | refine aG F F (ax oM) ?_ | refine ac F (ax ‹_›) ?_ | refine ad F (aF ‹_›) ?_)
  all_goals refine jY (vs:=[_]) ?_
  all_goals rw [e4];rfl
 ·have e : b9 b v = (decide (b = [102]) && decide (v = [121,101,115])):=by
   rw [b9,if_neg h1,if_neg h2]
   by_cases h3 : b = [102]
   ·rw [if_pos h3,decide_eq_true h3,Bool.true_and]
   ·rw [if_neg h3,decide_eq_false h3,Bool.false_and]
  rw [e]
  refine jE [(0,_),(1,_)] Tryz.func183 Tryz.ntmps183 fun B hB=>?_
  repeat' (first | refine jR ?_ | (refine jo ?_;first | refine aP F ?_ | refine aE F ?_) | refine fu F F (fun _=>?_) (fun _=>?_) | refine ad F (aF ‹_›) ?_)
  all_goals refine jY (vs:=[_]) ?_
  all_goals (simp [*])
theorem xv {c v : adB} (h : bZ c = true) : (decide (sg c = []) && b9 (bs c) v) = b9 c v:=by
 match c,h with
 | x :: r,h =>
  by_cases h1 : x.toNat = 91 ∨ x.toNat = 63
  ·have hs : sg (x :: r) ≠ []:=by
    unfold sg
    rw [bU,if_pos h1]
    have:=md r
    intro e
    have e2:=congrArg List.length e
    simp only [List.length_take,List.length_cons,List.length_nil] at e2
    omega
   rw [decide_eq_false hs,Bool.false_and]
   unfold b9
   rw [if_neg,if_neg,if_neg]
   all_goals (intro e;simp only [List.cons.injEq] at e;have:=congrArg UInt8.toNat e.1;revert this;rcases h1 with h1 | h1 <;> rw [h1] <;> decide)
  ·have hc : bU (x :: r) = x :: r:=by rw [bU,if_neg h1]
   have hs : sg (x :: r) = []:=by unfold sg;rw [hc];simp
   rw [decide_eq_true hs,Bool.true_and]
   by_cases h2 : x.toNat = 64
   ·have hb : bs (x :: r) = [64]:=by unfold bs;rw [hc];simp [qd,h2]
    rw [hb]
    have e1 : b9 [64] v = false:=by unfold b9;simp
    rw [e1]
    unfold b9
    rw [if_neg,if_neg,if_neg]
    all_goals (intro e;simp only [List.cons.injEq] at e;have:=congrArg UInt8.toNat e.1;revert this;rw [h2];decide)
   ·have hb : bs (x :: r) = x :: r:=by unfold bs;rw [hc];simp [qd,h2]
    rw [hb]
end Go.E
