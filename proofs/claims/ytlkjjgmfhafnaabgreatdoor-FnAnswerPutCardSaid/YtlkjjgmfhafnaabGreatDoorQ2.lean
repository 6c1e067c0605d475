/- Contracts and plain laws that the statement rests on, part 2. Conditions: as each says. -/
import Derived.Test.YtlkjjgmfhafnaabGreatDoorQ1
set_option linter.unusedVariables false
set_option linter.unusedSimpArgs false
namespace Go.E
section
variable {P : Program} {n : Nat} {D : List Deferred} {E : bo} {M : World → Prop} {d : Option Nat} {ty : TypeId} {pos : String} {aft : Array Edge} {gd : Option (Nat × Bool)}
theorem ya {x : Operand} {T el : TypeId} {size bytes : Nat} {zero : Value} {p : Option Addr} {len cap : Nat} [TI P T (.slice el) size bytes zero] (hx : ev E x = some (.slice p len cap)) : Gives P n D E M ⟨d,.call ⟨.builtin .cap,[x].toArray,[T].toArray⟩,ty,pos,aft,gd⟩ (I cap):=Gives.mk fun a w hs _=>by
 simp [execOp,resolve,hs.ev hx,invoke,builtin,Builtin.cap_,ch (T:=T) (desc:=.slice el) (size:=size) (bytes:=bytes) (zero:=zero),goInt]
theorem abM {T el : TypeId} {x lo : Operand} {desc' : TypeDesc} {size bytes size' bytes' : Nat} {zero zero' : Value} {k : IntKind} {m : Int} {b o len cap : Nat} [TI P T (.slice el) size bytes zero] [TI P el desc' size' bytes' zero']
  (hx : ev E x = some (.slice (some ⟨b,o,none⟩) len cap)) (hl : ev E lo = some (.int k m)) (h0 : 0 ≤ m ∧ m ≤ len ∧ m < cap) :
  Gives P n D E M ⟨d,.slice T x (some lo) none none,ty,pos,aft,gd⟩ (.slice (some ⟨b,o + m.toNat * size',none⟩) (len - m.toNat) (cap - m.toNat)):=by
 obtain ⟨o',h1,h2⟩:=w5 (P:=P) (n:=n) (D:=D) (M:=M) (d:=d) (ty:=ty) (pos:=pos) (aft:=aft) (gd:=gd) (T:=T) (el:=el) (desc':=desc') (size':=size') (bytes':=bytes') (zero':=zero') (size:=size) (bytes:=bytes) (zero:=zero) hx hl ⟨h0.1,h0.2.1⟩
 rw [← h1 h0.2.2];exact h2
theorem qk {S : World → Prop} {G0 : Gh} {L0 : List Own} [k : Kn S G0 L0] {b : Nat} {cs : List Value} {T0 : TypeId} {fr : Nat × Nat} (hm : Own.blk b (.cells cs.toArray T0 fr) ∈ L0) {w : World} (hw : S w) : w.shape? b = some (T0,cs.length):=by
 obtain ⟨B,G,L,_,hL,hst⟩:=k.kn w hw
 have h : w.heap[b]? = some (.cells cs.toArray T0 fr):=hst.own _ (hL _ hm)
 simp [World.shape?,h]
theorem abK {T T' t T0 : TypeId} {x : Operand} {b s1 b1 js jb : Nat} {z1 jz : Value} {jd : TypeDesc} {G0 : Gh} {L0 : List Own} {cs : List Value} {fr : Nat × Nat} [t1 : TI P T (.pointer t) s1 b1 z1] [t2 : TI P t jd js jb jz] [Kn M G0 L0] [h : BlkI L0 b cs T0 fr]
  (hd : P.underlying T' = some .unsafePointer) (hx : ev E x = some (Pt b 0)) (hj : Nat.beq js 0 = false) (hc : cs.isEmpty = false) : Gives P n D E M ⟨d,.convert T T' x,ty,pos,aft,gd⟩ (Pt b 0):=Gives.mk fun a w hs hw=>by
 obtain ⟨j,hj1,hj2,_,_⟩:=t2.inf
 have hl : 0 < cs.length:=by cases cs with | nil=>cases hc | cons=>simp
 have:=Lib.run_to_unsafe (P:=P) w (src:=T) (dst:=T') (t:=t) (j:=j) ⟨b,0,none⟩ t1.und hd hj1 (by rw [hj2];intro e;subst e;simp at hj) (qk (S:=M) h.mem hw) hl
 simp only [execOp,hs.ev hx,Sem.run_bind,this,Result.andThen_ok,Sem.run_pure]
theorem yH {T T' t T0 : TypeId} {x : Operand} {b s1 b1 js jb : Nat} {z1 jz : Value} {jd : TypeDesc} {G0 : Gh} {L0 : List Own} {cs : List Value} {fr : Nat × Nat} [t1 : TI P T' (.pointer t) s1 b1 z1] [t2 : TI P t jd js jb jz] [Kn M G0 L0] [h : BlkI L0 b cs T0 fr]
  (hd : P.underlying T = some .unsafePointer) (hx : ev E x = some (Pt b 0)) (hl : liesAt P P.depth T0 (cs.length / P.cellsOf T0) 0 t 1 = true) : Gives P n D E M ⟨d,.convert T T' x,ty,pos,aft,gd⟩ (Pt b 0):=Gives.mk fun a w hs hw=>by
 obtain ⟨j,hj1,_,_,_⟩:=t2.inf
 have:=Lib.run_from_unsafe (P:=P) w (src:=T) (dst:=T') (u:=t) (j:=j) ⟨b,0,none⟩ hd t1.und hj1 (qk (S:=M) h.mem hw) hl
 simp only [execOp,hs.ev hx,Sem.run_bind,this,Result.andThen_ok,Sem.run_pure]
theorem aaw {T T' el : TypeId} {x y : Operand} {size bytes js jb : Nat} {zero jz : Value} {jd : TypeDesc} {p : Addr} [t1 : TI P T (.pointer el) size bytes zero] [t2 : TI P el jd js jb jz] (hx : ev E x = some (.pointer (some p))) (hy : ev E y = some (.pointer (some p))) : Gives P n D E M ⟨d,.binOp .neq T x y T',ty,pos,aft,gd⟩ (Bo false):=dv hx hy rfl fun w=>by
 obtain ⟨j,hj1,_,_,_⟩:=t2.inf
 exact Lib.run_neq_ptr_same w p t1.und hj1
theorem yK {T T' el : TypeId} {x y : Operand} {s1 b1 js jb : Nat} {z1 jz : Value} {jd : TypeDesc} {b o m c : Nat} [t1 : TI P T (.slice el) s1 b1 z1] [t2 : TI P el jd js jb jz] (hx : ev E x = some (.slice (some ⟨b,o,none⟩) m c)) (hy : ev E y = some aI) :
  Gives P n D E M ⟨d,.call ⟨.builtin .copy,[x,y].toArray,[T,T'].toArray⟩,ty,pos,aft,gd⟩ (I (0 : Nat)):=Gives.mk fun a w hs _=>by
 obtain ⟨j,hj1,_,_,_⟩:=t2.inf
 have h1:=run_copy_nil (P:=P) w T T' ty el ⟨b,o,none⟩ m c t1.und (by rw [hj1];rfl)
 have e1 : ([x,y].toArray.map a.eval) = #[.slice (some ⟨b,o,none⟩) m c,aI]:=by simp [hs.ev hx,hs.ev hy]
 simp only [execOp,resolve,e1,Sem.run_bind,Sem.run_pure,Result.andThen_ok,invoke,builtin,h1]
 rfl
theorem aau {T : TypeId} {x : Operand} {b o m c : Nat} (hx : ev E x = some (.slice (some ⟨b,o,none⟩) m c)) (hc : Nat.beq c 0 = false) : Gives P n D E M ⟨d,.call ⟨.builtin .unsafeSliceData,[x].toArray,[T].toArray⟩,ty,pos,aft,gd⟩ (Pt b o):=Gives.mk fun a w hs _=>by
 have h1:=Lib.run_unsafeSliceData_row (P:=P) w #[T] ty ⟨b,o,none⟩ m c (by rintro rfl;simp at hc)
 have e1 : ([x].toArray.map a.eval) = #[.slice (some ⟨b,o,none⟩) m c]:=by simp [hs.ev hx]
 simp only [execOp,resolve,e1,Sem.run_bind,Sem.run_pure,Result.andThen_ok,invoke,builtin,h1]
theorem yG {T : TypeId} {x : Operand} (hx : ev E x = some aI) : Gives P n D E M ⟨d,.call ⟨.builtin .unsafeSliceData,[x].toArray,[T].toArray⟩,ty,pos,aft,gd⟩ (.pointer none):=Gives.mk fun a w hs _=>by
 have h1:=Lib.run_unsafeSliceData_nil (P:=P) w #[T] ty 0 0
 have e1 : ([x].toArray.map a.eval) = #[aI]:=by simp [hs.ev hx]
 simp only [execOp,resolve,e1,Sem.run_bind,Sem.run_pure,Result.andThen_ok,invoke,builtin,h1]
theorem yC {T T' : TypeId} {x y : Operand} {p : Option Addr} (hx : ev E x = some (.pointer p)) (hy : ev E y = some (I (0 : Nat))) : Gives P n D E M ⟨d,.call ⟨.builtin .unsafeString,[x,y].toArray,[T,T'].toArray⟩,ty,pos,aft,gd⟩ (S []):=Gives.mk fun a w hs _=>by
 have h1:=Lib.run_unsafeString_none (P:=P) w T T' ty p
 have e1 : ([x,y].toArray.map a.eval) = #[.pointer p,.int .i64 0]:=by simp [hs.ev hx,hs.ev hy]
 simp only [execOp,resolve,e1,Sem.run_bind,Sem.run_pure,Result.andThen_ok,invoke,builtin,h1]
 rfl
end
section
variable {P : Program} {n : Nat} {D : List Deferred} {E : bo} {B : Base} {G : Gh} {L : List Own} {K : Act → World → Prop} {Q : Exit → Act → World → Prop} {ty : TypeId} {pos : String} {aft : Array Edge} {gd : Option (Nat × Bool)} {d : Nat}
theorem St.freeze {w : World} {b m cap : Nat} {T : TypeId} {xs : List Value} (h : St B G (.acc (.slice (some ⟨b,0,none⟩) m cap) T 1 m xs :: L) w) (k : Nat) : St B G L (w.freeze ⟨b,0,none⟩ k):=by
 obtain ⟨h1,⟨h2,_⟩ | ⟨b',cap',rest,e,hc,hl,hb⟩⟩ : fW w _ T 1 m xs:=h.own _ List.mem_cons_self
 ·cases h2
 simp only [Value.slice.injEq,Option.some.injEq,Addr.mk.injEq,and_true,true_and] at e
 obtain ⟨rfl,rfl⟩:=e
 unfold World.freeze
 by_cases hk : k = 0
 ·rw [if_pos hk];exact h.weaken (List.sublist_cons_self _ _)
 ·rw [if_neg hk]
  have h2:=h.upd (y:=.blk b (.cells (xs ++ rest).toArray T (0,k))) (w':={ w with heap:=w.heap.modify b fun | .cells c elem (lo,hi)=>.cells c elem (if lo == hi then (0,0 + k) else (min lo 0,max hi (0 + k))) | o=>o }) (b:=b) rfl rfl (by
   show (w.heap.modify b _)[b]? = _
   rw [Array.getElem?_modify,if_pos rfl,hb]
   simp) (fun c hc=>by
    show (w.heap.modify b _)[c]? = _
    rw [Array.getElem?_modify,if_neg (fun e=>hc e.symm)]) rfl rfl rfl (by simp)
  exact h2.weaken (List.sublist_cons_self _ _)
class AccD (L : List Own) (b : Nat) (m cap : outParam Nat) (T : outParam TypeId) (sz : outParam Nat) (xs : outParam (List Value)) (L' : outParam (List Own)) : Prop where
 del : Del (.acc (.slice (some ⟨b,0,none⟩) m cap) T sz m xs) L L'
instance {b m cap : Nat} {T : TypeId} {sz : Nat} {xs : List Value} {r : List Own} : AccD (.acc (.slice (some ⟨b,0,none⟩) m cap) T sz m xs :: r) b m cap T sz xs r:=⟨.here⟩
instance {b m cap : Nat} {T : TypeId} {sz : Nat} {xs : List Value} {z : Own} {r r' : List Own} [h : AccD r b m cap T sz xs r'] : AccD (z :: r) b m cap T sz xs (z :: r'):=⟨.there h.del⟩
theorem aaY {T T' el : TypeId} {x y : Operand} {b m cap s1 b1 s2 b2 : Nat} {z1 z2 : Value} {l : ac8} {L' : List Own} [t1 : TI P T (.pointer el) s1 b1 z1] [t2 : TI P el (.int .u8) s2 b2 z2] [ha : AccD L b m cap el 1 (bw l) L']
  (hc1 : P.cellsOf el = 1) (hx : ev E x = some (Pt b 0)) (hy : ev E y = some (I (m : Nat))) (hlt : Nat.blt d n = true) (hm : m ≤ 9223372036854775807)
  (k : Nx n D ((d,S l) :: E) B G L' K) : Nx n D E B G L (ow P ⟨some d,.call ⟨.builtin .unsafeString,[x,y].toArray,[T,T'].toArray⟩,ty,pos,aft,gd⟩ Q K):=Nx.mk fun a w hs hw=>by
 have hw1:=hw.perm ha.del.perm
 have hat : fW w (.slice (some ⟨b,0,none⟩) m cap) el 1 m (bw l):=hw1.own _ List.mem_cons_self
 obtain ⟨h1,⟨h2,_⟩ | ⟨b',cap',rest,e,hc,hl,hb⟩⟩:=hat
 ·cases h2
 simp only [Value.slice.injEq,Option.some.injEq,Addr.mk.injEq,and_true,true_and] at e
 obtain ⟨rfl,rfl⟩:=e
 have hlm : l.length = m:=by simpa [bw] using h1
 have e1 : ([x,y].toArray.map a.eval) = #[.pointer (some ⟨b,0,none⟩),.int .i64 (m : Nat)]:=by simp [hs.ev hx,hs.ev hy]
 unfold ow Oper.wp
 by_cases h0 : l = []
 ·subst h0
  have hm0 : m = 0:=by simpa using hlm.symm
  subst hm0
  have hr:=Lib.run_unsafeString_none (P:=P) w T T' ty (some ⟨b,0,none⟩)
  have : (execOp a.eval ⟨some d,.call ⟨.builtin .unsafeString,[x,y].toArray,[T,T'].toArray⟩,ty,pos,aft,gd⟩).run P w = .ok (.value (S [])) w:=by
   simp only [execOp,resolve,e1,Sem.run_bind,Sem.run_pure,Result.andThen_ok,invoke,builtin]
   have hr' : (Builtin.unsafeString_ [T,T'].toArray ty #[.pointer (some ⟨b,0,none⟩),.int .i64 ((0 : Nat) : Int)]).run P w = .ok (.string .empty) w:=hr
   rw [hr'];rfl
  rw [this,Oper.upon_value]
  exact k.go _ w (hs.put (by simpa using hlt)) (hw1.weaken (List.sublist_cons_self _ _))
 ·have hcell : ∀ j x,l[j]? = some x → w.cell? ((⟨b,0,none⟩ : Addr).add j) = some (.int .u8 x.toNat):=fun j x hj=>by
   have hv : (bw l)[j]? = some (.int .u8 x.toNat):=by simp [bw,hj]
   rw [lS]
   exact ((eV (S:=St B G (.acc (.slice (some ⟨b,0,none⟩) m cap) el 1 m (bw l) :: L')) (m:=m) (cap:=cap) (T:=el) (sz:=1) (xs:=bw l) List.mem_cons_self).go j _ hv).go w hw1
  have hsh : w.shape? b = some (el,(bw l ++ rest).length):=by simp [World.shape?,hb]
  have hr:=Lib.run_unsafeString_row (P:=P) w T T' ty el t1.und hc1 b _ hsh l h0 (by simp [bw]) oM hcell
  have : (execOp a.eval ⟨some d,.call ⟨.builtin .unsafeString,[x,y].toArray,[T,T'].toArray⟩,ty,pos,aft,gd⟩).run P w = .ok (.value (S l)) (w.freeze ⟨b,0,none⟩ l.length):=by
   simp only [execOp,resolve,e1,Sem.run_bind,Sem.run_pure,Result.andThen_ok,invoke,builtin]
   have hr' : (Builtin.unsafeString_ [T,T'].toArray ty #[.pointer (some ⟨b,0,none⟩),.int .i64 (m : Nat)]).run P w = .ok (S l) (w.freeze ⟨b,0,none⟩ l.length):=by rw [← hlm];exact hr
   rw [hr'];rfl
  rw [this,Oper.upon_value]
  exact k.go _ _ (hs.put (by simpa using hlt)) (hw1.freeze _)
theorem l6 (l : ac8) : Lib.strCells ⟨l.toArray⟩ = bw l:=by simp [Lib.strCells,bw]
theorem tv {v : Value} {m : Nat} {T T2 el : TypeId} {s1 b1 s2 b2 : Nat} {z1 z2 : Value} {xs : List Value} {l : ac8} {w : World} {R : List Own} [h1' : TI P T (.slice el) s1 b1 z1] [h2' : TI P T2 .string s2 b2 z2] [he : TI P el (.int .u8) 1 1 (.int .u8 0)]
  (hb : m + l.length ≤ 1000000000) (hw : St B G (.acc v el 1 m xs :: R) w) :
  ∃ v' w',(Builtin.append_ #[T,T2] ty #[v,S l]).run P w = .ok v' w' ∧ St B G (.acc v' el 1 (m + l.length) (xs ++ bw l) :: R) w' ∧ (v = aI → l = [] → v' = aI) ∧ ((v ≠ aI ∨ l ≠ []) → ∃ b cap,v' = .slice (some ⟨b,0,none⟩) (m + l.length) cap ∧ ((∀ p q,v ≠ .slice p q 0) ∨ l ≠ [] → 0 < cap)):=by
 obtain ⟨hxl,hacc⟩ : fW w v el 1 m xs:=hw.own _ List.mem_cons_self
 obtain ⟨ie,hi,hsz,hby,hze⟩:=he.inf
 have ht:=h1'.und
 have hu:=h2'.und
 have hss : (⟨l.toArray⟩ : ByteArray).size = l.length:=nK l
 have hul : (bw l).length = l.length:=by simp [bw]
 have mk : ∀ nc,m + l.length ≤ nc →
   St B G (.acc (.slice (some ⟨w.heap.size,0,none⟩) (m + l.length) nc) el 1 (m + l.length) (xs ++ bw l) :: R) (w.drew.alloc (.cells (xs ++ bw l ++ bT [.int .u8 0] (nc - (m + l.length))).toArray el)):=by
  intro nc hnc
  have h2:=hw.drew.alloc (.cells (xs ++ bw l ++ bT [.int .u8 0] (nc - (m + l.length))).toArray el)
  have h3 : St B G (.blk w.drew.heap.size (.cells (xs ++ bw l ++ bT [.int .u8 0] (nc - (m + l.length))).toArray el) :: R) _:=h2.weaken (.cons_cons _ (List.sublist_cons_self _ _))
  refine h3.conv F ⟨by simp [hxl,hul],.inr ⟨_,nc,bT [.int .u8 0] (nc - (m + l.length)),F,hnc,?_,h3.own _ List.mem_cons_self⟩⟩
  simp only [List.length_append,hxl,hul,f7,List.length_cons,List.length_nil]
  omega
 have ez : (Builtin.zeroCells (Value.int .u8 0).cells) = fun k=>(bT [.int .u8 0] k).toArray:=by
  funext k;rw [← i5];rfl
 rcases hacc with ⟨rfl,rfl⟩ | ⟨b,cap,rest,rfl,hmc,hrl,hblk⟩
 ·have hx0 : xs = []:=by simpa using hxl
  subst hx0
  by_cases hk : l = []
  ·subst hk
   refine ⟨aI,w,?_,by simpa [bw] using hw,fun _ _=>rfl,fun h=>by rcases h with h | h <;> exact absurd F h⟩
   have hf : (Builtin.firstCells 1 0 (S [])).run P w = .ok #[] w:=by
    have:=Lib.run_firstCells_string (P:=P) w 1 ⟨([] : ac8).toArray⟩
    rw [nK] at this;simpa [Lib.strCells] using this
   simp [Builtin.append_,run_underlying ht,run_underlying hu,sizeOf,typeInfo,hi,hsz,Builtin.lenOf,nK,hf]
  ·have hpos : 0 < l.length:=List.length_pos_iff.2 hk
   have hr:=run_append_nil_string (P:=P) w T T2 ty el ie (.int .u8 0) ht hu hi hze ⟨l.toArray⟩ (by rw [hss];exact hpos) (by rw [hss];omega) (by rw [hss,hby];omega)
   rw [hss] at hr
   have hg:=grownCap_ge w l.length 0 el
   have:=mk (grownCap w l.length 0 el) (by simpa using hg)
   have e1 : (⟨l.toArray⟩ : ByteArray).data.map (fun b=>Value.int .u8 b.toNat) ++ Builtin.zeroCells (Value.int .u8 0).cells (grownCap w l.length 0 el - l.length) = (bw l ++ bT [.int .u8 0] (grownCap w l.length 0 el - l.length)).toArray:=by
    rw [ez];simp [bw]
   rw [e1] at hr
   simp only [Nat.zero_add,List.nil_append] at this ⊢
   exact ⟨_,_,hr,this,fun _ h=>absurd h hk,fun _=>⟨_,_,F,fun _=>by omega⟩⟩
 ·by_cases hfit : m + l.length ≤ cap
  ·have hr:=Lib.run_append_room_string (P:=P) w T T2 ty el ie ht hu hi hsz b m cap (xs ++ rest).toArray hblk ⟨l.toArray⟩ (by rw [hss];exact hfit) (by rw [hss];simp only [List.size_toArray];omega)
   have hcells : (List.take m (xs ++ rest) ++ bw l ++ List.drop (m + l.length) (xs ++ rest)) = xs ++ bw l ++ rest.drop l.length:=by
    have : m = xs.length:=oM
    rw [this];simp [List.drop_append]
   rw [hss,l6] at hr
   simp only [hcells] at hr
   refine ⟨_,_,hr,hw.upd (b:=b) F F ⟨by simp [hxl,hul],.inr ⟨b,cap,rest.drop l.length,F,hfit,?_,setRow_heap w b _ _ el _ hblk⟩⟩ (fun c hc=>setRow_other w b c _ hc) F F F (by simp),fun h=>(by cases h),fun _=>⟨b,cap,F,fun h=>?_⟩⟩
   ·simp only [List.length_append,List.length_drop] at *;omega
   ·rcases h with h | h
    ·rcases Nat.eq_zero_or_pos cap with h0 | h0
     ·subst h0;exact absurd F (h _ _)
     ·exact h0
    ·have:=List.length_pos_iff.2 h;omega
  ·have hnsc:=j8 (m + l.length) cap oM
   have hold : ∀ j u,xs[j]? = some u → w.cell? ((⟨b,0,none⟩ : Addr).add j) = some u:=fun j u hj=>by
    rw [lS]
    exact ((eV (S:=St B G (.acc (.slice (some ⟨b,0,none⟩) m cap) el 1 m xs :: R)) (m:=m) (cap:=cap) (T:=el) (sz:=1) (xs:=xs) List.mem_cons_self).go j u hj).go w hw
   have hr:=Lib.run_append_grow_string (P:=P) w T T2 ty el ie (.int .u8 0) ht hu hi hze ⟨b,0,none⟩ m cap xs (by rw [hsz];simpa using hxl) hold ⟨l.toArray⟩ (by rw [hss];omega) (by rw [hss];omega) (by rw [hss,hby];omega)
   rw [hss,l6,ez] at hr
   have hg:=grownCap_ge w (m + l.length) cap el
   have:=mk (grownCap w (m + l.length) cap el) hg
   simp only [List.append_toArray] at hr this ⊢
   exact ⟨_,_,hr,this,fun h=>(by cases h),fun _=>⟨_,_,F,fun _=>by omega⟩⟩
theorem acm {m b cap : Nat} {s x : Operand} {T T2 el : TypeId} {s1 b1 s2 b2 : Nat} {z1 z2 : Value} {xs : List Value} {l : ac8} {L' : List Own} [TI P T (.slice el) s1 b1 z1] [TI P T2 .string s2 b2 z2] [TI P el (.int .u8) 1 1 (.int .u8 0)] [ha : AccI L (.slice (some ⟨b,0,none⟩) m (cap + 1)) el 1 m xs L']
  (hs : ev E s = some (.slice (some ⟨b,0,none⟩) m (cap + 1))) (hx : ev E x = some (S l)) (hlt : Nat.blt d n = true) (hb : m + l.length ≤ 1000000000)
  (kk : ∀ b' cap',Nx n D ((d,.slice (some ⟨b',0,none⟩) (m + l.length) (cap' + 1)) :: E) B G (.acc (.slice (some ⟨b',0,none⟩) (m + l.length) (cap' + 1)) el 1 (m + l.length) (xs ++ bw l) :: L') K) :
  Nx n D E B G L (ow P ⟨some d,.call ⟨.builtin .append,[s,x].toArray,[T,T2].toArray⟩,ty,pos,aft,gd⟩ Q K):=Nx.mk fun a w hsat hw=>by
 obtain ⟨v',w',hr,hst,_,h2⟩:=tv (P:=P) (ty:=ty) (T:=T) (T2:=T2) (el:=el) (s1:=s1) (b1:=b1) (z1:=z1) (s2:=s2) (b2:=b2) (z2:=z2) hb (hw.perm ha.del.perm)
 obtain ⟨b',cap',rfl,h3⟩:=h2 (.inl (by simp))
 obtain ⟨c,rfl⟩ : ∃ c,cap' = c + 1:=⟨cap' - 1,by have:=h3 (.inl (by simp));omega⟩
 have hrun : (execOp a.eval ⟨some d,.call ⟨.builtin .append,[s,x].toArray,[T,T2].toArray⟩,ty,pos,aft,gd⟩).run P w = .ok (.value (.slice (some ⟨b',0,none⟩) (m + l.length) (c + 1))) w':=by
  have e1 : ([s,x].toArray.map a.eval) = #[.slice (some ⟨b,0,none⟩) m (cap + 1),S l]:=by simp [hsat.ev hs,hsat.ev hx]
  simp only [execOp,resolve,e1,Sem.run_bind,Sem.run_pure,Result.andThen_ok,invoke,builtin,hr]
 unfold ow Oper.wp
 rw [hrun,Oper.upon_value]
 exact (kk b' c).go _ w' (hsat.put (by simpa using hlt)) hst
theorem abj {s x : Operand} {T T2 el : TypeId} {s1 b1 s2 b2 : Nat} {z1 z2 : Value} {l : ac8} [TI P T (.slice el) s1 b1 z1] [TI P T2 .string s2 b2 z2] [TI P el (.int .u8) 1 1 (.int .u8 0)]
  (hs : ev E s = some aI) (hx : ev E x = some (S l)) (hlt : Nat.blt d n = true) (hb : 0 < l.length ∧ l.length ≤ 1000000000)
  (kk : ∀ b' cap',Nx n D ((d,.slice (some ⟨b',0,none⟩) l.length (cap' + 1)) :: E) B G (.acc (.slice (some ⟨b',0,none⟩) l.length (cap' + 1)) el 1 l.length (bw l) :: L) K) :
  Nx n D E B G L (ow P ⟨some d,.call ⟨.builtin .append,[s,x].toArray,[T,T2].toArray⟩,ty,pos,aft,gd⟩ Q K):=Nx.mk fun a w hsat hw=>by
 obtain ⟨v',w',hr,hst,_,h2⟩:=tv (P:=P) (ty:=ty) (T:=T) (T2:=T2) (el:=el) (s1:=s1) (b1:=b1) (z1:=z1) (s2:=s2) (b2:=b2) (z2:=z2) (l:=l) oM (hw.addNil el 1)
 have hne : l ≠ []:=List.length_pos_iff.1 hb.1
 obtain ⟨b',cap',rfl,h3⟩:=h2 (.inr hne)
 obtain ⟨c,rfl⟩ : ∃ c,cap' = c + 1:=⟨cap' - 1,by have:=h3 (.inr hne);omega⟩
 simp only [Nat.zero_add,List.nil_append] at hr hst
 have hrun : (execOp a.eval ⟨some d,.call ⟨.builtin .append,[s,x].toArray,[T,T2].toArray⟩,ty,pos,aft,gd⟩).run P w = .ok (.value (.slice (some ⟨b',0,none⟩) l.length (c + 1))) w':=by
  have e1 : ([s,x].toArray.map a.eval) = #[aI,S l]:=by simp [hsat.ev hs,hsat.ev hx]
  simp only [execOp,resolve,e1,Sem.run_bind,Sem.run_pure,Result.andThen_ok,invoke,builtin,hr]
 unfold ow Oper.wp
 rw [hrun,Oper.upon_value]
 exact (kk b' c).go _ w' (hsat.put (by simpa using hlt)) hst
theorem acg {fo x : Operand} {ag : Array TypeId} {f : FuncId} {fn : Func} {t el : TypeId} {m : Nat} {ps : Array TypeId}
  (hf : ev E fo = some (.func (.func f) #[] #[])) (hx : ev E x = some (I (m : Nat))) (hlt : Nat.blt d n = true) (hfn : P.funcs[f]? = some fn) (hname : (fn.name == "runtime.NumGoroutine") = false) (hbd : fn.body.isNone = true) (hnx : Extern.findNext fn = none) (he : Extern.find fn = some (Extern.BytealgMakeNoZero.makeNoZero ps #[t])) (ht : P.underlying t = some (.slice el)) (hm : 0 < m ∧ m ≤ 1000000000)
  (k : ∀ b cap,m ≤ cap + 1 → Nx n D ((d,.slice (some ⟨b,0,none⟩) m (cap + 1)) :: E) B G (.acc (.slice (some ⟨b,0,none⟩) 0 (cap + 1)) el 1 0 [] :: L) K) : Nx n D E B G L (ow P ⟨some d,.call ⟨.value fo,[x].toArray,ag⟩,ty,pos,aft,gd⟩ Q K):=Nx.mk fun a w hs hw=>by
 obtain ⟨cs,hr,hcs,_⟩:=Lib.run_makeNoZero (P:=P) w ps t el ht m oM
 have e1 : ([x].toArray.map a.eval) = #[.int .i64 (m : Nat)]:=by simp [hs.ev hx]
 have hrun : (execOp a.eval ⟨some d,.call ⟨.value fo,[x].toArray,ag⟩,ty,pos,aft,gd⟩).run P w = .ok (.value (.slice (some ⟨w.heap.size,0,none⟩) m cs.size)) (w.drew.drew.alloc (.cells cs el)):=by
  simp only [execOp,resolve,hs.ev hf,e1,Deferred.ofValue,Sem.run_bind,Sem.run_pure,Result.andThen_ok,invoke]
  rw [show (#[] ++ #[Value.int .i64 (m : Nat)] ++ #[] : Array Value) = #[Value.int .i64 (m : Nat)] from rfl,run_callFunc_extern hfn hname hbd hnx he,hr]
  rfl
 unfold ow Oper.wp
 rw [hrun,Oper.upon_value]
 have h1:=hw.drew.drew.alloc (.cells cs el)
 obtain ⟨c,hc⟩ : ∃ c,cs.size = c + 1:=⟨cs.size - 1,oM⟩
 have h2 : St B G (.acc (.slice (some ⟨w.heap.size,0,none⟩) 0 (c + 1)) el 1 0 [] :: L) (w.drew.drew.alloc (.cells cs el)):=h1.conv rfl ⟨rfl,.inr ⟨w.heap.size,c + 1,cs.toList,rfl,Nat.zero_le _,by simp [hc],h1.own _ List.mem_cons_self⟩⟩
 rw [hc]
 exact (k w.heap.size c oM).go _ _ (hs.put (by simpa using hlt)) h2
end
def dq (P : Program) (f : FuncId) (args : List Value) (G : Gh) (L : List Own) (R : Value → Gh → List Own → Prop) : Prop:=Fn P f args G L (fun v G' L'=>Gh.le G G' ∧ R v G' L')
section
variable {P : Program} {n : Nat} {D : List Deferred} {E : bo} {B : Base} {G : Gh} {L : List Own} {K : Act → World → Prop} {Q : Exit → Act → World → Prop}
theorem cI {fo : Operand} {l : List Operand} {ag : Array TypeId} {d : Nat} {ty : TypeId} {pos : String} {aft : Array Edge} {g : Option (Nat × Bool)} {f : FuncId} {fi ca az vs : List Value} {b : Nat} {cs : List Value} {T : TypeId} {R : List Own} {Post : Value → Gh → List Own → Prop}
  [hd : DelB L b cs T R] (hf : ev E fo = some (.func (.func f) fi.toArray ca.toArray)) (ha : evs E l = some az) (hv : fi ++ az ++ ca = vs) (hc : dq P f vs G [.blk b (.cells cs.toArray T (0,0))] Post) (hlt : Nat.blt d n = true)
  (k : ∀ v G' L',Gh.le G G' → Post v G' L' → Nx n D ((d,v) :: E) B G' (L' ++ R) K) : Nx n D E B G L (ow P ⟨some d,.call ⟨.value fo,l.toArray,ag⟩,ty,pos,aft,g⟩ Q K) :=
 aa6 hf ha hv hc hlt fun v G' L' h=>k v G' L' h.1 h.2
theorem bL {f : FuncId} {fn : Func} {c : Code} {args : List Value} {R : Value → Gh → List Own → Prop} (E0 : bo) (hf : P.funcs[f]? = some fn) (hok : dQ P f = true) (hn : fn.ntmps = n) (hb : fn.body = some c)
  (hlen : Nat.ble args.length n = true) (hE : gw E0 (params 0 args))
  (h : ∀ B,B.G = G → B.W = cl L → Nx n [] E0 B G L (cu P (.code c) [] (bp P fn (dB B (fun v G' L'=>Gh.le G G' ∧ R v G' L'))))) : dq P f args G L R:=ue E0 hf hok hn hb hlen hE h
end
def z0 (n : Nat) (cs : List Value) : Bool:=cs.all fun v=>match v with | .string b=>Nat.ble b.size n | _=>false
section
variable {P : Program} {n : Nat} {D : List Deferred} {E : bo} {B : Base} {G : Gh} {L : List Own} {K : Act → World → Prop} {Q : Exit → Act → World → Prop}
theorem eg (m : Nat) {T T0 : TypeId} {x : Operand} {desc : TypeDesc} {size bytes : Nat} {zero : Value} {b o d : Nat} {cs : List Value} {fr : Nat × Nat} {ty : TypeId} {pos : String} {aft : Array Edge} {g : Option (Nat × Bool)} [TI P T desc size bytes zero] [h : BlkI L b cs T0 fr] (hx : ev E x = some (Pt b o)) (ha : dh desc = false) (hlt : Nat.blt d n = true) (ho : o < cs.length) (hs : z0 m cs = true)
  (k : ∀ l : ac8,l.length ≤ m → Nx n D ((d,S l) :: E) B G L K) : Nx n D E B G L (ow P ⟨some d,.load T x,ty,pos,aft,g⟩ Q K) :=
 dV hx ha hlt ho fun v hv=>by
  have h1:=List.all_eq_true.1 hs v hv
  split at h1
  ·rename_i b
   have e : Value.string b = S b.data.toList:=by simp [S]
   rw [e]
   exact k _ (by rw [Array.length_toList];exact Nat.le_of_ble_eq_true h1)
  ·cases h1
def kS (m : Int) : List Value → Prop
 | []=>True
 | v :: r=>(∃ i : Int,v = I i ∧ 0 ≤ i ∧ i ≤ m) ∧ kS m r
theorem o9 {m : Int} : ∀ {cs : List Value},kS m cs → ∀ v ∈ cs,∃ i : Int,v = I i ∧ 0 ≤ i ∧ i ≤ m
 | [],_,_,h=>absurd h (by simp)
 | w :: r,h,v,hv=>by
  rcases List.mem_cons.1 hv with rfl | hv
  ·exact h.1
  ·exact o9 h.2 v hv
theorem uI {m : Int} : kS m []:=trivial
theorem s8 {m i : Int} {r : List Value} (h : 0 ≤ i ∧ i ≤ m) (h2 : kS m r) : kS m (I i :: r):=⟨⟨i,rfl,h.1,h.2⟩,h2⟩
theorem aa8 (m : Int) {T T0 : TypeId} {x : Operand} {desc : TypeDesc} {size bytes : Nat} {zero : Value} {b o d : Nat} {cs : List Value} {fr : Nat × Nat} {ty : TypeId} {pos : String} {aft : Array Edge} {g : Option (Nat × Bool)} [TI P T desc size bytes zero] [h : BlkI L b cs T0 fr] (hx : ev E x = some (Pt b o)) (ha : dh desc = false) (hlt : Nat.blt d n = true) (ho : o < cs.length) (hs : kS m cs)
  (k : ∀ i : Int,0 ≤ i → i ≤ m → Nx n D ((d,I i) :: E) B G L K) : Nx n D E B G L (ow P ⟨some d,.load T x,ty,pos,aft,g⟩ Q K) :=
 dV hx ha hlt ho fun v hv=>by
  obtain ⟨i,rfl,h0,h1⟩:=o9 hs v hv
  exact k i h0 h1
end
theorem PutsR.len {cs vs cs' : List Value} {o : Nat} (h : PutsR cs o vs cs') : cs'.length = cs.length:=by
 induction h with
 | nil=>rfl
 | here _ ih=>simp [ih]
 | there _ ih=>simp [ih]
class UpdA (b : Nat) (xs' : List Value) (L : List Own) (m cap : outParam Nat) (T0 : outParam TypeId) (sz : outParam Nat) (xs : outParam (List Value)) (L' : outParam (List Own)) : Prop where
 upd : UpdO (.acc (.slice (some ⟨b,0,none⟩) m cap) T0 sz m xs) (.acc (.slice (some ⟨b,0,none⟩) m cap) T0 sz m xs') L L'
instance {b m cap : Nat} {T0 : TypeId} {sz : Nat} {xs xs' : List Value} {r : List Own} : UpdA b xs' (.acc (.slice (some ⟨b,0,none⟩) m cap) T0 sz m xs :: r) m cap T0 sz xs (.acc (.slice (some ⟨b,0,none⟩) m cap) T0 sz m xs' :: r):=⟨.here⟩
instance {b m cap : Nat} {T0 : TypeId} {sz : Nat} {xs xs' : List Value} {z : Own} {r r' : List Own} [h : UpdA b xs' r m cap T0 sz xs r'] : UpdA b xs' (z :: r) m cap T0 sz xs (z :: r'):=⟨.there h.upd⟩
section
variable {P : Program} {n : Nat} {D : List Deferred} {E : bo} {B : Base} {G : Gh} {L : List Own} {K : Act → World → Prop} {Q : Exit → Act → World → Prop} {ty : TypeId} {pos : String} {aft : Array Edge} {gd : Option (Nat × Bool)} {dd : Nat}
end
section
variable {P : Program} {n : Nat} {D : List Deferred} {E : bo} {B : Base} {G : Gh} {L : List Own} {K : Act → World → Prop} {Q : Exit → Act → World → Prop} {ty : TypeId} {pos : String} {aft : Array Edge} {gd : Option (Nat × Bool)} {dd : Nat}
end
def wE (P : Program) (fn : Func) (R : Ending → World → Prop) : Exit → Act → World → Prop
 | .normal,a,w | .ret,a,w=>Leaves P fn a.tmps R a.defers .returning w
 | .outgrown,_,w=>R .outgrown w
 | _,_,_=>False
instance {P : Program} {fn : Func} {R : Ending → World → Prop} : PQ (wE P fn R):=⟨fun _ _ _ _ _ h=>h⟩
structure FnD (P : Program) (f : FuncId) (args : List Value) (G : Gh) (L : List Own) (Post : Value → Gh → List Own → Prop) : Prop where
 ok : dQ P f = true
 go : ∀ w,St ⟨w,G,cl L⟩ G L w → CallsD P f args.toArray .returning w fun e u w'=>u = .returning ∧ dB ⟨w,G,cl L⟩ Post e w'
section
variable {P : Program} {n : Nat} {D : List Deferred} {E : bo} {B : Base} {G : Gh} {L : List Own} {K : Act → World → Prop} {Q : Exit → Act → World → Prop}
theorem cy {f : FuncId} {fn : Func} {c : Code} {args : List Value} {Post : Value → Gh → List Own → Prop} (E0 : bo) (hf : P.funcs[f]? = some fn) (hok : dQ P f = true) (hn : fn.ntmps = n) (hb : fn.body = some c)
  (hlen : Nat.ble args.length n = true) (hE : gw E0 (params 0 args))
  (h : ∀ B,BOk B → B.G = G → B.W = cl L → Nx n [] E0 B G L (cu P (.code c) [] (wE P fn (dB B Post)))) : Fn P f args G L Post:=by
 refine ⟨hok,fun w hw=>calls_of_wp_defers hf hb ?_⟩
 rw [hn]
 have:=(h ⟨w,G,cl L⟩ ⟨hw.ok,fun b hb=>(hw.fresh b hb).1⟩ rfl rfl).go _ w ((iO args (by simpa using hlen)).sub hE) hw
 unfold cu at this
 dsimp only at this
 unfold kk cw at this
 refine wp_mono this fun e a' w' q=>?_
 cases e <;> first | exact q | exact q.elim
theorem y6 {f : FuncId} {fn : Func} {c : Code} {args : List Value} {Post : Value → Gh → List Own → Prop} (E0 : bo) (hf : P.funcs[f]? = some fn) (hok : dQ P f = true) (hn : fn.ntmps = n) (hb : fn.body = some c)
  (hlen : Nat.ble args.length n = true) (hE : gw E0 (params 0 args))
  (h : ∀ B,BOk B → B.G = G → B.W = cl L → Nx n [] E0 B G L (cu P (.code c) [] (bp P fn (dB B Post)))) : FnD P f args G L Post:=by
 refine ⟨hok,fun w hw=>callsD_of_wp hf hb ?_⟩
 rw [hn]
 have:=(h ⟨w,G,cl L⟩ ⟨hw.ok,fun b hb=>(hw.fresh b hb).1⟩ rfl rfl).go _ w ((iO args (by simpa using hlen)).sub hE) hw
 unfold cu at this
 dsimp only at this
 unfold kk cw bp at this
 exact this
def sh (f : FuncId) (fi ca az : List Value) : Deferred:=⟨.fn (.func f) ca.toArray,(fi ++ az).toArray⟩
theorem cz {fo : Operand} {l : List Operand} {ag : Array TypeId} {ty : TypeId} {pos : String} {aft : Array Edge} {g : Option (Nat × Bool)} {f : FuncId} {fi ca az : List Value}
  (hf : ev E fo = some (.func (.func f) fi.toArray ca.toArray)) (ha : evs E l = some az)
  (k : Nx n (sh f fi ca az :: D) E B G L K) : Nx n D E B G L (ow P ⟨none,.defer ⟨.value fo,l.toArray,ag⟩,ty,pos,aft,g⟩ Q K):=Nx.mk fun a w hs hw=>by
 unfold ow Oper.wp
 have h1 : l.toArray.map a.eval = az.toArray:=by rw [List.map_toArray,hs.evs ha]
 have : (execOp a.eval ⟨none,.defer ⟨.value fo,l.toArray,ag⟩,ty,pos,aft,g⟩).run P w = .ok (.defer (sh f fi ca az)) w:=by
  simp only [execOp,resolve,hs.ev hf,h1,Deferred.ofValue,Sem.run_bind,Sem.run_pure,Result.andThen_ok,sh]
  simp
 rw [this,Oper.upon_defer]
 exact k.go _ w ⟨hs.size,by rw [show ({ a with defers:=sh f fi ca az :: a.defers } : Act).put none undef = { a with defers:=sh f fi ca az :: a.defers } from F];simp [hs.defers],hs.at'⟩ hw
theorem abI {e : Exit} {f : FuncId} {fi ca az xs : List Value} {Lp R : List Own} {PostD : Value → Gh → List Own → Prop} {fn : Func} {rs : List ResultVar} {Post : Value → Gh → List Own → Prop} (he : e = .ret ∨ e = .normal) (hv : fi ++ az ++ ca = xs) (hc : FnD P f xs G Lp PostD) (hL : L.Perm (Lp ++ R))
  (hr : fn.results = rs.toArray) (k : ∀ v G' L',PostD v G' L' → ∃ vs L'',iJ P (St B G' (L' ++ R)) E rs vs ∧ L''.Sublist (L' ++ R) ∧ Post (eM vs) G' L'') :
  Nx n [sh f fi ca az] E B G L (cu P (.exit e) [] (wE P fn (dB B Post))):=Nx.mk fun a w hs hw=>by
 have hw':=hw.perm hL
 have main : Leaves P fn a.tmps (dB B Post) a.defers .returning w:=by
  rw [hs.defers]
  refine ⟨(fun h=>by cases h),Fn.func f,ca.toArray,f,xs.toArray,F,?_,?_⟩
  ·subst hv
   show (invoke (.fn (.func f) ca.toArray) (fi ++ az).toArray).run P w = _
   simp only [invoke]
   rw [ma hc.ok]
   simp
  ·intro c cs hu
   obtain ⟨e',u',w',fr,⟨h1,v,G',L',h2,h3,h4⟩,h5,h6,h7⟩:=hc.go w hw'.enter c cs hu
   subst h1 h2
   refine ⟨_,_,w',fr,?_,h5,h6,h7⟩
   obtain ⟨vs,L'',g1,g2,g3⟩:=k v G' L' h4
   have h8:=hw'.back h3
   exact ⟨eM vs,kz hs h8 hr g1,_,_,_,F,h8.weaken g2,g3⟩
 rcases he with rfl | rfl
 ·unfold cu;dsimp only;unfold kk;exact main
 ·unfold cu;dsimp only;unfold kk;exact main
end
attribute [irreducible] wE
section
variable {P : Program} {n : Nat} {D : List Deferred} {E : bo} {B : Base} {G : Gh} {L : List Own} {K : Act → World → Prop} {Q : Exit → Act → World → Prop} {ty : TypeId} {pos : String} {aft : Array Edge} {gd : Option (Nat × Bool)}
end
open Go.Proofs
abbrev bF : Value:=.bool false
abbrev u0 : Value:=.int .u8 0
noncomputable abbrev ac7 : Program:=Tryz.prog
instance ti2 : TI ac7 2 (.int .i64) 1 8 (.int .i64 0):=TI.mk' kR kR kR
instance ti3 : TI ac7 3 (.int .i64) 1 8 (.int .i64 0):=TI.mk' kR kR kR
instance ti4 : TI ac7 4 .bool 1 1 (.bool false):=TI.mk' kR kR kR
instance ti5 : TI ac7 5 (.int .u8) 1 1 (.int .u8 0):=TI.mk' kR kR kR
instance ti6 : TI ac7 6 (.int .u8) 1 1 (.int .u8 0):=TI.mk' kR kR kR
instance ti7 : TI ac7 7 (.struct (bC ac7 7)) 4 24 (Ag [(.int .i64 0),(.int .i64 0),(.bool false),(.int .u8 0)]):=TI.mk' kR kR kR
instance ti8 : TI ac7 8 (.struct (bC ac7 8)) 4 24 (Ag [(.int .i64 0),(.int .i64 0),(.bool false),(.int .u8 0)]):=TI.mk' kR kR kR
instance ti9 : TI ac7 9 .string 1 16 (S []):=TI.mk' kR kR kR
instance ti12 : TI ac7 12 (.int .u64) 1 8 (.int .u64 0):=TI.mk' kR kR kR
instance ti13 : TI ac7 13 (.struct (bC ac7 13)) 2 24 (Ag [(S []),(.int .u64 0)]):=TI.mk' kR kR kR
instance ti14 : TI ac7 14 (.struct (bC ac7 14)) 2 24 (Ag [(S []),(.int .u64 0)]):=TI.mk' kR kR kR
instance ti17 : TI ac7 17 (.pointer 263) 1 8 (.pointer none):=TI.mk' kR kR kR
instance ti18 : TI ac7 18 (.struct (bC ac7 18)) 1 8 (Ag [(.pointer none)]):=TI.mk' kR kR kR
instance ti19 : TI ac7 19 (.struct (bC ac7 19)) 1 8 (Ag [(.pointer none)]):=TI.mk' kR kR kR
instance ti22 : TI ac7 22 (.slice 5) 1 24 aI:=TI.mk' kR kR kR
instance ti23 : TI ac7 23 (.slice 42) 1 24 aI:=TI.mk' kR kR kR
instance ti24 : TI ac7 24 (.struct (bC ac7 24)) 2 40 (Ag [(S []),aI]):=TI.mk' kR kR kR
instance ti25 : TI ac7 25 (.struct (bC ac7 25)) 2 40 (Ag [(S []),aI]):=TI.mk' kR kR kR
instance ti41 : TI ac7 41 (.struct (bC ac7 41)) 3 48 (Ag [(S []),(S []),(S [])]):=TI.mk' kR kR kR
instance ti42 : TI ac7 42 (.struct (bC ac7 42)) 3 48 (Ag [(S []),(S []),(S [])]):=TI.mk' kR kR kR
instance ti46 : TI ac7 46 (.pointer 93) 1 8 (.pointer none):=TI.mk' kR kR kR
instance ti49 : TI ac7 49 (.slice 9) 1 24 aI:=TI.mk' kR kR kR
instance ti53 : TI ac7 53 (.slice 3) 1 24 aI:=TI.mk' kR kR kR
instance ti62 : TI ac7 62 (.pointer 65) 1 8 (.pointer none):=TI.mk' kR kR kR
instance ti63 : TI ac7 63 (.pointer 129) 1 8 (.pointer none):=TI.mk' kR kR kR
instance ti64 : TI ac7 64 (.struct (bC ac7 64)) 5 64 (Ag [(.pointer none),(S []),(.bool false),aI,(.int .i64 0)]):=TI.mk' kR kR kR
instance ti65 : TI ac7 65 (.struct (bC ac7 65)) 5 64 (Ag [(.pointer none),(S []),(.bool false),aI,(.int .i64 0)]):=TI.mk' kR kR kR
instance ti76 : TI ac7 76 (.struct (bC ac7 76)) 3 48 (Ag [(S []),(S []),(S [])]):=TI.mk' kR kR kR
instance ti77 : TI ac7 77 (.struct (bC ac7 77)) 3 48 (Ag [(S []),(S []),(S [])]):=TI.mk' kR kR kR
instance ti81 : TI ac7 81 (.slice 83) 1 24 aI:=TI.mk' kR kR kR
instance ti82 : TI ac7 82 (.struct (bC ac7 82)) 4 56 (Ag [(.int .u8 0),(S []),(.int .i64 0),aI]):=TI.mk' kR kR kR
instance ti83 : TI ac7 83 (.struct (bC ac7 83)) 4 56 (Ag [(.int .u8 0),(S []),(.int .i64 0),aI]):=TI.mk' kR kR kR
instance ti92 : TI ac7 92 (.struct (bC ac7 92)) 2 32 (Ag [aI,(.int .i64 0)]):=TI.mk' kR kR kR
instance ti93 : TI ac7 93 (.struct (bC ac7 93)) 2 32 (Ag [aI,(.int .i64 0)]):=TI.mk' kR kR kR
instance ti97 : TI ac7 97 (.slice 110) 1 24 aI:=TI.mk' kR kR kR
instance ti100 : TI ac7 100 (.pointer 147) 1 8 (.pointer none):=TI.mk' kR kR kR
instance ti108 : TI ac7 108 (.slice 112) 1 24 aI:=TI.mk' kR kR kR
instance ti109 : TI ac7 109 (.struct (bC ac7 109)) 3 48 (Ag [(.int .u8 0),(S []),aI]):=TI.mk' kR kR kR
instance ti110 : TI ac7 110 (.struct (bC ac7 110)) 3 48 (Ag [(.int .u8 0),(S []),aI]):=TI.mk' kR kR kR
instance ti111 : TI ac7 111 (.struct (bC ac7 111)) 4 56 (Ag [(.int .i64 0),(S []),(S []),(S [])]):=TI.mk' kR kR kR
instance ti112 : TI ac7 112 (.struct (bC ac7 112)) 4 56 (Ag [(.int .i64 0),(S []),(S []),(S [])]):=TI.mk' kR kR kR
instance ti125 : TI ac7 125 (.pointer 132) 1 8 (.pointer none):=TI.mk' kR kR kR
instance ti126 : TI ac7 126 (.slice 125) 1 24 aI:=TI.mk' kR kR kR
instance ti127 : TI ac7 127 (.map 9 125) 1 8 (.map none):=TI.mk' kR kR kR
instance ti128 : TI ac7 128 (.struct (bC ac7 128)) 2 32 (Ag [aI,(.map none)]):=TI.mk' kR kR kR
instance ti129 : TI ac7 129 (.struct (bC ac7 129)) 2 32 (Ag [aI,(.map none)]):=TI.mk' kR kR kR
instance ti130 : TI ac7 130 (.slice 134) 1 24 aI:=TI.mk' kR kR kR
instance ti131 : TI ac7 131 (.struct (bC ac7 131)) 4 64 (Ag [(.int .u8 0),(S []),aI,(S [])]):=TI.mk' kR kR kR
instance ti132 : TI ac7 132 (.struct (bC ac7 132)) 4 64 (Ag [(.int .u8 0),(S []),aI,(S [])]):=TI.mk' kR kR kR
instance ti133 : TI ac7 133 (.struct (bC ac7 133)) 6 88 (Ag [(.int .i64 0),(S []),(S []),(S []),(S []),(S [])]):=TI.mk' kR kR kR
instance ti134 : TI ac7 134 (.struct (bC ac7 134)) 6 88 (Ag [(.int .i64 0),(S []),(S []),(S []),(S []),(S [])]):=TI.mk' kR kR kR
instance ti136 : TI ac7 136 (.map 225 4) 1 8 (.map none):=TI.mk' kR kR kR
instance ti137 : TI ac7 137 (.struct (bC ac7 137)) 3 24 (Ag [(.pointer none),(.pointer none),(.map none)]):=TI.mk' kR kR kR
instance ti138 : TI ac7 138 (.struct (bC ac7 138)) 3 24 (Ag [(.pointer none),(.pointer none),(.map none)]):=TI.mk' kR kR kR
instance ti145 : TI ac7 145 (.slice 100) 1 24 aI:=TI.mk' kR kR kR
instance ti146 : TI ac7 146 (.struct (bC ac7 146)) 4 80 (Ag [(S []),(S []),aI,aI]):=TI.mk' kR kR kR
instance ti147 : TI ac7 147 (.struct (bC ac7 147)) 4 80 (Ag [(S []),(S []),aI,aI]):=TI.mk' kR kR kR
instance ti159 : TI ac7 159 (.slice 211) 1 24 aI:=TI.mk' kR kR kR
instance ti160 : TI ac7 160 (.struct (bC ac7 160)) 3 72 (Ag [aI,aI,aI]):=TI.mk' kR kR kR
instance ti161 : TI ac7 161 (.struct (bC ac7 161)) 3 72 (Ag [aI,aI,aI]):=TI.mk' kR kR kR
instance ti168 : TI ac7 168 (.pointer 170) 1 8 (.pointer none):=TI.mk' kR kR kR
instance ti169 : TI ac7 169 (.struct (bC ac7 169)) 3 32 (Ag [(.pointer none),(S []),(.bool false)]):=TI.mk' kR kR kR
instance ti170 : TI ac7 170 (.struct (bC ac7 170)) 3 32 (Ag [(.pointer none),(S []),(.bool false)]):=TI.mk' kR kR kR
instance ti173 : TI ac7 173 (.pointer 134) 1 8 (.pointer none):=TI.mk' kR kR kR
instance ti176 : TI ac7 176 (.pointer 178) 1 8 (.pointer none):=TI.mk' kR kR kR
instance ti177 : TI ac7 177 (.struct (bC ac7 177)) 2 32 (Ag [(.pointer none),aI]):=TI.mk' kR kR kR
instance ti178 : TI ac7 178 (.struct (bC ac7 178)) 2 32 (Ag [(.pointer none),aI]):=TI.mk' kR kR kR
instance ti192 : TI ac7 192 (.array 256 4) 256 256 (Ag [bF,bF,bF,bF,bF,bF,bF,bF,bF,bF,bF,bF,bF,bF,bF,bF,bF,bF,bF,bF,bF,bF,bF,bF,bF,bF,bF,bF,bF,bF,bF,bF,bF,bF,bF,bF,bF,bF,bF,bF,bF,bF,bF,bF,bF,bF,bF,bF,bF,bF,bF,bF,bF,bF,bF,bF,bF,bF,bF,bF,bF,bF,bF,bF,bF,bF,bF,bF,bF,bF,bF,bF,bF,bF,bF,bF,bF,bF,bF,bF,bF,bF,bF,bF,bF,bF,bF,bF,bF,bF,bF,bF,bF,bF,bF,bF,bF,bF,bF,bF,bF,bF,bF,bF,bF,bF,bF,bF,bF,bF,bF,bF,bF,bF,bF,bF,bF,bF,bF,bF,bF,bF,bF,bF,bF,bF,bF,bF,bF,bF,bF,bF,bF,bF,bF,bF,bF,bF,bF,bF,bF,bF,bF,bF,bF,bF,bF,bF,bF,bF,bF,bF,bF,bF,bF,bF,bF,bF,bF,bF,bF,bF,bF,bF,bF,bF,bF,bF,bF,bF,bF,bF,bF,bF,bF,bF,bF,bF,bF,bF,bF,bF,bF,bF,bF,bF,bF,bF,bF,bF,bF,bF,bF,bF,bF,bF,bF,bF,bF,bF,bF,bF,bF,bF,bF,bF,bF,bF,bF,bF,bF,bF,bF,bF,bF,bF,bF,bF,bF,bF,bF,bF,bF,bF,bF,bF,bF,bF,bF,bF,bF,bF,bF,bF,bF,bF,bF,bF,bF,bF,bF,bF,bF,bF,bF,bF,bF,bF,bF,bF,bF,bF,bF,bF,bF,(.bool false)]):=TI.mk' kR kR kR
instance ti196 : TI ac7 196 (.pointer 192) 1 8 (.pointer none):=TI.mk' kR kR kR
instance ti198 : TI ac7 198 (.struct (bC ac7 198)) 1 24 (Ag [aI]):=TI.mk' kR kR kR
instance ti199 : TI ac7 199 (.struct (bC ac7 199)) 1 24 (Ag [aI]):=TI.mk' kR kR kR
instance ti210 : TI ac7 210 (.struct (bC ac7 210)) 2 32 (Ag [(S []),(S [])]):=TI.mk' kR kR kR
instance ti211 : TI ac7 211 (.struct (bC ac7 211)) 2 32 (Ag [(S []),(S [])]):=TI.mk' kR kR kR
instance ti217 : TI ac7 217 (.pointer 5) 1 8 (.pointer none):=TI.mk' kR kR kR
instance ti224 : TI ac7 224 (.struct (bC ac7 224)) 2 32 (Ag [(S []),(S [])]):=TI.mk' kR kR kR
instance ti225 : TI ac7 225 (.struct (bC ac7 225)) 2 32 (Ag [(S []),(S [])]):=TI.mk' kR kR kR
instance ti245 : TI ac7 245 (.struct (bC ac7 245)) 2 2 (Ag [(.int .u8 0),(.int .u8 0)]):=TI.mk' kR kR kR
instance ti246 : TI ac7 246 (.struct (bC ac7 246)) 2 2 (Ag [(.int .u8 0),(.int .u8 0)]):=TI.mk' kR kR kR
instance ti252 : TI ac7 252 (.struct (bC ac7 252)) 4 40 (Ag [(.pointer none),(.pointer none),(.pointer none),(S [])]):=TI.mk' kR kR kR
instance ti253 : TI ac7 253 (.struct (bC ac7 253)) 4 40 (Ag [(.pointer none),(.pointer none),(.pointer none),(S [])]):=TI.mk' kR kR kR
instance fa7_0 : FA ac7 7 0 0:=FA.mk' kR ti2 rfl
instance fv7_0 : FV ac7 7 0 false 0 1:=FV.mk' kR ti2 rfl
instance fa7_1 : FA ac7 7 1 1:=FA.mk' kR ti3 rfl
instance fv7_1 : FV ac7 7 1 false 1 1:=FV.mk' kR ti3 rfl
instance fa7_2 : FA ac7 7 2 2:=FA.mk' kR ti4 rfl
instance fv7_2 : FV ac7 7 2 false 2 1:=FV.mk' kR ti4 rfl
instance fa7_3 : FA ac7 7 3 3:=FA.mk' kR ti6 rfl
instance fv7_3 : FV ac7 7 3 false 3 1:=FV.mk' kR ti6 rfl
instance fa8_0 : FA ac7 8 0 0:=FA.mk' kR ti2 rfl
instance fv8_0 : FV ac7 8 0 false 0 1:=FV.mk' kR ti2 rfl
instance fa8_1 : FA ac7 8 1 1:=FA.mk' kR ti3 rfl
instance fv8_1 : FV ac7 8 1 false 1 1:=FV.mk' kR ti3 rfl
instance fa8_2 : FA ac7 8 2 2:=FA.mk' kR ti4 rfl
instance fv8_2 : FV ac7 8 2 false 2 1:=FV.mk' kR ti4 rfl
instance fa8_3 : FA ac7 8 3 3:=FA.mk' kR ti6 rfl
instance fv8_3 : FV ac7 8 3 false 3 1:=FV.mk' kR ti6 rfl
instance fa13_0 : FA ac7 13 0 0:=FA.mk' kR ti9 rfl
instance fv13_0 : FV ac7 13 0 false 0 1:=FV.mk' kR ti9 rfl
instance fa13_1 : FA ac7 13 1 1:=FA.mk' kR ti12 rfl
instance fv13_1 : FV ac7 13 1 false 1 1:=FV.mk' kR ti12 rfl
instance fa14_0 : FA ac7 14 0 0:=FA.mk' kR ti9 rfl
instance fv14_0 : FV ac7 14 0 false 0 1:=FV.mk' kR ti9 rfl
instance fa14_1 : FA ac7 14 1 1:=FA.mk' kR ti12 rfl
instance fv14_1 : FV ac7 14 1 false 1 1:=FV.mk' kR ti12 rfl
instance fa18_0 : FA ac7 18 0 0:=FA.mk' kR ti17 rfl
instance fv18_0 : FV ac7 18 0 false 0 1:=FV.mk' kR ti17 rfl
instance fa19_0 : FA ac7 19 0 0:=FA.mk' kR ti17 rfl
instance fv19_0 : FV ac7 19 0 false 0 1:=FV.mk' kR ti17 rfl
instance fa24_0 : FA ac7 24 0 0:=FA.mk' kR ti9 rfl
instance fv24_0 : FV ac7 24 0 false 0 1:=FV.mk' kR ti9 rfl
instance fa24_1 : FA ac7 24 1 1:=FA.mk' kR ti23 rfl
instance fv24_1 : FV ac7 24 1 false 1 1:=FV.mk' kR ti23 rfl
instance fa25_0 : FA ac7 25 0 0:=FA.mk' kR ti9 rfl
instance fv25_0 : FV ac7 25 0 false 0 1:=FV.mk' kR ti9 rfl
instance fa25_1 : FA ac7 25 1 1:=FA.mk' kR ti23 rfl
instance fv25_1 : FV ac7 25 1 false 1 1:=FV.mk' kR ti23 rfl
instance : BT ac7 25 [(0,1),(1,1)] [(S []),aI]:=BT.mk' [(9,0,1),(23,1,1)] rfl kR kR rfl
instance fa41_0 : FA ac7 41 0 0:=FA.mk' kR ti9 rfl
instance fv41_0 : FV ac7 41 0 false 0 1:=FV.mk' kR ti9 rfl
instance fa41_1 : FA ac7 41 1 1:=FA.mk' kR ti9 rfl
instance fv41_1 : FV ac7 41 1 false 1 1:=FV.mk' kR ti9 rfl
instance fa41_2 : FA ac7 41 2 2:=FA.mk' kR ti9 rfl
instance fv41_2 : FV ac7 41 2 false 2 1:=FV.mk' kR ti9 rfl
instance fa42_0 : FA ac7 42 0 0:=FA.mk' kR ti9 rfl
instance fv42_0 : FV ac7 42 0 false 0 1:=FV.mk' kR ti9 rfl
instance fa42_1 : FA ac7 42 1 1:=FA.mk' kR ti9 rfl
instance fv42_1 : FV ac7 42 1 false 1 1:=FV.mk' kR ti9 rfl
instance fa42_2 : FA ac7 42 2 2:=FA.mk' kR ti9 rfl
instance fv42_2 : FV ac7 42 2 false 2 1:=FV.mk' kR ti9 rfl
instance : BT ac7 42 [(0,1),(1,1),(2,1)] [(S []),(S []),(S [])]:=BT.mk' [(9,0,1),(9,1,1),(9,2,1)] rfl kR kR rfl
instance fa64_0 : FA ac7 64 0 0:=FA.mk' kR ti63 rfl
instance fv64_0 : FV ac7 64 0 false 0 1:=FV.mk' kR ti63 rfl
instance fa64_1 : FA ac7 64 1 1:=FA.mk' kR ti9 rfl
instance fv64_1 : FV ac7 64 1 false 1 1:=FV.mk' kR ti9 rfl
instance fa64_2 : FA ac7 64 2 2:=FA.mk' kR ti4 rfl
instance fv64_2 : FV ac7 64 2 false 2 1:=FV.mk' kR ti4 rfl
instance fa64_3 : FA ac7 64 3 3:=FA.mk' kR ti53 rfl
instance fv64_3 : FV ac7 64 3 false 3 1:=FV.mk' kR ti53 rfl
instance fa64_4 : FA ac7 64 4 4:=FA.mk' kR ti3 rfl
instance fv64_4 : FV ac7 64 4 false 4 1:=FV.mk' kR ti3 rfl
instance fa65_0 : FA ac7 65 0 0:=FA.mk' kR ti63 rfl
instance fv65_0 : FV ac7 65 0 false 0 1:=FV.mk' kR ti63 rfl
instance fa65_1 : FA ac7 65 1 1:=FA.mk' kR ti9 rfl
instance fv65_1 : FV ac7 65 1 false 1 1:=FV.mk' kR ti9 rfl
instance fa65_2 : FA ac7 65 2 2:=FA.mk' kR ti4 rfl
instance fv65_2 : FV ac7 65 2 false 2 1:=FV.mk' kR ti4 rfl
instance fa65_3 : FA ac7 65 3 3:=FA.mk' kR ti53 rfl
instance fv65_3 : FV ac7 65 3 false 3 1:=FV.mk' kR ti53 rfl
instance fa65_4 : FA ac7 65 4 4:=FA.mk' kR ti3 rfl
instance fv65_4 : FV ac7 65 4 false 4 1:=FV.mk' kR ti3 rfl
instance : BT ac7 65 [(0,1),(1,1),(2,1),(3,1),(4,1)] [(.pointer none),(S []),(.bool false),aI,(.int .i64 0)]:=BT.mk' [(63,0,1),(9,1,1),(4,2,1),(53,3,1),(3,4,1)] rfl kR kR rfl
instance fa76_0 : FA ac7 76 0 0:=FA.mk' kR ti9 rfl
instance fv76_0 : FV ac7 76 0 false 0 1:=FV.mk' kR ti9 rfl
instance fa76_1 : FA ac7 76 1 1:=FA.mk' kR ti9 rfl
instance fv76_1 : FV ac7 76 1 false 1 1:=FV.mk' kR ti9 rfl
instance fa76_2 : FA ac7 76 2 2:=FA.mk' kR ti9 rfl
instance fv76_2 : FV ac7 76 2 false 2 1:=FV.mk' kR ti9 rfl
instance fa77_0 : FA ac7 77 0 0:=FA.mk' kR ti9 rfl
instance fv77_0 : FV ac7 77 0 false 0 1:=FV.mk' kR ti9 rfl
instance fa77_1 : FA ac7 77 1 1:=FA.mk' kR ti9 rfl
instance fv77_1 : FV ac7 77 1 false 1 1:=FV.mk' kR ti9 rfl
instance fa77_2 : FA ac7 77 2 2:=FA.mk' kR ti9 rfl
instance fv77_2 : FV ac7 77 2 false 2 1:=FV.mk' kR ti9 rfl
instance : BT ac7 77 [(0,1),(1,1),(2,1)] [(S []),(S []),(S [])]:=BT.mk' [(9,0,1),(9,1,1),(9,2,1)] rfl kR kR rfl
instance fa82_0 : FA ac7 82 0 0:=FA.mk' kR ti5 rfl
instance fv82_0 : FV ac7 82 0 false 0 1:=FV.mk' kR ti5 rfl
instance fa82_1 : FA ac7 82 1 1:=FA.mk' kR ti9 rfl
instance fv82_1 : FV ac7 82 1 false 1 1:=FV.mk' kR ti9 rfl
instance fa82_2 : FA ac7 82 2 2:=FA.mk' kR ti3 rfl
instance fv82_2 : FV ac7 82 2 false 2 1:=FV.mk' kR ti3 rfl
instance fa82_3 : FA ac7 82 3 3:=FA.mk' kR ti81 rfl
instance fv82_3 : FV ac7 82 3 false 3 1:=FV.mk' kR ti81 rfl
instance fa83_0 : FA ac7 83 0 0:=FA.mk' kR ti5 rfl
instance fv83_0 : FV ac7 83 0 false 0 1:=FV.mk' kR ti5 rfl
instance fa83_1 : FA ac7 83 1 1:=FA.mk' kR ti9 rfl
instance fv83_1 : FV ac7 83 1 false 1 1:=FV.mk' kR ti9 rfl
instance fa83_2 : FA ac7 83 2 2:=FA.mk' kR ti3 rfl
instance fv83_2 : FV ac7 83 2 false 2 1:=FV.mk' kR ti3 rfl
instance fa83_3 : FA ac7 83 3 3:=FA.mk' kR ti81 rfl
instance fv83_3 : FV ac7 83 3 false 3 1:=FV.mk' kR ti81 rfl
instance : BT ac7 83 [(0,1),(1,1),(2,1),(3,1)] [(.int .u8 0),(S []),(.int .i64 0),aI]:=BT.mk' [(5,0,1),(9,1,1),(3,2,1),(81,3,1)] rfl kR kR rfl
instance fa92_0 : FA ac7 92 0 0:=FA.mk' kR ti22 rfl
instance fv92_0 : FV ac7 92 0 false 0 1:=FV.mk' kR ti22 rfl
instance fa92_1 : FA ac7 92 1 1:=FA.mk' kR ti3 rfl
instance fv92_1 : FV ac7 92 1 false 1 1:=FV.mk' kR ti3 rfl
instance fa93_0 : FA ac7 93 0 0:=FA.mk' kR ti22 rfl
instance fv93_0 : FV ac7 93 0 false 0 1:=FV.mk' kR ti22 rfl
instance fa93_1 : FA ac7 93 1 1:=FA.mk' kR ti3 rfl
instance fv93_1 : FV ac7 93 1 false 1 1:=FV.mk' kR ti3 rfl
instance : BT ac7 93 [(0,1),(1,1)] [aI,(.int .i64 0)]:=BT.mk' [(22,0,1),(3,1,1)] rfl kR kR rfl
instance fa109_0 : FA ac7 109 0 0:=FA.mk' kR ti5 rfl
instance fv109_0 : FV ac7 109 0 false 0 1:=FV.mk' kR ti5 rfl
instance fa109_1 : FA ac7 109 1 1:=FA.mk' kR ti9 rfl
instance fv109_1 : FV ac7 109 1 false 1 1:=FV.mk' kR ti9 rfl
instance fa109_2 : FA ac7 109 2 2:=FA.mk' kR ti108 rfl
instance fv109_2 : FV ac7 109 2 false 2 1:=FV.mk' kR ti108 rfl
instance fa110_0 : FA ac7 110 0 0:=FA.mk' kR ti5 rfl
instance fv110_0 : FV ac7 110 0 false 0 1:=FV.mk' kR ti5 rfl
instance fa110_1 : FA ac7 110 1 1:=FA.mk' kR ti9 rfl
instance fv110_1 : FV ac7 110 1 false 1 1:=FV.mk' kR ti9 rfl
instance fa110_2 : FA ac7 110 2 2:=FA.mk' kR ti108 rfl
instance fv110_2 : FV ac7 110 2 false 2 1:=FV.mk' kR ti108 rfl
instance : BT ac7 110 [(0,1),(1,1),(2,1)] [(.int .u8 0),(S []),aI]:=BT.mk' [(5,0,1),(9,1,1),(108,2,1)] rfl kR kR rfl
instance fa111_0 : FA ac7 111 0 0:=FA.mk' kR ti3 rfl
instance fv111_0 : FV ac7 111 0 false 0 1:=FV.mk' kR ti3 rfl
instance fa111_1 : FA ac7 111 1 1:=FA.mk' kR ti9 rfl
instance fv111_1 : FV ac7 111 1 false 1 1:=FV.mk' kR ti9 rfl
instance fa111_2 : FA ac7 111 2 2:=FA.mk' kR ti9 rfl
instance fv111_2 : FV ac7 111 2 false 2 1:=FV.mk' kR ti9 rfl
instance fa111_3 : FA ac7 111 3 3:=FA.mk' kR ti9 rfl
instance fv111_3 : FV ac7 111 3 false 3 1:=FV.mk' kR ti9 rfl
instance fa112_0 : FA ac7 112 0 0:=FA.mk' kR ti3 rfl
instance fv112_0 : FV ac7 112 0 false 0 1:=FV.mk' kR ti3 rfl
instance fa112_1 : FA ac7 112 1 1:=FA.mk' kR ti9 rfl
instance fv112_1 : FV ac7 112 1 false 1 1:=FV.mk' kR ti9 rfl
instance fa112_2 : FA ac7 112 2 2:=FA.mk' kR ti9 rfl
instance fv112_2 : FV ac7 112 2 false 2 1:=FV.mk' kR ti9 rfl
instance fa112_3 : FA ac7 112 3 3:=FA.mk' kR ti9 rfl
instance fv112_3 : FV ac7 112 3 false 3 1:=FV.mk' kR ti9 rfl
instance : BT ac7 112 [(0,1),(1,1),(2,1),(3,1)] [(.int .i64 0),(S []),(S []),(S [])]:=BT.mk' [(3,0,1),(9,1,1),(9,2,1),(9,3,1)] rfl kR kR rfl
instance fa128_0 : FA ac7 128 0 0:=FA.mk' kR ti126 rfl
instance fv128_0 : FV ac7 128 0 false 0 1:=FV.mk' kR ti126 rfl
instance fa128_1 : FA ac7 128 1 1:=FA.mk' kR ti127 rfl
instance fv128_1 : FV ac7 128 1 false 1 1:=FV.mk' kR ti127 rfl
instance fa129_0 : FA ac7 129 0 0:=FA.mk' kR ti126 rfl
instance fv129_0 : FV ac7 129 0 false 0 1:=FV.mk' kR ti126 rfl
instance fa129_1 : FA ac7 129 1 1:=FA.mk' kR ti127 rfl
instance fv129_1 : FV ac7 129 1 false 1 1:=FV.mk' kR ti127 rfl
instance : BT ac7 129 [(0,1),(1,1)] [aI,(.map none)]:=BT.mk' [(126,0,1),(127,1,1)] rfl kR kR rfl
instance fa131_0 : FA ac7 131 0 0:=FA.mk' kR ti5 rfl
instance fv131_0 : FV ac7 131 0 false 0 1:=FV.mk' kR ti5 rfl
instance fa131_1 : FA ac7 131 1 1:=FA.mk' kR ti9 rfl
instance fv131_1 : FV ac7 131 1 false 1 1:=FV.mk' kR ti9 rfl
instance fa131_2 : FA ac7 131 2 2:=FA.mk' kR ti130 rfl
instance fv131_2 : FV ac7 131 2 false 2 1:=FV.mk' kR ti130 rfl
instance fa131_3 : FA ac7 131 3 3:=FA.mk' kR ti9 rfl
instance fv131_3 : FV ac7 131 3 false 3 1:=FV.mk' kR ti9 rfl
instance fa132_0 : FA ac7 132 0 0:=FA.mk' kR ti5 rfl
instance fv132_0 : FV ac7 132 0 false 0 1:=FV.mk' kR ti5 rfl
instance fa132_1 : FA ac7 132 1 1:=FA.mk' kR ti9 rfl
instance fv132_1 : FV ac7 132 1 false 1 1:=FV.mk' kR ti9 rfl
instance fa132_2 : FA ac7 132 2 2:=FA.mk' kR ti130 rfl
instance fv132_2 : FV ac7 132 2 false 2 1:=FV.mk' kR ti130 rfl
instance fa132_3 : FA ac7 132 3 3:=FA.mk' kR ti9 rfl
instance fv132_3 : FV ac7 132 3 false 3 1:=FV.mk' kR ti9 rfl
instance : BT ac7 132 [(0,1),(1,1),(2,1),(3,1)] [(.int .u8 0),(S []),aI,(S [])]:=BT.mk' [(5,0,1),(9,1,1),(130,2,1),(9,3,1)] rfl kR kR rfl
instance fa133_0 : FA ac7 133 0 0:=FA.mk' kR ti3 rfl
instance fv133_0 : FV ac7 133 0 false 0 1:=FV.mk' kR ti3 rfl
instance fa133_1 : FA ac7 133 1 1:=FA.mk' kR ti9 rfl
instance fv133_1 : FV ac7 133 1 false 1 1:=FV.mk' kR ti9 rfl
instance fa133_2 : FA ac7 133 2 2:=FA.mk' kR ti77 rfl
instance fv133_2 : FV ac7 133 2 true 2 3:=FV.mk' kR ti77 rfl
instance fa133_3 : FA ac7 133 3 5:=FA.mk' kR ti9 rfl
instance fv133_3 : FV ac7 133 3 false 5 1:=FV.mk' kR ti9 rfl
instance fa134_0 : FA ac7 134 0 0:=FA.mk' kR ti3 rfl
instance fv134_0 : FV ac7 134 0 false 0 1:=FV.mk' kR ti3 rfl
instance fa134_1 : FA ac7 134 1 1:=FA.mk' kR ti9 rfl
instance fv134_1 : FV ac7 134 1 false 1 1:=FV.mk' kR ti9 rfl
instance fa134_2 : FA ac7 134 2 2:=FA.mk' kR ti77 rfl
instance fv134_2 : FV ac7 134 2 true 2 3:=FV.mk' kR ti77 rfl
instance fa134_3 : FA ac7 134 3 5:=FA.mk' kR ti9 rfl
instance fv134_3 : FV ac7 134 3 false 5 1:=FV.mk' kR ti9 rfl
instance : BT ac7 134 [(0,1),(1,1),(2,3),(5,1)] [(.int .i64 0),(S []),(S []),(S []),(S []),(S [])]:=BT.mk' [(3,0,1),(9,1,1),(77,2,3),(9,5,1)] rfl kR kR rfl
instance fa137_0 : FA ac7 137 0 0:=FA.mk' kR ti63 rfl
instance fv137_0 : FV ac7 137 0 false 0 1:=FV.mk' kR ti63 rfl
instance fa137_1 : FA ac7 137 1 1:=FA.mk' kR ti63 rfl
instance fv137_1 : FV ac7 137 1 false 1 1:=FV.mk' kR ti63 rfl
instance fa137_2 : FA ac7 137 2 2:=FA.mk' kR ti136 rfl
instance fv137_2 : FV ac7 137 2 false 2 1:=FV.mk' kR ti136 rfl
instance fa138_0 : FA ac7 138 0 0:=FA.mk' kR ti63 rfl
instance fv138_0 : FV ac7 138 0 false 0 1:=FV.mk' kR ti63 rfl
instance fa138_1 : FA ac7 138 1 1:=FA.mk' kR ti63 rfl
instance fv138_1 : FV ac7 138 1 false 1 1:=FV.mk' kR ti63 rfl
instance fa138_2 : FA ac7 138 2 2:=FA.mk' kR ti136 rfl
instance fv138_2 : FV ac7 138 2 false 2 1:=FV.mk' kR ti136 rfl
instance fa146_0 : FA ac7 146 0 0:=FA.mk' kR ti9 rfl
instance fv146_0 : FV ac7 146 0 false 0 1:=FV.mk' kR ti9 rfl
instance fa146_1 : FA ac7 146 1 1:=FA.mk' kR ti9 rfl
instance fv146_1 : FV ac7 146 1 false 1 1:=FV.mk' kR ti9 rfl
instance fa146_2 : FA ac7 146 2 2:=FA.mk' kR ti53 rfl
instance fv146_2 : FV ac7 146 2 false 2 1:=FV.mk' kR ti53 rfl
instance fa146_3 : FA ac7 146 3 3:=FA.mk' kR ti145 rfl
instance fv146_3 : FV ac7 146 3 false 3 1:=FV.mk' kR ti145 rfl
instance fa147_0 : FA ac7 147 0 0:=FA.mk' kR ti9 rfl
instance fv147_0 : FV ac7 147 0 false 0 1:=FV.mk' kR ti9 rfl
instance fa147_1 : FA ac7 147 1 1:=FA.mk' kR ti9 rfl
instance fv147_1 : FV ac7 147 1 false 1 1:=FV.mk' kR ti9 rfl
instance fa147_2 : FA ac7 147 2 2:=FA.mk' kR ti53 rfl
instance fv147_2 : FV ac7 147 2 false 2 1:=FV.mk' kR ti53 rfl
instance fa147_3 : FA ac7 147 3 3:=FA.mk' kR ti145 rfl
instance fv147_3 : FV ac7 147 3 false 3 1:=FV.mk' kR ti145 rfl
instance : BT ac7 147 [(0,1),(1,1),(2,1),(3,1)] [(S []),(S []),aI,aI]:=BT.mk' [(9,0,1),(9,1,1),(53,2,1),(145,3,1)] rfl kR kR rfl
instance fa160_0 : FA ac7 160 0 0:=FA.mk' kR ti97 rfl
instance fv160_0 : FV ac7 160 0 false 0 1:=FV.mk' kR ti97 rfl
instance fa160_1 : FA ac7 160 1 1:=FA.mk' kR ti97 rfl
instance fv160_1 : FV ac7 160 1 false 1 1:=FV.mk' kR ti97 rfl
instance fa160_2 : FA ac7 160 2 2:=FA.mk' kR ti159 rfl
instance fv160_2 : FV ac7 160 2 false 2 1:=FV.mk' kR ti159 rfl
instance fa161_0 : FA ac7 161 0 0:=FA.mk' kR ti97 rfl
instance fv161_0 : FV ac7 161 0 false 0 1:=FV.mk' kR ti97 rfl
instance fa161_1 : FA ac7 161 1 1:=FA.mk' kR ti97 rfl
instance fv161_1 : FV ac7 161 1 false 1 1:=FV.mk' kR ti97 rfl
instance fa161_2 : FA ac7 161 2 2:=FA.mk' kR ti159 rfl
instance fv161_2 : FV ac7 161 2 false 2 1:=FV.mk' kR ti159 rfl
instance fa169_0 : FA ac7 169 0 0:=FA.mk' kR ti63 rfl
instance fv169_0 : FV ac7 169 0 false 0 1:=FV.mk' kR ti63 rfl
instance fa169_1 : FA ac7 169 1 1:=FA.mk' kR ti9 rfl
instance fv169_1 : FV ac7 169 1 false 1 1:=FV.mk' kR ti9 rfl
instance fa169_2 : FA ac7 169 2 2:=FA.mk' kR ti4 rfl
instance fv169_2 : FV ac7 169 2 false 2 1:=FV.mk' kR ti4 rfl
instance fa170_0 : FA ac7 170 0 0:=FA.mk' kR ti63 rfl
instance fv170_0 : FV ac7 170 0 false 0 1:=FV.mk' kR ti63 rfl
instance fa170_1 : FA ac7 170 1 1:=FA.mk' kR ti9 rfl
instance fv170_1 : FV ac7 170 1 false 1 1:=FV.mk' kR ti9 rfl
instance fa170_2 : FA ac7 170 2 2:=FA.mk' kR ti4 rfl
instance fv170_2 : FV ac7 170 2 false 2 1:=FV.mk' kR ti4 rfl
instance : BT ac7 170 [(0,1),(1,1),(2,1)] [(.pointer none),(S []),(.bool false)]:=BT.mk' [(63,0,1),(9,1,1),(4,2,1)] rfl kR kR rfl
instance fa177_0 : FA ac7 177 0 0:=FA.mk' kR ti176 rfl
instance fv177_0 : FV ac7 177 0 false 0 1:=FV.mk' kR ti176 rfl
instance fa177_1 : FA ac7 177 1 1:=FA.mk' kR ti22 rfl
instance fv177_1 : FV ac7 177 1 false 1 1:=FV.mk' kR ti22 rfl
instance fa178_0 : FA ac7 178 0 0:=FA.mk' kR ti176 rfl
instance fv178_0 : FV ac7 178 0 false 0 1:=FV.mk' kR ti176 rfl
instance fa178_1 : FA ac7 178 1 1:=FA.mk' kR ti22 rfl
instance fv178_1 : FV ac7 178 1 false 1 1:=FV.mk' kR ti22 rfl
instance : BT ac7 178 [(0,1),(1,1)] [(.pointer none),aI]:=BT.mk' [(176,0,1),(22,1,1)] rfl kR kR rfl
instance fa198_0 : FA ac7 198 0 0:=FA.mk' kR ti97 rfl
instance fv198_0 : FV ac7 198 0 false 0 1:=FV.mk' kR ti97 rfl
instance fa199_0 : FA ac7 199 0 0:=FA.mk' kR ti97 rfl
instance fv199_0 : FV ac7 199 0 false 0 1:=FV.mk' kR ti97 rfl
instance : BT ac7 199 [(0,1)] [aI]:=BT.mk' [(97,0,1)] rfl kR kR rfl
instance fa210_0 : FA ac7 210 0 0:=FA.mk' kR ti9 rfl
instance fv210_0 : FV ac7 210 0 false 0 1:=FV.mk' kR ti9 rfl
instance fa210_1 : FA ac7 210 1 1:=FA.mk' kR ti9 rfl
instance fv210_1 : FV ac7 210 1 false 1 1:=FV.mk' kR ti9 rfl
instance fa211_0 : FA ac7 211 0 0:=FA.mk' kR ti9 rfl
instance fv211_0 : FV ac7 211 0 false 0 1:=FV.mk' kR ti9 rfl
instance fa211_1 : FA ac7 211 1 1:=FA.mk' kR ti9 rfl
instance fv211_1 : FV ac7 211 1 false 1 1:=FV.mk' kR ti9 rfl
instance fa224_0 : FA ac7 224 0 0:=FA.mk' kR ti9 rfl
instance fv224_0 : FV ac7 224 0 false 0 1:=FV.mk' kR ti9 rfl
instance fa224_1 : FA ac7 224 1 1:=FA.mk' kR ti9 rfl
instance fv224_1 : FV ac7 224 1 false 1 1:=FV.mk' kR ti9 rfl
instance fa225_0 : FA ac7 225 0 0:=FA.mk' kR ti9 rfl
instance fv225_0 : FV ac7 225 0 false 0 1:=FV.mk' kR ti9 rfl
instance fa225_1 : FA ac7 225 1 1:=FA.mk' kR ti9 rfl
instance fv225_1 : FV ac7 225 1 false 1 1:=FV.mk' kR ti9 rfl
instance fa245_0 : FA ac7 245 0 0:=FA.mk' kR ti5 rfl
instance fv245_0 : FV ac7 245 0 false 0 1:=FV.mk' kR ti5 rfl
instance fa245_1 : FA ac7 245 1 1:=FA.mk' kR ti5 rfl
instance fv245_1 : FV ac7 245 1 false 1 1:=FV.mk' kR ti5 rfl
instance fa246_0 : FA ac7 246 0 0:=FA.mk' kR ti5 rfl
instance fv246_0 : FV ac7 246 0 false 0 1:=FV.mk' kR ti5 rfl
instance fa246_1 : FA ac7 246 1 1:=FA.mk' kR ti5 rfl
instance fv246_1 : FV ac7 246 1 false 1 1:=FV.mk' kR ti5 rfl
instance fa252_0 : FA ac7 252 0 0:=FA.mk' kR ti17 rfl
instance fv252_0 : FV ac7 252 0 false 0 1:=FV.mk' kR ti17 rfl
instance fa252_1 : FA ac7 252 1 1:=FA.mk' kR ti17 rfl
instance fv252_1 : FV ac7 252 1 false 1 1:=FV.mk' kR ti17 rfl
instance fa252_2 : FA ac7 252 2 2:=FA.mk' kR ti17 rfl
instance fv252_2 : FV ac7 252 2 false 2 1:=FV.mk' kR ti17 rfl
instance fa252_3 : FA ac7 252 3 3:=FA.mk' kR ti9 rfl
instance fv252_3 : FV ac7 252 3 false 3 1:=FV.mk' kR ti9 rfl
instance fa253_0 : FA ac7 253 0 0:=FA.mk' kR ti17 rfl
instance fv253_0 : FV ac7 253 0 false 0 1:=FV.mk' kR ti17 rfl
instance fa253_1 : FA ac7 253 1 1:=FA.mk' kR ti17 rfl
instance fv253_1 : FV ac7 253 1 false 1 1:=FV.mk' kR ti17 rfl
instance fa253_2 : FA ac7 253 2 2:=FA.mk' kR ti17 rfl
instance fv253_2 : FV ac7 253 2 false 2 1:=FV.mk' kR ti17 rfl
instance fa253_3 : FA ac7 253 3 3:=FA.mk' kR ti9 rfl
instance fv253_3 : FV ac7 253 3 false 3 1:=FV.mk' kR ti9 rfl
def tb : Tbl:=⟨12,694752535423897172541425910052127447119619907993843384236745504047478777839712,16,3584,210624683770850267685239975636753813250239785586282791195434516480,[(7,[(false,0,1),(false,1,1),(false,2,1),(false,3,1)]),(8,[(false,0,1),(false,1,1),(false,2,1),(false,3,1)]),(13,[(false,0,1),(false,1,1)]),(14,[(false,0,1),(false,1,1)]),(18,[(false,0,1)]),(19,[(false,0,1)]),(24,[(false,0,1),(false,1,1)]),(25,[(false,0,1),(false,1,1)]),(41,[(false,0,1),(false,1,1),(false,2,1)]),(42,[(false,0,1),(false,1,1),(false,2,1)]),(64,[(false,0,1),(false,1,1),(false,2,1),(false,3,1),(false,4,1)]),(65,[(false,0,1),(false,1,1),(false,2,1),(false,3,1),(false,4,1)]),(76,[(false,0,1),(false,1,1),(false,2,1)]),(77,[(false,0,1),(false,1,1),(false,2,1)]),(82,[(false,0,1),(false,1,1),(false,2,1),(false,3,1)]),(83,[(false,0,1),(false,1,1),(false,2,1),(false,3,1)]),(92,[(false,0,1),(false,1,1)]),(93,[(false,0,1),(false,1,1)]),(109,[(false,0,1),(false,1,1),(false,2,1)]),(110,[(false,0,1),(false,1,1),(false,2,1)]),(111,[(false,0,1),(false,1,1),(false,2,1),(false,3,1)]),(112,[(false,0,1),(false,1,1),(false,2,1),(false,3,1)]),(128,[(false,0,1),(false,1,1)]),(129,[(false,0,1),(false,1,1)]),(131,[(false,0,1),(false,1,1),(false,2,1),(false,3,1)]),(132,[(false,0,1),(false,1,1),(false,2,1),(false,3,1)]),(133,[(false,0,1),(false,1,1),(true,2,3),(false,5,1)]),(134,[(false,0,1),(false,1,1),(true,2,3),(false,5,1)]),(137,[(false,0,1),(false,1,1),(false,2,1)]),(138,[(false,0,1),(false,1,1),(false,2,1)]),(146,[(false,0,1),(false,1,1),(false,2,1),(false,3,1)]),(147,[(false,0,1),(false,1,1),(false,2,1),(false,3,1)]),(160,[(false,0,1),(false,1,1),(false,2,1)]),(161,[(false,0,1),(false,1,1),(false,2,1)]),(169,[(false,0,1),(false,1,1),(false,2,1)]),(170,[(false,0,1),(false,1,1),(false,2,1)]),(177,[(false,0,1),(false,1,1)]),(178,[(false,0,1),(false,1,1)]),(198,[(false,0,1)]),(199,[(false,0,1)]),(210,[(false,0,1),(false,1,1)]),(211,[(false,0,1),(false,1,1)]),(224,[(false,0,1),(false,1,1)]),(225,[(false,0,1),(false,1,1)]),(245,[(false,0,1),(false,1,1)]),(246,[(false,0,1),(false,1,1)]),(252,[(false,0,1),(false,1,1),(false,2,1),(false,3,1)]),(253,[(false,0,1),(false,1,1),(false,2,1),(false,3,1)])]⟩
theorem acI : uN ac7 tb.fl:=⟨⟨⟨fv7_0,fa7_0⟩,⟨fv7_1,fa7_1⟩,⟨fv7_2,fa7_2⟩,⟨fv7_3,fa7_3⟩,trivial⟩,⟨⟨fv8_0,fa8_0⟩,⟨fv8_1,fa8_1⟩,⟨fv8_2,fa8_2⟩,⟨fv8_3,fa8_3⟩,trivial⟩,⟨⟨fv13_0,fa13_0⟩,⟨fv13_1,fa13_1⟩,trivial⟩,⟨⟨fv14_0,fa14_0⟩,⟨fv14_1,fa14_1⟩,trivial⟩,⟨⟨fv18_0,fa18_0⟩,trivial⟩,⟨⟨fv19_0,fa19_0⟩,trivial⟩,⟨⟨fv24_0,fa24_0⟩,⟨fv24_1,fa24_1⟩,trivial⟩,⟨⟨fv25_0,fa25_0⟩,⟨fv25_1,fa25_1⟩,trivial⟩,⟨⟨fv41_0,fa41_0⟩,⟨fv41_1,fa41_1⟩,⟨fv41_2,fa41_2⟩,trivial⟩,⟨⟨fv42_0,fa42_0⟩,⟨fv42_1,fa42_1⟩,⟨fv42_2,fa42_2⟩,trivial⟩,⟨⟨fv64_0,fa64_0⟩,⟨fv64_1,fa64_1⟩,⟨fv64_2,fa64_2⟩,⟨fv64_3,fa64_3⟩,⟨fv64_4,fa64_4⟩,trivial⟩,⟨⟨fv65_0,fa65_0⟩,⟨fv65_1,fa65_1⟩,⟨fv65_2,fa65_2⟩,⟨fv65_3,fa65_3⟩,⟨fv65_4,fa65_4⟩,trivial⟩,⟨⟨fv76_0,fa76_0⟩,⟨fv76_1,fa76_1⟩,⟨fv76_2,fa76_2⟩,trivial⟩,⟨⟨fv77_0,fa77_0⟩,⟨fv77_1,fa77_1⟩,⟨fv77_2,fa77_2⟩,trivial⟩,⟨⟨fv82_0,fa82_0⟩,⟨fv82_1,fa82_1⟩,⟨fv82_2,fa82_2⟩,⟨fv82_3,fa82_3⟩,trivial⟩,⟨⟨fv83_0,fa83_0⟩,⟨fv83_1,fa83_1⟩,⟨fv83_2,fa83_2⟩,⟨fv83_3,fa83_3⟩,trivial⟩,⟨⟨fv92_0,fa92_0⟩,⟨fv92_1,fa92_1⟩,trivial⟩,⟨⟨fv93_0,fa93_0⟩,⟨fv93_1,fa93_1⟩,trivial⟩,⟨⟨fv109_0,fa109_0⟩,⟨fv109_1,fa109_1⟩,⟨fv109_2,fa109_2⟩,trivial⟩,⟨⟨fv110_0,fa110_0⟩,⟨fv110_1,fa110_1⟩,⟨fv110_2,fa110_2⟩,trivial⟩,⟨⟨fv111_0,fa111_0⟩,⟨fv111_1,fa111_1⟩,⟨fv111_2,fa111_2⟩,⟨fv111_3,fa111_3⟩,trivial⟩,⟨⟨fv112_0,fa112_0⟩,⟨fv112_1,fa112_1⟩,⟨fv112_2,fa112_2⟩,⟨fv112_3,fa112_3⟩,trivial⟩,⟨⟨fv128_0,fa128_0⟩,⟨fv128_1,fa128_1⟩,trivial⟩,⟨⟨fv129_0,fa129_0⟩,⟨fv129_1,fa129_1⟩,trivial⟩,⟨⟨fv131_0,fa131_0⟩,⟨fv131_1,fa131_1⟩,⟨fv131_2,fa131_2⟩,⟨fv131_3,fa131_3⟩,trivial⟩,⟨⟨fv132_0,fa132_0⟩,⟨fv132_1,fa132_1⟩,⟨fv132_2,fa132_2⟩,⟨fv132_3,fa132_3⟩,trivial⟩,⟨⟨fv133_0,fa133_0⟩,⟨fv133_1,fa133_1⟩,⟨fv133_2,fa133_2⟩,⟨fv133_3,fa133_3⟩,trivial⟩,⟨⟨fv134_0,fa134_0⟩,⟨fv134_1,fa134_1⟩,⟨fv134_2,fa134_2⟩,⟨fv134_3,fa134_3⟩,trivial⟩,⟨⟨fv137_0,fa137_0⟩,⟨fv137_1,fa137_1⟩,⟨fv137_2,fa137_2⟩,trivial⟩,⟨⟨fv138_0,fa138_0⟩,⟨fv138_1,fa138_1⟩,⟨fv138_2,fa138_2⟩,trivial⟩,⟨⟨fv146_0,fa146_0⟩,⟨fv146_1,fa146_1⟩,⟨fv146_2,fa146_2⟩,⟨fv146_3,fa146_3⟩,trivial⟩,⟨⟨fv147_0,fa147_0⟩,⟨fv147_1,fa147_1⟩,⟨fv147_2,fa147_2⟩,⟨fv147_3,fa147_3⟩,trivial⟩,⟨⟨fv160_0,fa160_0⟩,⟨fv160_1,fa160_1⟩,⟨fv160_2,fa160_2⟩,trivial⟩,⟨⟨fv161_0,fa161_0⟩,⟨fv161_1,fa161_1⟩,⟨fv161_2,fa161_2⟩,trivial⟩,⟨⟨fv169_0,fa169_0⟩,⟨fv169_1,fa169_1⟩,⟨fv169_2,fa169_2⟩,trivial⟩,⟨⟨fv170_0,fa170_0⟩,⟨fv170_1,fa170_1⟩,⟨fv170_2,fa170_2⟩,trivial⟩,⟨⟨fv177_0,fa177_0⟩,⟨fv177_1,fa177_1⟩,trivial⟩,⟨⟨fv178_0,fa178_0⟩,⟨fv178_1,fa178_1⟩,trivial⟩,⟨⟨fv198_0,fa198_0⟩,trivial⟩,⟨⟨fv199_0,fa199_0⟩,trivial⟩,⟨⟨fv210_0,fa210_0⟩,⟨fv210_1,fa210_1⟩,trivial⟩,⟨⟨fv211_0,fa211_0⟩,⟨fv211_1,fa211_1⟩,trivial⟩,⟨⟨fv224_0,fa224_0⟩,⟨fv224_1,fa224_1⟩,trivial⟩,⟨⟨fv225_0,fa225_0⟩,⟨fv225_1,fa225_1⟩,trivial⟩,⟨⟨fv245_0,fa245_0⟩,⟨fv245_1,fa245_1⟩,trivial⟩,⟨⟨fv246_0,fa246_0⟩,⟨fv246_1,fa246_1⟩,trivial⟩,⟨⟨fv252_0,fa252_0⟩,⟨fv252_1,fa252_1⟩,⟨fv252_2,fa252_2⟩,⟨fv252_3,fa252_3⟩,trivial⟩,⟨⟨fv253_0,fa253_0⟩,⟨fv253_1,fa253_1⟩,⟨fv253_2,fa253_2⟩,⟨fv253_3,fa253_3⟩,trivial⟩,trivial⟩
instance : Tab ac7 tb:=Tab.mk' 264 kR kR kR kR kR acI
theorem ai : ac7.follows .mixedOrders = true:=by kernel_rfl
section
variable {n : Nat} {D : List Deferred} {E : bo} {B : Base} {G : Gh} {L : List Own} {k : List Fr} {Q : Exit → Act → World → Prop} {K : Act → World → Prop}
theorem jT [PQ Q] {ops : List Oper} {G0 : Gh} {L0 : List Own} (fuel : Nat) (is : List Nat) {E' : bo} {p' : List Prop} {fuel' : Nat} {listed : Array Bool} (listed' : Array Bool) (hn : Nx n D E' B G L (xA ac7 ops.toArray Q (b8 B G0 L0) fuel listed'))
    (hf : Nat.beq (fuel + is.length) fuel' = true:=by exact F) (h : ig tb n ops is E [] = some (E',p'):=by exact F) (hsel : Region.noSelect ops.toArray = true:=by kernel_rfl) (hb : l4 ops.toArray is listed listed' = true:=by kernel_rfl)
    (hG : Gh.le G0 G:=by first | exact Gh.le.refl _ | assumption) (hL : L0.Sublist L:=by repeat (first | exact List.Sublist.refl _ | exact List.nil_sublist _ | apply List.Sublist.cons_cons | apply List.Sublist.cons)) (hp : ic p':=by exact trivial) : Nx n D E B G L (xA ac7 ops.toArray Q (b8 B G0 L0) fuel' listed):=uk is listed' hsel hb hf h hG hL hp hn
theorem jU [PQ Q] {ops : List Oper} {G0 : Gh} {L0 : List Own} (fuel : Nat) (is : List Nat) {E' : bo} {p' : List Prop} {fuel' : Nat} {listed : Array Bool} (listed' : Array Bool) (hp : ic p') (hn : Nx n D E' B G L (xA ac7 ops.toArray Q (b8 B G0 L0) fuel listed'))
    (hf : Nat.beq (fuel + is.length) fuel' = true:=by exact F) (h : ig tb n ops is E [] = some (E',p'):=by exact F) (hsel : Region.noSelect ops.toArray = true:=by kernel_rfl) (hb : l4 ops.toArray is listed listed' = true:=by kernel_rfl)
    (hG : Gh.le G0 G:=by first | exact Gh.le.refl _ | assumption) (hL : L0.Sublist L:=by repeat (first | exact List.Sublist.refl _ | exact List.nil_sublist _ | apply List.Sublist.cons_cons | apply List.Sublist.cons)) : Nx n D E B G L (xA ac7 ops.toArray Q (b8 B G0 L0) fuel' listed):=uk is listed' hsel hb hf h hG hL hp hn
theorem jN {ops : List Oper} {G0 : Gh} {L0 : List Own} {fuel : Nat} {listed : Array Bool} (listed' : Array Bool) [PQ Q] (i : Nat) {o : Oper} {d : Nat} (hi : ops.toArray[i]? = some o)
    (k : Nx n D ((d,undef) :: E) B G L (xA ac7 ops.toArray Q (b8 B G0 L0) fuel listed')) (hb : nk ops.toArray listed i listed' = true:=by kernel_rfl) (hgu : rO E ops o = some false:=by exact F) (hG : Gh.le G0 G:=by first | exact Gh.le.refl _ | assumption) (hL : L0.Sublist L:=by repeat (first | exact List.Sublist.refl _ | exact List.nil_sublist _ | apply List.Sublist.cons_cons | apply List.Sublist.cons)) (hd : o.dst = some d:=by exact F) (hlt : Nat.blt d n = true:=by exact F) :
    Nx n D E B G L (xA ac7 ops.toArray Q (b8 B G0 L0) (fuel + 1) listed):=xD listed' i hi hb hgu hG hL hd hlt k
theorem jG {ops : List Oper} {G0 : Gh} {L0 : List Own} {fuel : Nat} {listed : Array Bool} (listed' : Array Bool) [PQ Q] (i : Nat) {o : Oper} {d : Nat} {v : Value} (hi : ops.toArray[i]? = some o) (hg : Gives ac7 n D E (b8 B G0 L0) o v)
    (k : Nx n D ((d,v) :: E) B G L (xA ac7 ops.toArray Q (b8 B G0 L0) fuel listed')) (hb : nk ops.toArray listed i listed' = true:=by kernel_rfl) (hgu : rO E ops o = some true:=by exact F) (hG : Gh.le G0 G:=by first | exact Gh.le.refl _ | assumption) (hL : L0.Sublist L:=by repeat (first | exact List.Sublist.refl _ | exact List.nil_sublist _ | apply List.Sublist.cons_cons | apply List.Sublist.cons)) (hd : o.dst = some d:=by exact F) (hlt : Nat.blt d n = true:=by exact F) :
    Nx n D E B G L (xA ac7 ops.toArray Q (b8 B G0 L0) (fuel + 1) listed):=ul listed' i hi hb hgu hG hL hg hd hlt k
theorem jV {o : Oper} {d : Nat} {v : Value} (hg : Gives ac7 n D E (St B G L) o v) (k : Nx n D ((d,v) :: E) B G L K) (hd : o.dst = some d:=by exact F) (hlt : Nat.blt d n = true:=by exact F) : Nx n D E B G L (ow ac7 o Q K):=kx hg hd hlt k
theorem jR {E' : bo} {c c' : Cu} {k k' : List Fr} {p' : List Prop} (hn : Nx n D E' B G L (cu ac7 c' k' Q)) (h : rp tb n 400 E c k = some ⟨E',c',k',p'⟩:=by exact F) (hp : ic p':=by exact trivial) : Nx n D E B G L (cu ac7 c k Q):=run 400 h hp hn
theorem jM {E' : bo} {c c' : Cu} {k k' : List Fr} {p' : List Prop} (hn : Nx n D E' B G L (cu ac7 c' k' Q)) (h : rp tb n 400 E c k = some ⟨E',c',k',p'⟩:=by exact F) (hp : ic p':=by (repeat' (first | exact trivial | apply And.intro | omega));done) : Nx n D E B G L (cu ac7 c k Q):=run 400 h hp hn
theorem jE {f : FuncId} {fn : Func} {c : Code} {args : List Value} {R : Value → Prop} (E0 : bo) (hf : ac7.funcs[f]? = some fn) (hn : fn.ntmps = n)
    (h : ∀ B,B.W = [] → Nx n [] E0 B G [] (cu ac7 (.code c) [] (bp ac7 fn (dB B (fun v G' L'=>G' = G ∧ L' = [] ∧ R v))))) (hb : fn.body = some c:=by exact F) (hok : dQ ac7 f = true:=by kernel_rfl) (hlen : Nat.ble args.length n = true:=by exact F) (hE : gw E0 (params 0 args):=by repeat' constructor) : an ac7 f args G R:=yy E0 hf hok hn hb hlen hE h
theorem jB {f : FuncId} {fn : Func} {c : Code} {args : List Value} {Post : Value → Gh → List Own → Prop} (E0 : bo) (hf : ac7.funcs[f]? = some fn) (hn : fn.ntmps = n)
    (h : ∀ B,BOk B → B.G = G → B.W = cl L → Nx n [] E0 B G L (cu ac7 (.code c) [] (bp ac7 fn (dB B Post)))) (hb : fn.body = some c:=by exact F) (hok : dQ ac7 f = true:=by kernel_rfl) (hlen : Nat.ble args.length n = true:=by exact F) (hE : gw E0 (params 0 args):=by repeat' constructor) : Fn ac7 f args G L Post:=zC E0 hf hok hn hb hlen hE h
theorem jH {f : FuncId} {fn : Func} {c : Code} {args : List Value} {R : Value → List Own → Prop} (E0 : bo) (hf : ac7.funcs[f]? = some fn) (hn : fn.ntmps = n)
    (h : ∀ B,B.G = G → B.W = cl L → Nx n [] E0 B G L (cu ac7 (.code c) [] (bp ac7 fn (dB B (fun v G' L'=>G' = G ∧ R v L'))))) (hb : fn.body = some c:=by exact F) (hok : dQ ac7 f = true:=by kernel_rfl) (hlen : Nat.ble args.length n = true:=by exact F) (hE : gw E0 (params 0 args):=by repeat' constructor) : bM ac7 f args G L R:=yJ E0 hf hok hn hb hlen hE h
theorem jK {ops : Array Oper} {G0 : Gh} {L0 : List Own} {fuel : Nat} {listed : Array Bool} (listed' : Array Bool) (h : Nx n D E B G L (xA ac7 ops Q (b8 B G0 L0) fuel listed')) (hG : Gh.le G0 G:=by first | exact Gh.le.refl _ | assumption) (hL : L0.Sublist L:=by repeat (first | exact List.Sublist.refl _ | exact List.nil_sublist _ | apply List.Sublist.cons_cons | apply List.Sublist.cons)) (hl : (listed == listed') = true:=by kernel_rfl) : Nx n D E B G L (xK ac7 ops Q (b8 B G0 L0) fuel listed):=acH hG hL hl h
theorem jS {ops : Array Oper} {G0 : Gh} {L0 : List Own} {fuel : Nat} {listed : Array Bool} (listed' : Array Bool) (h : Nx n D E B G L (xA ac7 ops Q (b8 B G L) fuel listed')) (hG : Gh.le G0 G:=by first | exact Gh.le.refl _ | assumption) (hL : L0.Sublist L:=by repeat (first | exact List.Sublist.refl _ | exact List.nil_sublist _ | apply List.Sublist.cons_cons | apply List.Sublist.cons)) (hl : (listed == listed') = true:=by kernel_rfl) : Nx n D E B G L (xK ac7 ops Q (b8 B G0 L0) fuel listed):=acG hG hL hl h
theorem jA {ops : List Oper} {S : World → Prop} {fuel : Nat} {listed : Array Bool} (i : Nat) {o : Oper} (hi : ops.toArray[i]? = some o) (h : Nx n D E B G L (ow ac7 o Q (xK ac7 ops.toArray Q S fuel (listed.setIfInBounds i true)))) (hr : Region.ready .any ops.toArray listed = [i]:=by kernel_rfl) (hgu : rO E ops o = some true:=by exact F) : Nx n D E B G L (xA ac7 ops.toArray Q S (fuel + 1) listed) :=
  bA [i] hr (by simp) ⟨aM hi hgu h,trivial⟩
theorem jZ {fn : Func} {rs : List ResultVar} {vs : List Value} {v : Value} {L' : List Own} {Post : Value → Gh → List Own → Prop} (hr : fn.results = rs.toArray) (h : iJ ac7 (St B G L) E rs vs) (hv : eM vs = v) (hP : Post v G L')
    (hL : L'.Sublist L:=by exact List.nil_sublist _) : Nx n [] E B G L (cu ac7 (.exit .ret) [] (bp ac7 fn (dB B Post))):=aP hr h hv hL hP
theorem jX {E' : bo} {c c' : Cu} {k k' : List Fr} {p' : List Prop} (hn : Nx n D E' B G L (cu ac7 c' k' Q)) (h : rp tb n 400 E c k = some ⟨E',c',k',p'⟩:=by exact F) (hp : ic p':=by (repeat' (first | exact trivial | apply And.intro | omega | assumption | (simp only [List.length_append,List.length_cons,List.length_nil,Int.toNat_natCast];omega) | (simp only [List.length_append,List.length_cons,List.length_nil,List.length_take,List.length_drop];omega) | (with_reducible exact (rf _ _).1) | (with_reducible exact (rf _ _).2)));done) : Nx n D E B G L (cu ac7 c k Q):=run 400 h hp hn
theorem jW [PQ Q] {ops : List Oper} {G0 : Gh} {L0 : List Own} (fuel : Nat) (is : List Nat) {E' : bo} {p' : List Prop} {fuel' : Nat} {listed : Array Bool} (listed' : Array Bool) (hn : Nx n D E' B G L (xA ac7 ops.toArray Q (b8 B G0 L0) fuel listed'))
    (hf : Nat.beq (fuel + is.length) fuel' = true:=by exact F) (h : ig tb n ops is E [] = some (E',p'):=by exact F) (hsel : Region.noSelect ops.toArray = true:=by kernel_rfl) (hb : l4 ops.toArray is listed listed' = true:=by kernel_rfl)
    (hG : Gh.le G0 G:=by first | exact Gh.le.refl _ | assumption) (hL : L0.Sublist L:=by repeat (first | exact List.Sublist.refl _ | exact List.nil_sublist _ | apply List.Sublist.cons_cons | apply List.Sublist.cons)) (hp : ic p':=by (repeat' (first | exact trivial | apply And.intro | omega | assumption | (simp only [List.length_append,List.length_cons,List.length_nil,Int.toNat_natCast];omega) | (simp only [List.length_append,List.length_cons,List.length_nil,List.length_take,List.length_drop];omega) | (with_reducible exact (rf _ _).1) | (with_reducible exact (rf _ _).2)));done) : Nx n D E B G L (xA ac7 ops.toArray Q (b8 B G0 L0) fuel' listed):=uk is listed' hsel hb hf h hG hL hp hn
section
variable {d : Nat} {ty : TypeId} {pos : String} {aft : Array Edge} {gd : Option (Nat × Bool)} {K2 : Act → World → Prop}
theorem ah {T T0 : TypeId} {x : Operand} {desc : TypeDesc} {size bytes : Nat} {zero : Value} {b o : Nat} {v : Value} {cs : List Value} {fr : Nat × Nat} [TI ac7 T desc size bytes zero] [BlkI L b cs T0 fr] (hx : ev E x = some (Pt b o)) (k : Nx n D ((d,v) :: E) B G L K)
    (ha : dh desc = false:=by exact F) (hc : cs[o]? = some v:=by exact F) (hlt : Nat.blt d n = true:=by exact F) : Nx n D E B G L (ow ac7 ⟨some d,.load T x,ty,pos,aft,gd⟩ Q K):=kx (aq hx ha hc) F hlt k
theorem aB {T T0 : TypeId} {x : Operand} {desc : TypeDesc} {size bytes : Nat} {zero : Value} {b o : Nat} {vs : List Value} {cs : List Value} {fr : Nat × Nat} [TI ac7 T desc size bytes zero] [BlkI L b cs T0 fr] (hx : ev E x = some (Pt b o)) (k : Nx n D ((d,Ag vs) :: E) B G L K)
    (ha : dh desc = true:=by exact F) (hc : jJ cs o size = some vs:=by exact F) (hl : Nat.beq vs.length size = true:=by exact F) (hlt : Nat.blt d n = true:=by exact F) : Nx n D E B G L (ow ac7 ⟨some d,.load T x,ty,pos,aft,gd⟩ Q K):=kx (bD hx ha hc hl) F hlt k
theorem aG {c x y : Operand} {b : Bool} {v : Value} (hc : ev E c = some (.bool b)) (k : Nx n D ((d,v) :: E) B G L K) (hx : ev E x = some v:=by exact F) (hb : b = true:=by exact F) (hlt : Nat.blt d n = true:=by exact F) : Nx n D E B G L (ow ac7 ⟨some d,.pick c x y,ty,pos,aft,gd⟩ Q K):=kx (a6 hc hx hb) F hlt k
theorem ar {c x y : Operand} {b : Bool} {v : Value} (hc : ev E c = some (.bool b)) (k : Nx n D ((d,v) :: E) B G L K) (hy : ev E y = some v:=by exact F) (hb : b = false:=by exact F) (hlt : Nat.blt d n = true:=by exact F) : Nx n D E B G L (ow ac7 ⟨some d,.pick c x y,ty,pos,aft,gd⟩ Q K):=kx (aJ hc hy hb) F hlt k
theorem jC {T T0 : TypeId} {x y : Operand} {desc : TypeDesc} {size bytes : Nat} {zero : Value} {b o : Nat} {cs vs cs' : List Value} {fr : Nat × Nat} {L' : List Own} [TI ac7 T desc size bytes zero] [BlkI L b cs T0 fr] [hu : UpdI b cs' L cs T0 L'] (hx : ev E x = some (Pt b o)) (hy : ev E y = some (Ag vs)) (hp : gg cs o vs = some cs') (k : Nx n D E B G L' K)
    (hl : Nat.beq vs.length size = true:=by exact F) (hne : vs.isEmpty = false:=by exact F) (h1 : gk vs = true:=by exact F) : Nx n D E B G L (ow ac7 ⟨none,.store T x y,ty,pos,aft,gd⟩ Q K):=ab9 hx hy hl hne h1 hp k
theorem jD {T T0 : TypeId} {x y : Operand} {desc : TypeDesc} {bytes : Nat} {zero v : Value} {b o : Nat} {cs cs' : List Value} {fr : Nat × Nat} {L' : List Own} [TI ac7 T desc 1 bytes zero] [BlkI L b cs T0 fr] [hu : UpdI b cs' L cs T0 L'] (hx : ev E x = some (Pt b o)) (hy : ev E y = some v) (hp : gg cs o [v] = some cs') (k : Nx n D E B G L' K) (h1 : v.oneCell' = true:=by exact F) : Nx n D E B G L (ow ac7 ⟨none,.store T x y,ty,pos,aft,gd⟩ Q K):=aca hx hy h1 hp k
end
theorem jY {fn : Func} {rs : List ResultVar} {vs : List Value} {R : Value → Prop} (hP : R (eM vs)) (hr : fn.results = rs.toArray:=by exact F) (h : iJ ac7 (St B G L) E rs vs:=by repeat' (first | exact trivial | refine ⟨F,?_⟩)) : Nx n [] E B G L (cu ac7 (.exit .ret) [] (bp ac7 fn (dB B (fun v G' L'=>G' = G ∧ L' = [] ∧ R v)))):=aP hr h F (List.nil_sublist _) ⟨F,F,hP⟩
theorem jo {a l : List Oper} {i : Nat} {pm : List Nat} {o : Oper} (h : Nx n D E B G L (ow ac7 o (kk ac7 k Q) (cu ac7 (.ops a l (i + 1) pm) k Q))) (hg : nD E a pm o = some true:=by exact F) : Nx n D E B G L (cu ac7 (.ops a (o :: l) i pm) k Q):=uG hg h
section
variable {d : Nat} {ty : TypeId} {pos : String} {aft : Array Edge} {gd : Option (Nat × Bool)}
theorem jF {T el : TypeId} {len : Nat} {ps : List (Nat × Operand)} {qs : List (Nat × List Value)} {desc : TypeDesc} {size bytes size' bytes' : Nat} {zero zero' : Value} {zs cs : List Value} [TI ac7 T (.slice el) size' bytes' zero'] [TI ac7 el desc size bytes zero] (k : ∀ b,Nx n D ((d,.slice (some ⟨b,0,none⟩) len len) :: E) B G (.blk b (.cells cs.toArray el (0,0)) :: L) K) (hz : eQ zero = some zs:=by exact F)
    (hsz : Nat.beq zs.length size = true:=by exact F) (he : qH E ps = some qs:=by exact F) (hf : pk (iP (py size) (bT zs len) qs) = some cs:=by exact F) (hsm : Nat.ble (len * size) 16777216 = true:=by exact F) (hlt : Nat.blt d n = true:=by exact F) : Nx n D E B G L (ow ac7 ⟨some d,.buildSlice T len ps.toArray,ty,pos,aft,gd⟩ Q K):=ack hz hsz hsm hlt he hf k
theorem jL {T : TypeId} {desc : TypeDesc} {size bytes : Nat} {zero : Value} {cs : List Value} [TI ac7 T desc size bytes zero] (k : ∀ b,Nx n D ((d,Pt b 0) :: E) B G (.blk b (.cells cs.toArray T (0,0)) :: L) K) (hz : eQ zero = some cs:=by exact F) (hlt : Nat.blt d n = true:=by exact F) : Nx n D E B G L (ow ac7 ⟨some d,.alloc T,ty,pos,aft,gd⟩ Q K):=acX hz hlt k
theorem jO {T : TypeId} {x : Operand} {v : Value} {cs : List Value} (k : ∀ b,Nx n D ((d,Pt b 0) :: E) B G (.blk b (.cells cs.toArray T (0,0)) :: L) K) (hx : ev E x = some v:=by exact F) (hz : eQ v = some cs:=by exact F) (hlt : Nat.blt d n = true:=by exact F) : Nx n D E B G L (ow ac7 ⟨some d,.box T x,ty,pos,aft,gd⟩ Q K):=acW hx hz hlt k
end
theorem jQ {ops : Array Oper} {S : World → Prop} {fuel : Nat} {listed : Array Bool} (h : Nx n D E B G L (cu ac7 (.exit .normal) k Q)) (hr : Region.ready .any ops listed = []:=by kernel_rfl) : Nx n D E B G L (xA ac7 ops (kk ac7 k Q) S fuel listed):=zK hr (acU h)
theorem zA {α : Type _} {a : α} {l m : List α} : a :: l ++ m = a :: (l ++ m):=rfl
theorem fA {α : Type _} {l : List α} : [] ++ l = l:=rfl
end
set_option maxRecDepth 20000
set_option maxHeartbeats 2000000
theorem wM (l : ac8) (c : UInt8) : bw (l ++ [c]) = bw l ++ [U8 c.toNat]:=by simp [bw]
def num (n : Nat) : ac8:=if h : n < 128 then [u8 n] else u8 (128 + n % 128 : Nat) :: num (n / 128)
termination_by n
decreasing_by omega
theorem rB {n : Nat} (h : n < 128) : num n = [u8 n]:=by rw [num];simp [h]
theorem vC {n : Nat} (h : ¬ n < 128) : num n = u8 (128 + n % 128 : Nat) :: num (n / 128):=by rw [num];simp [h]
def aX (n : Int) : ac8:=num n.toNat
theorem fu {n : Int} (h : n < 128) (h0 : 0 ≤ n) : aX n = [u8 n]:=by
 unfold aX;rw [rB oM,Int.toNat_of_nonneg h0]
theorem gU {n : Int} (h : ¬ n < 128) : aX n = u8 (128 + n % 128) :: aX (n / 128):=by
 unfold aX;rw [vC oM]
 congr 2
 ·omega
 ·omega
theorem tF (n : Nat) : ∀ k,n < 128 ^ (k + 1) → (num n).length ≤ k + 1:=by
 intro k
 induction k generalizing n with
 | zero=>intro h;rw [rB (by simpa using h)];simp
 | succ k ih =>
  intro h
  by_cases h1 : n < 128
  ·rw [rB h1];simp
  ·rw [vC h1]
   have:=ih (n / 128) (Nat.div_lt_of_lt_mul (by rw [Nat.pow_succ] at h;omega))
   simp;omega
theorem wY (n : Nat) (h : n ≤ 9223372036854775807) : (num n).length ≤ 9:=tF n 8 oM
theorem rD (n : Int) (h : n ≤ 9223372036854775807) : (aX n).length ≤ 9:=wY _ oM
def pF (n : Int) : ac8 → Int
 | []=>n
 | c :: l=>pF ((n * 31 + (c.toNat : Int)) % 9973) l
def eD (l : ac8) : Int:=pF 1 l
theorem uw (l : ac8) : ∀ n : Int,0 ≤ n → n < 9973 → 0 ≤ pF n l ∧ pF n l < 9973:=by
 induction l with
 | nil=>intro n h1 h2;exact ⟨h1,h2⟩
 | cons c l ih=>intro n h1 h2;exact ih _ (Int.emod_nonneg _ dC) (Int.emod_lt_of_pos _ dC)
theorem iN (l : ac8) : 0 ≤ eD l ∧ eD l < 9973:=uw l 1 dC dC
theorem fS {l : ac8} {i : Nat} (h : i < l.length) : ∃ c : UInt8,l.drop i = c :: l.drop (i + 1) ∧ bt l i = c.toNat:=by
 refine ⟨l[i],(List.getElem_cons_drop (h:=h)).symm,?_⟩
 simp [bt,List.getD,List.getElem?_eq_getElem h]
def frame (s : ac8) : ac8:=[u8 126] ++ aX s.length ++ s ++ aX (eD s)
theorem bx {n : Int} (h : n ≤ 999999) : (aX n).length ≤ 3:=tF _ 2 oM
theorem k3 (l : ac8) : (aX (eD l)).length ≤ 3:=bx (by have:=iN l;omega)
theorem fG (s : ac8) (h : s.length ≤ 999999) : (frame s).length ≤ s.length + 7:=by
 have h1:=bx (n:=s.length) oM
 have h2:=k3 s
 simp [frame];omega
def fZ (s : ac8) : ac8:=if s.length ≤ 100 then frame s else []
def mz (s : ac8) : Bool:=decide (s.length ≤ 100)
theorem yb {s : ac8} (h : ¬ s.length ≤ 100) : Tu [S [],Bo false] = Tu [S (fZ s),Bo (mz s)]:=by simp [fZ,mz,h]
theorem rV {s : ac8} (h : s.length ≤ 100) : Tu [S (frame s),Bo true] = Tu [S (fZ s),Bo (mz s)]:=by simp [fZ,mz,h]
variable {G : Gh}
theorem mJ {n lo hi : Int} : an ac7 72 [I n,I lo,I hi] G (· = Bo (decide (lo ≤ n) && decide (n ≤ hi))):=by
 refine jE [(0,_),(1,_),(2,_)] Tryz.func72 Tryz.ntmps72 fun B hB=>?_
 repeat' (first | refine jR ?_ | (refine jo ?_;first | refine aG F ?_ | refine ar F ?_) | refine dN F F (fun _=>?_) (fun _=>?_))
 all_goals refine jY (vs:=[_]) ?_
 all_goals (rw [aw];simp [*])
theorem dJ {n : Int} : an ac7 33 [I n] G (· = Bo (decide (0 ≤ n) && decide (n ≤ 999))):=by
 refine jE [(0,_)] Tryz.func33 Tryz.ntmps33 fun B hB=>?_
 repeat' (first | refine jR ?_ | (refine jo ?_;first | refine aG F ?_ | refine ar F ?_) | refine dN F F (fun _=>?_) (fun _=>?_))
 all_goals refine jY (vs:=[_]) ?_
 all_goals (rw [aw];simp [*])
theorem xj : ∀ (k : Nat) {n : Int},n.toNat ≤ k → 0 ≤ n ∧ n ≤ 9223372036854775807 → an ac7 74 [I n] G (· = S (aX n)):=by
 intro k
 induction k with
 | zero =>
  intro n hk hn
  have h1 : n < 128:=oM
  refine jE [(0,_)] Tryz.func74 Tryz.ntmps74 fun B hB=>?_
  repeat' (first | refine jR ?_ | (refine jo ?_;first | refine jF fun _=>?_ | refine jV (cX F F (by (repeat (first | exact BL.nil | apply BL.cons));done)) ?_) | refine ac F (ay ‹_›) ?_)
  refine jY (vs:=[_]) ?_
  rw [aw,fu h1 hn.1]
 | succ k ih =>
  intro n hk hn
  have hl:=rD (n / 128) oM
  refine jE [(0,_)] Tryz.func74 Tryz.ntmps74 fun B hB=>?_
  repeat' (first | refine jR ?_ | (refine jo ?_;first | refine jF fun _=>?_ | refine jV (cX F F (by (repeat (first | exact BL.nil | apply BL.cons));done)) ?_) | refine cB F (fun _=>?_) (fun _=>?_) | (refine aj (am (id:=3) _ (fun _ h=>h) ai ?_);refine jW 5 [0,1,2,3,6,7] (aa 11 207) ?_;refine bA [4,8] kR dC ⟨?_,?_,trivial⟩;(focus (refine aM F F ?_;(refine jF fun _=>?_);refine jS (aa 11 223) ?_;((refine jG (aa 11 255) 5 F (cX F F (by (repeat (first | exact BL.nil | apply BL.cons));done)) ?_));refine jA 8 F ?_;((refine ab F F F (ih ?_ ?_) F ?_;(focus omega);focus omega));refine jS (aa 11 511) ?_;refine jW 0 [9,10] (aa 11 2047) ?_;refine jQ ?_));rotate_left 1;(focus (refine aM F F ?_;((refine ab F F F (ih ?_ ?_) F ?_;(focus omega);focus omega));refine jS (aa 11 463) ?_;refine jA 4 F ?_;(refine jF fun _=>?_);refine jS (aa 11 479) ?_;((refine jG (aa 11 511) 5 F (cX F F (by (repeat (first | exact BL.nil | apply BL.cons));done)) ?_));refine jW 0 [9,10] (aa 11 2047) ?_;refine jQ ?_));rotate_left 1))
  ·refine jY (vs:=[_]) ?_
   rw [aw,fu aS hn.1]
  all_goals refine jY (vs:=[_]) ?_
  all_goals (rw [aw,gU (n:=n) aS];rfl)
theorem dy {n : Int} (hn : 0 ≤ n ∧ n ≤ 9223372036854775807) : an ac7 74 [I n] G (· = S (aX n)):=xj n.toNat (Nat.le_refl _) hn
def iG (xs : List ac8) : List Value:=xs.map fun x=>S x
theorem jP (xs : List ac8) (x : ac8) : iG (xs ++ [x]) = iG xs ++ [S x]:=by simp [iG]
abbrev ky : TypeId:=9
theorem bP {α : Type} [Inhabited α] {a : List α} {i : Nat} (h : i < a.length) : ae a i ∈ a:=by rw [aW h];exact List.getElem_mem h
theorem m6 {α : Type} [Inhabited α] {a : List α} {x : α} (h : x ∈ a) : ∃ i,i < a.length ∧ ae a i = x:=by
 obtain ⟨i,hi,e⟩:=List.mem_iff_getElem.1 h
 exact ⟨i,hi,by rw [aW hi,e]⟩
theorem o8 (p s : ac8) : p.isPrefixOf s = decide (p.length ≤ s.length ∧ s.take p.length = p):=by
 by_cases h : p <+: s
 ·have h1:=List.isPrefixOf_iff_prefix.2 h
  rw [h1];obtain ⟨r,rfl⟩:=h;simp
 ·have h1 : p.isPrefixOf s = false:=by
   cases hb : p.isPrefixOf s with
   | false=>rfl
   | true=>exact absurd (List.isPrefixOf_iff_prefix.1 hb) h
  rw [h1];symm;refine decide_eq_false fun ⟨_,h3⟩=>h ?_
  rw [← h3];exact List.take_prefix _ _
theorem gM {s p : ac8} : an ac7 164 [S s,S p] G (· = Bo (p.isPrefixOf s)):=by
 rw [o8]
 refine jE [(0,_),(1,_)] Tryz.func164 Tryz.ntmps164 fun B hB=>?_
 repeat' (first | refine jM ?_ | (refine jo ?_;first | refine aG F ?_ | refine ar F ?_) | refine dN F F (fun _=>?_) (fun _=>?_))
 all_goals refine jY (vs:=[_]) ?_
 all_goals (rw [aw];simp;omega)
theorem f2 {s p : ac8} : an ac7 124 [S s,S p] G (· = Bo (p.isPrefixOf s)):=by
 refine jE [(0,_),(1,_)] Tryz.func124 Tryz.ntmps124 fun B hB=>?_
 repeat' (first | refine jR ?_ | (refine jo ?_;refine ab F F F gM F ?_))
 all_goals refine jY (vs:=[_]) ?_
 all_goals rfl
def ka (c : UInt8) : Bool:=decide (97 ≤ c.toNat ∧ c.toNat ≤ 122)
def ce (s : ac8) : Bool:=s.all ka && decide (1 ≤ s.length ∧ s.length ≤ 3)
def d1 : ac8 → Bool
 | []=>false
 | c :: r=>if c.toNat = 91 ∨ c.toNat = 63 then d1 r
  else if c.toNat = 64 then decide (((bt (c :: r) r.length : Nat) : Int) = 59) && ce (r.take (r.length - 1))
  else decide (r = []) && (decide (c.toNat = 110) || decide (c.toNat = 116) || decide (c.toNat = 102))
def bB (s : ac8) : Bool:=decide (s.length ≤ 12) && d1 s
def br : ac8 → ac8
 | []=>[]
 | c :: r=>if c.toNat = 91 ∨ c.toNat = 63 then br r else c :: r
theorem tJ {s : ac8} {i : Nat} (h : i < s.length) (h2 : ¬ (97 ≤ bt s i ∧ bt s i ≤ 122)) : ce s = false:=by
 have e : bt s i = (s[i]).toNat:=by simp [bt,List.getD,List.getElem?_eq_getElem h]
 have : s.all ka = false:=by
  rw [List.all_eq_false]
  exact ⟨s[i],List.getElem_mem h,by rw [e] at h2;simpa [ka] using h2⟩
 rw [ce,this,Bool.false_and]
theorem w2 {s : ac8} (h : ∀ i,i < s.length → 97 ≤ bt s i ∧ bt s i ≤ 122) : ce s = decide (1 ≤ s.length ∧ s.length ≤ 3):=by
 have : s.all ka = true:=by
  rw [List.all_eq_true]
  intro c hc
  obtain ⟨i,hi,rfl⟩:=List.mem_iff_getElem.1 hc
  have e : bt s i = (s[i]).toNat:=by simp [bt,List.getD,List.getElem?_eq_getElem hi]
  have:=h i hi
  rw [e] at this
  simpa [ka] using this
 rw [ce,this,Bool.true_and]
def qN (n : Nat) : ac8:=if h : n < 10 then [u8 (48 + n : Nat)] else qN (n / 10) ++ [u8 (48 + n % 10 : Nat)]
termination_by n
decreasing_by omega
def bz (n : Int) : ac8:=qN n.toNat
theorem dH {n : Int} (h : n < 10) (h0 : 0 ≤ n) : bz n = [u8 (48 + n)]:=by
 unfold bz;rw [qN,dif_pos oM];congr 1;congr 1;omega
theorem iY {n : Int} (h : ¬ n < 10) : bz n = bz (n / 10) ++ [u8 (48 + n % 10)]:=by
 unfold bz;rw [qN,dif_neg oM]
 have e1 : n.toNat / 10 = (n / 10).toNat:=oM
 have e2 : ((48 + n.toNat % 10 : Nat) : Int) = 48 + n % 10:=oM
 rw [e1,e2]
theorem tS (n : Nat) : ∀ k,n < 10 ^ (k + 1) → (qN n).length ≤ k + 1:=by
 intro k
 induction k generalizing n with
 | zero=>intro h;rw [qN,dif_pos (by simpa using h)];simp
 | succ k ih =>
  intro h
  by_cases h1 : n < 10
  ·rw [qN,dif_pos h1];simp
  ·rw [qN,dif_neg h1]
   have:=ih (n / 10) (Nat.div_lt_of_lt_mul (by rw [Nat.pow_succ] at h;omega))
   simp;omega
theorem gi {n : Int} (h : n ≤ 9223372036854775807) : (bz n).length ≤ 19:=tS _ 18 oM
theorem fa {s : ac8} (h : s.length ≤ 9000000000000000000) : an ac7 70 [S s] G (· = Bo (ce s)):=by
 refine jE [(0,_)] Tryz.func70 Tryz.ntmps70 fun B hB=>?_
 repeat' (refine jR ?_)
 refine aT (ι:=Nat) (fun i=>i ≤ s.length ∧ ∀ k,k < i → 97 ≤ bt s k ∧ bt s k ≤ 122) (fun i=>[(0,S s),(3,I i)]) (fun _=>G) (fun i=>[]) (fun i=>s.length - i) 0 ?_ tU F aZ (fun i Hi=>?_)
 ·exact ⟨oM,fun k hk=>absurd hk oM⟩
 by_cases hi : i < s.length
 ·repeat' (first | refine jM ?_ | (refine jo ?_;first | refine aG F ?_ | refine ar F ?_) | refine dN F F (fun _=>?_) (fun _=>?_) | (refine ac F (by first | rfl | (refine decide_eq_true ?_;(omega))) ?_) | refine cB F (fun _=>?_) (fun _=>?_))
  ·rename_i hc
   refine jY (vs:=[_]) ?_
   have hc : ((bt s i : Nat) : Int) < 97:=hc
   rw [aw,tJ hi oM]
  ·rename_i _ hc
   refine jY (vs:=[_]) ?_
   have hc : (122 : Int) < ((bt s i : Nat) : Int):=hc
   rw [aw,tJ hi oM]
  ·rename_i h1 h2
   have h1 : ¬ ((bt s i : Nat) : Int) < 97:=h1
   have h2 : ¬ (122 : Int) < ((bt s i : Nat) : Int):=h2
   refine aY (i + 1) ⟨oM,fun k hk=>?_⟩ oM tU F aZ
   rcases Nat.lt_or_ge k i with h3 | h3
   ·exact Hi.2 k h3
   ·have : k = i:=oM
    subst this;omega
 ·repeat' (first | refine jR ?_ | (refine jo ?_;refine ab F F F mJ F ?_) | refine ad F (aC oM) ?_)
  refine jY (vs:=[_]) ?_
  rw [aw,w2 fun k hk=>Hi.2 k oM]
  refine congrArg Bo ?_
  rw [Bool.decide_and]
  exact congr (congrArg and (decide_eq_decide.2 oM)) (decide_eq_decide.2 oM)
theorem lR (c : UInt8) (r : ac8) : bt (c :: r) 0 = c.toNat:=by simp [bt,List.getD]
theorem zt {c : UInt8} {r : ac8} (h : r ≠ []) (hl : r.length ≤ 1000000) : an ac7 100 [S (c :: r)] G (· = Tu [S (if c.toNat = 64 then r.take (r.length - 1) else []),Bo (decide (c.toNat = 64))]):=by
 have hp:=List.length_pos_iff.2 h
 have e0:=lR c r
 refine jE [(0,_)] Tryz.func100 Tryz.ntmps100 fun B hB=>?_
 repeat' (first | refine jX ?_ | refine cB F (fun _=>?_) (fun _=>?_))
 ·rename_i hc
  refine jY (vs:=[_,_]) ?_
  have hc : ((bt (c :: r) 0 : Nat) : Int) ≠ 64:=hc
  have hc : ¬ c.toNat = 64:=oM
  rw [dM,if_neg hc,decide_eq_false hc]
 ·rename_i hc
  refine jY (vs:=[_,_]) ?_
  have hc : ¬ ((bt (c :: r) 0 : Nat) : Int) ≠ 64:=hc
  have hc : c.toNat = 64:=oM
  have e : ((((c :: r).length : Nat) : Int) - 1).toNat = (r.length - 1) + 1:=by simp only [List.length_cons];omega
  rw [dM,if_pos hc,decide_eq_true hc,e,List.take_succ_cons];rfl
theorem mK {s : ac8} : an ac7 99 [S s] G (· = Bo (bB s)):=by
 induction s with
 | nil =>
  refine jE [(0,_)] Tryz.func99 Tryz.ntmps99 fun B hB=>?_
  repeat' (first | refine jR ?_ | (refine jo ?_;refine ar F ?_) | refine ak F F F ?_ | refine ac F F ?_)
  all_goals refine jY (vs:=[_]) ?_
  all_goals rfl
 | cons c r ih =>
  have e0 : bt (c :: r) (Int.toNat 0) = c.toNat:=lR c r
  by_cases hl : (c :: r).length ≤ 12
  ·have hl2 : r.length ≤ 12:=by simp at hl;omega
   rw [bB,decide_eq_true hl,Bool.true_and,d1]
   rw [bB,decide_eq_true hl2,Bool.true_and] at ih
   have hcons : (c :: r).length = r.length + 1:=rfl
   by_cases h1 : c.toNat = 91
   ·rw [if_pos (.inl h1)]
    refine jE [(0,_)] Tryz.func99 Tryz.ntmps99 fun B hB=>?_
    repeat' (first | refine jM ?_ | (refine jo ?_;first | refine ar F ?_ | refine ab F F F ih F ?_) | refine ak F F (aC oM) ?_ | refine ac F (ay oM) ?_ | refine ad F F ?_)
    refine jY (vs:=[_]) ?_
    rfl
   by_cases h2 : c.toNat = 63
   ·rw [if_pos (.inr h2)]
    refine jE [(0,_)] Tryz.func99 Tryz.ntmps99 fun B hB=>?_
    repeat' (first | refine jM ?_ | (refine jo ?_;first | refine ar F ?_ | refine ab F F F ih F ?_) | refine ak F F (aC oM) ?_ | refine ac F (ay oM) ?_ | (refine ad F (by first | rfl | (refine decide_eq_false ?_;(omega))) ?_))
    refine jY (vs:=[_]) ?_
    rfl
   rw [if_neg oM]
   by_cases h3 : c.toNat = 64
   ·rw [if_pos h3]
    have h5 : ((((c :: r).length : Nat) : Int) - 1).toNat = r.length:=oM
    by_cases h4 : ((bt (c :: r) r.length : Nat) : Int) = 59
    ·have h6 : ((bt (c :: r) ((((c :: r).length : Nat) : Int) - 1).toNat : Nat) : Int) = 59:=by rw [h5];exact h4
     have hp : 0 < r.length:=by
      rcases Nat.eq_zero_or_pos r.length with h0 | h0
      ·have : r = []:=List.length_eq_zero_iff.1 h0
       subst this
       have : ((bt [c] (Int.toNat 0) : Nat) : Int) = 59:=h4
       omega
      ·exact h0
     have e1 : ((((c :: r).length : Nat) : Int) - 1).toNat = (r.length - 1) + 1:=oM
     refine jE [(0,_)] Tryz.func99 Tryz.ntmps99 fun B hB=>?_
     repeat' (first | refine jM ?_ | (refine jo ?_;first | refine aG F ?_ | refine ar F ?_ | (refine ab F F F (fa ?_) F ?_;(focus ((simp;omega);done)))) | refine ax F F (ay ‹_›) ?_ | refine ak F F (aC oM) ?_ | refine ac F (ay oM) ?_ | (refine ad F (by first | rfl | (refine decide_eq_false ?_;(omega))) ?_))
     refine jY (vs:=[_]) ?_
     rw [aw,decide_eq_true h4,Bool.true_and,e1,List.take_succ_cons];rfl
    ·have h6 : ¬ ((bt (c :: r) ((((c :: r).length : Nat) : Int) - 1).toNat : Nat) : Int) = 59:=by rw [h5];exact h4
     refine jE [(0,_)] Tryz.func99 Tryz.ntmps99 fun B hB=>?_
     repeat' (first | refine jM ?_ | (refine jo ?_;refine ar F ?_) | (refine ak F F (by refine decide_eq_false ?_;first | assumption | omega) ?_) | refine ac F (ay oM) ?_ | (refine ad F (by first | rfl | (refine decide_eq_false ?_;(omega))) ?_))
     refine jY (vs:=[_]) ?_
     rw [aw,decide_eq_false h4,Bool.false_and]
   ·rw [if_neg h3]
    have n1 : ∀ x : UInt8,(c :: r = [x]) = (c.toNat = x.toNat ∧ r = []):=fun x=>by
     rw [List.cons.injEq];exact propext ⟨fun h=>⟨by rw [h.1],h.2⟩,fun h=>⟨UInt8.toNat_inj.1 h.1,h.2⟩⟩
    refine jE [(0,_)] Tryz.func99 Tryz.ntmps99 fun B hB=>?_
    repeat' (first | refine jM ?_ | (refine jo ?_;first | refine aG F ?_ | refine ar F ?_) | refine ax F F F ?_ | refine ak F F (aC oM) ?_ | refine dN F F (fun _=>?_) (fun _=>?_) | (refine ad F (by first | rfl | (refine decide_eq_false ?_;(omega))) ?_))
    all_goals refine jY (vs:=[_]) ?_
    all_goals rw [aw]
    ·rename_i h;rw [n1] at h;rw [decide_eq_true h.2,decide_eq_true (p:=c.toNat = 110) h.1];rfl
    ·rename_i h;rw [n1] at h;rw [decide_eq_true h.2,decide_eq_true (p:=c.toNat = 116) h.1];simp
    ·rename_i ha hb
     refine congrArg Bo ?_
     rw [n1] at ha hb
     simp only [n1]
     by_cases hr : r = []
     ·have hx : ¬ c.toNat = 110:=fun h=>ha ⟨h,hr⟩
      have hy : ¬ c.toNat = 116:=fun h=>hb ⟨h,hr⟩
      simp [hr,hx,hy]
     ·simp [hr]
  ·rw [bB,decide_eq_false hl,Bool.false_and]
   refine jE [(0,_)] Tryz.func99 Tryz.ntmps99 fun B hB=>?_
   repeat' (first | refine jR ?_ | (refine jo ?_;refine aG F ?_) | refine ax F F (ay oM) ?_ | refine ac F F ?_)
   all_goals refine jY (vs:=[_]) ?_
   all_goals rfl
theorem sC {s : ac8} (h : d1 s = true) : an ac7 101 [S s] G (· = S (br s)):=by
 refine jE [(0,_)] Tryz.func101 Tryz.ntmps101 fun B hB=>?_
 repeat' (refine jR ?_)
 refine aT (ι:=ac8) (fun t=>d1 t = true ∧ br t = br s) (fun t=>[(0,S t)]) (fun _=>G) (fun t=>[]) (fun t=>t.length) s ?_ tU F aZ (fun t Ht=>?_)
 ·exact ⟨h,F⟩
 match t,Ht with
 | c :: r,Ht =>
  have e0 : bt (c :: r) (Int.toNat 0) = c.toNat:=lR c r
  have hcons : (c :: r).length = r.length + 1:=rfl
  by_cases h1 : c.toNat = 91 ∨ c.toNat = 63
  ·have hk : d1 r = true:=by have:=Ht.1;rw [d1,if_pos h1] at this;exact this
   have hc : br r = br s:=by rw [← Ht.2,br,if_pos h1]
   rcases h1 with h1 | h1
   all_goals repeat' (first | refine jM ?_ | (refine jo ?_;first | refine aG F ?_ | refine ar F ?_) | refine ax F F (ay oM) ?_ | refine ak F F (aC oM) ?_ | (refine ac F (by first | rfl | (refine decide_eq_true ?_;(omega))) ?_))
   all_goals exact aY r ⟨hk,hc⟩ oM tU F aZ
  ·repeat' (first | refine jM ?_ | (refine jo ?_;refine ar F ?_) | refine ak F F (aC oM) ?_ | refine ad F (aC oM) ?_)
   refine jY (vs:=[_]) ?_
   rw [aw,← Ht.2,br,if_neg h1]
theorem xi : ∀ (k : Nat) {n : Int},n.toNat ≤ k → 0 ≤ n ∧ n ≤ 9223372036854775807 → an ac7 103 [I n] G (· = S (bz n)):=by
 intro k
 induction k with
 | zero =>
  intro n hk hn
  have h1 : n < 10:=oM
  refine jE [(0,_)] Tryz.func103 Tryz.ntmps103 fun B hB=>?_
  repeat' (first | refine jM ?_ | (refine jo ?_;first | refine jF fun _=>?_ | refine jV (cX F F (by (repeat (first | exact BL.nil | apply BL.cons));done)) ?_) | refine ac F (ay ‹_›) ?_ | refine ad F (aC oM) ?_)
  refine jY (vs:=[_]) ?_
  rw [aw,dH h1 hn.1]
 | succ k ih =>
  intro n hk hn
  have hl:=gi (n:=n / 10) oM
  by_cases h1 : n < 10
  ·refine jE [(0,_)] Tryz.func103 Tryz.ntmps103 fun B hB=>?_
   repeat' (first | refine jM ?_ | (refine jo ?_;first | refine jF fun _=>?_ | refine jV (cX F F (by (repeat (first | exact BL.nil | apply BL.cons));done)) ?_) | refine ac F (ay ‹_›) ?_ | refine ad F (aC oM) ?_)
   refine jY (vs:=[_]) ?_
   rw [aw,dH h1 hn.1]
  ·refine jE [(0,_)] Tryz.func103 Tryz.ntmps103 fun B hB=>?_
   repeat' (first | refine jR ?_ | (refine ad F (by refine decide_eq_false ?_;first | assumption | omega) ?_) | (refine aj (am (id:=7) _ (fun _ h=>h) ai ?_);refine jW 5 [0,1,3,4,5,6] (aa 11 123) ?_;refine bA [2,7] kR dC ⟨?_,?_,trivial⟩;(focus (refine aM F F ?_;((refine ab F F F (ih ?_ ?_) F ?_;(focus omega);focus omega));refine jS (aa 11 127) ?_;refine jA 7 F ?_;(refine jF fun _=>?_);refine jS (aa 11 255) ?_;((refine jG (aa 11 511) 8 F (cX F F (by (repeat (first | exact BL.nil | apply BL.cons));done)) ?_));refine jW 0 [9,10] (aa 11 2047) ?_;refine jQ ?_));rotate_left 1;(focus (refine aM F F ?_;(refine jF fun _=>?_);refine jS (aa 11 251) ?_;((refine jG (aa 11 507) 8 F (cX F F (by (repeat (first | exact BL.nil | apply BL.cons));done)) ?_));refine jA 2 F ?_;((refine ab F F F (ih ?_ ?_) F ?_;(focus omega);focus omega));refine jS (aa 11 511) ?_;refine jW 0 [9,10] (aa 11 2047) ?_;refine jQ ?_));rotate_left 1))
   all_goals refine jY (vs:=[_]) ?_
   all_goals rw [aw,iY (n:=n) h1]
theorem eS {n : Int} (hn : 0 ≤ n ∧ n ≤ 9223372036854775807) : an ac7 103 [I n] G (· = S (bz n)):=xi n.toNat (Nat.le_refl _) hn
def fK (s : ac8) : ac8:=if s = [110] then [48] else if s = [116] then [39,39] else if s = [102] then [110,111] else []
theorem qT {s : ac8} : an ac7 194 [S s] G (· = S (fK s)):=by
 refine jE [(0,_)] Tryz.func194 Tryz.ntmps194 fun B hB=>?_
 repeat' (first | refine jR ?_ | refine cB F (fun _=>?_) (fun _=>?_))
 all_goals refine jY (vs:=[_]) ?_
 all_goals (rw [aw,fK];simp [*])
def iK (x : Nat) : Prop:=x = 32 ∨ (48 ≤ x ∧ x ≤ 57) ∨ (97 ≤ x ∧ x ≤ 122)
instance (x : Nat) : Decidable (iK x):=inferInstanceAs (Decidable (_ ∨ _))
def yi (s : ac8) : Prop:=(2 ≤ s.length ∧ s.length ≤ 14) ∧ bt s 0 = 39 ∧ bt s (s.length - 1) = 39 ∧ ∀ i,i < s.length - 1 → i = 0 ∨ iK (bt s i)
instance (s : ac8) : Decidable (yi s):=inferInstanceAs (Decidable (_ ∧ _ ∧ _ ∧ _))
def df (s : ac8) : Bool:=decide (yi s)
theorem e9 {s : ac8} (h : s.length ≤ 100000000) : an ac7 201 [S s] G (· = Bo (df s)):=by
 by_cases h1 : 2 ≤ s.length ∧ s.length ≤ 14
 case neg =>
  have e : df s = false:=decide_eq_false fun x=>h1 x.1
  rw [e]
  refine jE [(0,_)] Tryz.func201 Tryz.ntmps201 fun B hB=>?_
  repeat' (first | refine jR ?_ | (refine jo ?_;first | refine aG F ?_ | refine ar F ?_) | (refine ax F F (by first | rfl | (refine decide_eq_true ?_;(omega))) ?_) | refine dN F F (fun _=>?_) (fun _=>?_) | refine ac F F ?_)
  all_goals refine jY (vs:=[_]) ?_
  all_goals rfl
 by_cases h2 : bt s 0 = 39
 case neg =>
  have e : df s = false:=decide_eq_false fun x=>h2 x.2.1
  have h3 : ¬ bt s (Int.toNat 0) = 39:=h2
  rw [e]
  refine jE [(0,_)] Tryz.func201 Tryz.ntmps201 fun B hB=>?_
  repeat' (first | refine jM ?_ | (refine jo ?_;first | refine aG F ?_ | refine ar F ?_) | refine ax F F (ay oM) ?_ | refine ak F F (aC oM) ?_ | refine ac F F ?_)
  all_goals refine jY (vs:=[_]) ?_
  all_goals rfl
 have h3 : bt s (Int.toNat 0) = 39:=h2
 have h4 : (((s.length : Nat) : Int) - 1).toNat = s.length - 1:=oM
 by_cases h5 : bt s (s.length - 1) = 39
 case neg =>
  have e : df s = false:=decide_eq_false fun x=>h5 x.2.2.1
  have h6 : ¬ bt s (((s.length : Nat) : Int) - 1).toNat = 39:=by rw [h4];exact h5
  rw [e]
  refine jE [(0,_)] Tryz.func201 Tryz.ntmps201 fun B hB=>?_
  repeat' (first | refine jM ?_ | (refine jo ?_;refine ar F ?_) | refine ak F F (aC oM) ?_ | refine ac F (ay oM) ?_)
  all_goals refine jY (vs:=[_]) ?_
  all_goals rfl
 have h6 : bt s (((s.length : Nat) : Int) - 1).toNat = 39:=by rw [h4];exact h5
 refine jE [(0,_)] Tryz.func201 Tryz.ntmps201 fun B hB=>?_
 repeat' (first | refine jM ?_ | (refine jo ?_;refine ar F ?_) | refine ak F F (aC oM) ?_ | refine ad F (aC oM) ?_)
 refine aT (ι:=Nat) (fun i=>(1 ≤ i ∧ i ≤ s.length - 1) ∧ ∀ k,k < i → k = 0 ∨ iK (bt s k)) (fun i=>[(0,S s),(3,I i)]) (fun _=>G) (fun i=>[]) (fun i=>s.length - i) 1 ?_ tU F aZ (fun i Hi=>?_)
 ·exact ⟨⟨Nat.le_refl _,oM⟩,fun k hk=>.inl oM⟩
 by_cases hi : i < s.length - 1
 ·by_cases ht : iK (bt s i)
  ·have ht2 : iK (bt s ((i : Int).toNat)):=ht
   unfold iK at ht2
   repeat' (first | refine jM ?_ | (refine jo ?_;first | refine aG F ?_ | refine ar F ?_) | (refine ak F F (by first | rfl | (refine decide_eq_false ?_;(omega))) ?_) | refine dN F F (fun _=>?_) (fun _=>?_) | refine ac F (ay oM) ?_ | (refine ad F (by first | rfl | (refine decide_eq_false ?_;(omega))) ?_))
   all_goals refine aY (i + 1) ⟨⟨oM,oM⟩,fun k hk=>?_⟩ oM tU F aZ
   all_goals (rcases Nat.lt_or_ge k i with h7 | h7;· exact Hi.2 k h7)
   all_goals (have : k = i:=by omega)
   all_goals (subst this;exact .inr ht)
  ·have ht2 : ¬ iK (bt s ((i : Int).toNat)):=ht
   unfold iK at ht2
   have e : df s = false:=decide_eq_false fun x=>(x.2.2.2 i hi).elim (fun h8=>by omega) ht
   rw [e]
   repeat' (first | refine jM ?_ | (refine jo ?_;first | refine aG F ?_ | refine ar F ?_) | (refine ax F F (by first | rfl | (refine decide_eq_true ?_;(omega))) ?_) | refine dN F F (fun _=>?_) (fun _=>?_) | (refine ac F (by first | rfl | (refine decide_eq_true ?_;(omega))) ?_))
   all_goals refine jY (vs:=[_]) ?_
   all_goals rfl
 ·have e : df s = true:=decide_eq_true ⟨h1,h2,h5,fun k hk=>Hi.2 k oM⟩
  rw [e]
  repeat' (first | refine jM ?_ | refine ad F (aC oM) ?_)
  refine jY (vs:=[_]) ?_
  rfl
def dI (k : Nat) (acc : ac8) : ac8 → List ac8
 | []=>[acc]
 | c :: r=>if c.toNat = k then acc :: dI k [] r else dI k (acc ++ [c]) r
def bc (k : Nat) (s : ac8) : List ac8:=dI k [] s
theorem t9 {s : ac8} {k : Nat} (h : s.length ≤ 100000000) : bM ac7 114 [S s,U8 k] G [] (fun v L'=>L' = [.acc v ky 1 (bc k s).length (iG (bc k s))] ∧ qW v (bc k s).length):=by
 refine jH [(0,_),(1,_)] Tryz.func114 Tryz.ntmps114 fun B hB hW=>?_
 repeat' (first | refine jR ?_ | (refine jo ?_;refine jF fun _=>?_))
 rename_i x
 refine Nx.blkAcc (m:=0) (sz:=1) .here F ?_
 refine aT (ι:=Value × List ac8 × Nat × Nat) (fun i=>(i.2.2.1 ≤ i.2.2.2 ∧ i.2.2.2 ≤ s.length ∧ i.2.1.length ≤ i.2.2.2) ∧ i.2.1 ++ dI k ((s.take i.2.2.2).drop i.2.2.1) (s.drop i.2.2.2) = bc k s) (fun i=>[(0,S s),(1,U8 k),(5,i.1),(6,I i.2.2.1),(7,I i.2.2.2)]) (fun _=>G) (fun i=>[.acc i.1 ky 1 i.2.1.length (iG i.2.1)]) (fun i=>s.length - i.2.2.2) (.slice (some ⟨x,0,none⟩) 0 0,[],0,0) ?_ tU F aZ (fun i Hi=>?_)
 ·exact ⟨⟨Nat.le_refl _,Nat.zero_le _,Nat.zero_le _⟩,F⟩
 obtain ⟨u,xs,fr,i⟩:=i
 dsimp only at Hi ⊢
 by_cases hi : i < s.length
 ·obtain ⟨c,hc1,hc2⟩:=fS hi
  have hn : s.drop i ≠ []:=by rw [hc1];simp
  have ht : (s.take (i + 1)).drop fr = (s.take i).drop fr ++ [c]:=by
   have e : s[i] = c:=by have:=List.getElem_cons_drop (h:=hi);rw [hc1] at this;exact (List.cons.inj this).1
   rw [List.take_succ_eq_append_getElem hi,e,List.drop_append_of_le_length (by simp;omega)]
  have hcut:=Hi.2
  rw [hc1,dI] at hcut
  by_cases hk : c.toNat = k
  ·have hk2 : bt s i = k:=oM
   rw [if_pos hk] at hcut
   repeat' (first | refine jM ?_ | (refine jo ?_;first | refine jF fun _=>?_ | refine ng F F F F F F F F oM fun _=>?_) | (refine ac F ?_ ?_;(focus ((first | (refine decide_eq_true ?_;(omega)) | (simp [*];done));done))))
   refine aY (_,xs ++ [(s.take i).drop fr],i + 1,i + 1) ⟨⟨by dsimp only;omega,by dsimp only;omega,by simp;omega⟩,?_⟩ (by dsimp only;omega) tU rfl (by dsimp only;simp only [jP,List.length_append,List.length_cons,List.length_nil,Nat.zero_add];repeat (first | exact List.nil_sublist _ | apply List.Sublist.cons_cons))
   have e0 : (s.take (i + 1)).drop (i + 1) = []:=by simp
   dsimp only;rw [e0,← hcut];simp
  ·have hk2 : ¬ bt s i = k:=oM
   rw [if_neg hk] at hcut
   repeat' (first | refine jM ?_ | refine ac F (ay oM) ?_ | (refine ad F ?_ ?_;(focus ((simp;omega);done))))
   refine aY (u,xs,fr,i + 1) ⟨⟨by dsimp only;omega,by dsimp only;omega,by dsimp only;omega⟩,?_⟩ (by dsimp only;omega) tU rfl aZ
   dsimp only;rw [ht];exact hcut
 ·have e : bc k s = xs ++ [s.drop fr]:=by
   have ei : i = s.length:=oM
   rw [← Hi.2,ei,List.take_length,List.drop_length];rfl
  repeat' (first | refine jM ?_ | (refine jo ?_;first | refine jF fun _=>?_ | refine ng F F F F F F F F oM fun _=>?_) | refine ad F (aC oM) ?_)
  refine Nx.shp (.head _) fun hsh=>aP (vs:=[_]) F ⟨F,trivial⟩ F (List.Sublist.cons_cons _ (List.nil_sublist _)) ⟨F,?_,?_⟩
  ·rw [e,jP,List.length_append];rfl
  ·rw [e,List.length_append];exact hsh
def c8 (n : Int) : ac8 → Option Int
 | []=>some n
 | c :: r=>if 48 ≤ c.toNat ∧ c.toNat ≤ 57 then c8 (10 * n + ((c.toNat : Int) - 48)) r else none
def aR (s : ac8) (top : Int) : Option Int :=
 if s.length ≤ 6 then
  match c8 0 s with
  | some n=>if s = bz n ∧ n ≤ top then some n else none
  | none=>none
 else none
theorem wW (i : Nat) (hi : i ≤ 5) : (10 : Int) ^ (i + 1) = 10 * 10 ^ i ∧ (10 : Int) ^ i ≤ 100000 ∧ (0 : Int) < 10 ^ i:=by
 refine ⟨by rw [Int.pow_succ,Int.mul_comm],?_⟩
 rcases (show i = 0 ∨ i = 1 ∨ i = 2 ∨ i = 3 ∨ i = 4 ∨ i = 5 by omega) with rfl | rfl | rfl | rfl | rfl | rfl <;> decide
theorem hO {s : ac8} {top : Int} (h : s.length ≤ 100000000) : an ac7 151 [S s,I top] G (fun v=>∃ n,v = Tu [I n,Bo (aR s top).isSome] ∧ (∀ m,aR s top = some m → n = m)):=by
 refine jE [(0,_),(1,_)] Tryz.func151 Tryz.ntmps151 fun B hB=>?_
 repeat' (refine jR ?_)
 refine aT (ι:=Nat × Int) (fun i=>(i.1 ≤ s.length ∧ i.1 ≤ 6) ∧ (0 ≤ i.2 ∧ i.2 + 1 ≤ 10 ^ i.1) ∧ c8 i.2 (s.drop i.1) = c8 0 s) (fun i=>[(0,S s),(1,I top),(6,I i.2),(7,I i.1)]) (fun _=>G) (fun i=>[]) (fun i=>s.length - i.1) (0,0) ?_ tU F aZ (fun i Hi=>?_)
 ·exact ⟨⟨by dsimp only;omega,by dsimp only;omega⟩,⟨by dsimp only;omega,by dsimp only;decide⟩,rfl⟩
 obtain ⟨i,n⟩:=i
 dsimp only at Hi ⊢
 by_cases hi : i < s.length
 ·obtain ⟨c,hc1,hc2⟩:=fS hi
  have hc3 : bt s ((i : Int).toNat) = c.toNat:=hc2
  have hd:=Hi.2.2
  rw [hc1,c8] at hd
  by_cases h5 : i ≤ 5
  ·have hp:=wW i h5
   by_cases hdig : 48 ≤ c.toNat ∧ c.toNat ≤ 57
   ·rw [if_pos hdig] at hd
    repeat' (first | refine jM ?_ | (refine jo ?_;refine ar F ?_) | refine ak F F (aC oM) ?_ | refine ac F (ay oM) ?_ | refine ad F (aC oM) ?_)
    refine aY (i + 1,10 * n + ((c.toNat : Int) - 48)) ⟨⟨by dsimp only;omega,by dsimp only;omega⟩,⟨by dsimp only;omega,by dsimp only;rw [hp.1];omega⟩,hd⟩ (by dsimp only;omega) ?_ rfl aZ
    rw [← hc2];repeat (first | exact trivial | refine ⟨F,?_⟩)
   ·rw [if_neg hdig] at hd
    have hno : aR s top = none:=by unfold aR;rw [← hd];split <;> rfl
    repeat' (first | refine jM ?_ | (refine jo ?_;first | refine aG F ?_ | refine ar F ?_) | (refine ax F F (by first | rfl | (refine decide_eq_true ?_;(omega))) ?_) | refine dN F F (fun _=>?_) (fun _=>?_) | (refine ac F (by first | rfl | (refine decide_eq_true ?_;(omega))) ?_))
    all_goals refine jY (vs:=[_,_]) ?_
    all_goals exact ⟨_,by rw [hno];rfl,fun m hm=>by rw [hno] at hm;cases hm⟩
  ·have hno : aR s top = none:=by unfold aR;rw [if_neg oM]
   have e6 : i = 6:=oM
   subst e6
   repeat' (first | refine jM ?_ | (refine jo ?_;first | refine aG F ?_ | refine ar F ?_) | refine ax F F F ?_ | refine dN F F (fun _=>?_) (fun _=>?_) | (refine ac F (by first | rfl | (refine decide_eq_true ?_;(omega))) ?_))
   all_goals refine jY (vs:=[_,_]) ?_
   all_goals exact ⟨_,by rw [hno];rfl,fun m hm=>by rw [hno] at hm;cases hm⟩
 ·have ei : i = s.length:=oM
  have hd:=Hi.2.2
  rw [ei,List.drop_length,c8] at hd
  have hp : n ≤ 9223372036854775807:=by
   rcases Nat.lt_or_ge i 6 with h1 | h1
   ·have:=wW i oM;omega
   ·have e6 : i = 6:=oM
    subst e6
    have:=Hi.2.1.2
    have e : (10 : Int) ^ 6 = 1000000:=by decide
    omega
  have hno : aR s top = if s = bz n ∧ n ≤ top then some n else none:=by unfold aR;rw [if_pos oM,← hd]
  repeat' (first | refine jR ?_ | (refine jo ?_;first | refine aG F ?_ | refine ar F ?_ | refine ab F F F (eS oM) F ?_) | refine dN F F (fun _=>?_) (fun _=>?_) | refine ad F (aC oM) ?_)
  ·rename_i hs
   refine jY (vs:=[_,_]) ?_
   refine ⟨n,?_,fun m hm=>?_⟩
   ·rw [hno,dM]
    by_cases ht : n ≤ top
    ·rw [if_pos ⟨hs,ht⟩,decide_eq_true ht];rfl
    ·rw [if_neg (fun h=>ht h.2),decide_eq_false ht];rfl
   ·rw [hno] at hm
    split at hm
    ·exact Option.some.inj hm
    ·cases hm
  ·rename_i hs
   refine jY (vs:=[_,_]) ?_
   refine ⟨n,by rw [hno,if_neg (fun h=>hs h.1)];rfl,fun m hm=>?_⟩
   rw [hno,if_neg (fun h=>hs h.1)] at hm;cases hm
def bK (k s : ac8) : Bool :=
 if k = [110] then (aR s 999999).isSome && decide (s ≠ [48])
 else if k = [116] then df s && decide (s ≠ [39,39])
 else if k = [102] then decide (s = [121,101,115])
 else false
theorem wm {k s : ac8} (h : s.length ≤ 100000000) : an ac7 184 [S k,S s] G (· = Bo (bK k s)):=by
 by_cases h1 : k = [110]
 ·have e : bK k s = ((aR s 999999).isSome && decide (s ≠ [48])):=by rw [bK,if_pos h1]
  rw [e]
  refine jE [(0,_),(1,_)] Tryz.func184 Tryz.ntmps184 fun B hB=>?_
  repeat' (first | refine jR ?_ | (refine jo ?_;first | refine aG F ?_ | refine ar F ?_ | (refine cN F F F (hO oM) F ?_;rintro _ ⟨n,rfl,hnum⟩)) | refine jj F F (fun _=>?_) (fun _=>?_) | refine ac F (ay ‹_›) ?_)
  all_goals refine jY (vs:=[_]) ?_
  all_goals (rw [aw];simp [*])
 by_cases h2 : k = [116]
 ·have e : bK k s = (df s && decide (s ≠ [39,39])):=by rw [bK,if_neg h1,if_pos h2]
  rw [e]
  refine jE [(0,_),(1,_)] Tryz.func184 Tryz.ntmps184 fun B hB=>?_
  repeat' (first | refine jR ?_ | (refine jo ?_;first | refine aG F ?_ | refine ar F ?_ | refine ab F F F (e9 ‹_›) F ?_) | refine dN F F (fun _=>?_) (fun _=>?_) | refine ac F (ay ‹_›) ?_ | refine ad F (aC ‹_›) ?_)
  all_goals refine jY (vs:=[_]) ?_
  all_goals (rw [aw];simp [*,df])
 by_cases h3 : k = [102]
 ·have e : bK k s = decide (s = [121,101,115]):=by rw [bK,if_neg h1,if_neg h2,if_pos h3]
  rw [e]
  refine jE [(0,_),(1,_)] Tryz.func184 Tryz.ntmps184 fun B hB=>?_
  repeat' (first | refine jR ?_ | refine ac F (ay ‹_›) ?_ | refine ad F (aC ‹_›) ?_)
  all_goals refine jY (vs:=[_]) ?_
  all_goals rfl
 ·have e : bK k s = false:=by rw [bK,if_neg h1,if_neg h2,if_neg h3]
  rw [e]
  refine jE [(0,_),(1,_)] Tryz.func184 Tryz.ntmps184 fun B hB=>?_
  repeat' (first | refine jR ?_ | refine ad F (aC ‹_›) ?_)
  all_goals refine jY (vs:=[_]) ?_
  all_goals rfl
structure Fld where
 tag : Int
 name : ac8
 kind : ac8
 stand : ac8
deriving Inhabited
def g5 (f : Fld) : List Value:=[I f.tag,S f.name,S f.kind,S f.stand]
instance : RowF g5 4:=⟨fun _=>rfl⟩
def bU (s : ac8) (k : Nat) : Option Fld :=
 match bc 58 s with
 | [a,b]=>if k = 69 then
   match aR a 200 with
   | some n=>if 1 ≤ n ∧ ce b = true then some ⟨n,b,[],[]⟩ else none
   | none=>none
  else none
 | [a,b,c]=>if k = 69 then none else
   match aR a 200 with
   | some n=>if 1 ≤ n ∧ ce b = true then
     match bc 61 c with
     | [d]=>if bB d = true then some ⟨n,b,d,[]⟩ else none
     | [d,e]=>if k = 82 ∧ bK d e = true then some ⟨n,b,d,e⟩ else none
     | _=>none
    else none
   | none=>none
 | _=>none
theorem n8 {k : Nat} : ∀ {s acc : ac8} {x : ac8},x ∈ dI k acc s → x.length ≤ acc.length + s.length
 | [],acc,x,h=>by simp [dI] at h;subst h;simp
 | c :: r,acc,x,h=>by
  unfold dI at h
  split at h
  ·rcases List.mem_cons.1 h with rfl | h
   ·simp
   ·have:=n8 h;simp at this ⊢;omega
  ·have:=n8 h;simp at this ⊢;omega
theorem dn {k : Nat} {s x : ac8} (h : x ∈ bc k s) : x.length ≤ s.length:=by have:=n8 h;simpa using this
theorem od {k : Nat} : ∀ {s acc : ac8},0 < (dI k acc s).length
 | [],acc=>by simp [dI]
 | c :: r,acc=>by
  unfold dI
  split
  ·simp
  ·exact od
theorem dU {k : Nat} {s : ac8} : 0 < (bc k s).length:=od
theorem iI {k : Nat} : ∀ {s acc : ac8},(dI k acc s).length ≤ s.length + 1
 | [],acc=>by simp [dI]
 | c :: r,acc=>by
  unfold dI
  split
  ·have:=iI (k:=k) (s:=r) (acc:=[]);simp;omega
  ·have:=iI (k:=k) (s:=r) (acc:=acc ++ [c]);simp;omega
theorem kj {k : Nat} {s : ac8} : (bc k s).length ≤ s.length + 1:=iI
def aH (k : Nat) : ac8 → ac8 × ac8 × Bool
 | []=>([],[],false)
 | c :: r=>if c.toNat = k then ([],r,true) else (c :: (aH k r).1,(aH k r).2.1,(aH k r).2.2)
theorem dW (c : UInt8) (r : ac8) (i : Nat) : bt (c :: r) (i + 1) = bt r i:=by simp [bt,List.getD]
theorem bi (c : UInt8) (r : ac8) : bt (c :: r) 0 = c.toNat:=by simp [bt,List.getD]
theorem p6 {k : Nat} : ∀ {s : ac8},(∀ j,j < s.length → bt s j ≠ k) → aH k s = (s,[],false)
 | [],_=>rfl
 | c :: r,h=>by
  have h0:=h 0 (by simp)
  rw [bi] at h0
  have ih:=p6 (k:=k) (s:=r) fun j hj=>by have:=h (j + 1) (by simpa using hj);rwa [dW] at this
  rw [aH,if_neg h0,ih]
theorem m9 {k : Nat} : ∀ {s : ac8} {i : Nat},i < s.length → (∀ j,j < i → bt s j ≠ k) → bt s i = k → aH k s = (s.take i,s.drop (i + 1),true)
 | [],i,h,_,_=>by simp at h
 | c :: r,0,_,_,h=>by rw [bi] at h;rw [aH,if_pos h];rfl
 | c :: r,i + 1,hl,h,hi=>by
  have h0:=h 0 oM
  rw [bi] at h0
  rw [dW] at hi
  have ih:=m9 (k:=k) (s:=r) (i:=i) (by simpa using hl) (fun j hj=>by have:=h (j + 1) oM;rwa [dW] at this) hi
  rw [aH,if_neg h0,ih];rfl
structure Ty where
 sort : Nat
 name : ac8
 fields : List Fld
deriving Inhabited
def fresh (f : Fld) (fs : List Fld) : Bool:=fs.all fun g=>decide (g.tag < f.tag ∧ g.name ≠ f.name)
def cZ (k : Nat) : List ac8 → List Fld → Option (List Fld)
 | [],fs=>some fs
 | x :: xs,fs=>match bU x k with
  | none=>none
  | some f=>if fresh f fs = true then cZ k xs (fs ++ [f]) else none
def ec (k : Nat) : Prop:=k = 82 ∨ k = 85 ∨ k = 69
instance (k : Nat) : Decidable (ec k):=inferInstanceAs (Decidable (_ ∨ _ ∨ _))
def da : ac8 → Option Ty
 | []=>none
 | c :: r=>match aH 61 r with
  | (name,rest,true)=>if ce name = true ∧ ec c.toNat then
    if rest = [] then (if c.toNat = 82 then some ⟨82,name,[]⟩ else none)
    else match cZ c.toNat (bc 44 rest) [] with
     | some fs=>if fs.length ≤ 8 then some ⟨c.toNat,name,fs⟩ else none
     | none=>none
   else none
  | _=>none
def bJ : ac8 → Option ac8
 | []=>none
 | c :: r=>if c.toNat = 64 then some (r.take (r.length - 1)) else none
def gF (ts : List Ty) (name : ac8) : Option Ty:=ts.find? fun t=>decide (t.name = name)
def a7 (ts : List Ty) (k : ac8) : Option Ty:=(bJ k).bind (gF ts)
def fP (t : Ty) : ac8:=(t.fields.headD default).kind
def bV (ts : List Ty) : Nat → Ty → Bool
 | 0,_=>false
 | n + 1,t=>if t.sort ≠ 85 then true else match a7 ts (fP t) with
  | none=>true
  | some u=>bV ts n u
def en (ts : List Ty) (k : ac8) : Bool:=match bJ (br k) with
 | none=>true
 | some n=>(gF ts n).isSome
def kW (ts : List Ty) (i : Nat) : Prop:=∀ k,k < i → (ae ts k).name ≠ (ae ts i).name
def ib (ts : List Ty) (t : Ty) : Prop:=t.sort = 69 ∨ ∀ j,j < t.fields.length → en ts (ae t.fields j).kind = true
def iC (ts : List Ty) : Prop:=(∀ i,i < ts.length → kW ts i ∧ ib ts (ae ts i)) ∧ ∀ i,i < ts.length → bV ts (ts.length + 1) (ae ts i) = true
instance (ts : List Ty) (i : Nat) : Decidable (kW ts i):=inferInstanceAs (Decidable (∀ k,k < i → _))
instance (ts : List Ty) (t : Ty) : Decidable (ib ts t):=inferInstanceAs (Decidable (_ ∨ ∀ j,j < t.fields.length → _))
instance (ts : List Ty) : Decidable (iC ts):=inferInstanceAs (Decidable ((∀ i,i < ts.length → _) ∧ ∀ i,i < ts.length → _))
def b9 : List ac8 → Option (List Ty)
 | []=>some []
 | x :: xs=>match da x with
  | none=>none
  | some t=>(b9 xs).map (t :: ·)
def aQ (s : ac8) : Option (List Ty) :=
 if s.length ≤ 400 ∧ (bc 10 s).length ≤ 9 ∧ (bc 10 s).getLastD [] = [] then
  match b9 (bc 10 s).dropLast with
  | some ts=>if iC ts then some ts else none
  | none=>none
 else none
structure FldW (k : Nat) (f : Fld) : Prop where
 tag : 1 ≤ f.tag ∧ f.tag ≤ 200
 name : ce f.name = true
 kind : k ≠ 69 → bB f.kind = true
 enm : k = 69 → f.kind = [] ∧ f.stand = []
 stand : f.stand ≠ [] → k = 82 ∧ bK f.kind f.stand = true
theorem ee {s : ac8} {top n : Int} (h : aR s top = some n) : n ≤ top ∧ s = bz n ∧ s.length ≤ 6:=by
 unfold aR at h
 split at h
 ·split at h
  ·split at h
   ·rename_i h1 _ _ _ h2;simp only [Option.some.injEq] at h;subst h;exact ⟨h2.2,h2.1,h1⟩
   ·cases h
  ·cases h
 ·cases h
theorem l7 {k s : ac8} (h : bK k s = true) : bB k = true:=by
 unfold bK at h
 split at h
 ·subst_vars;decide
 ·split at h
  ·subst_vars;decide
  ·split at h
   ·subst_vars;decide
   ·cases h
theorem y3 {s : ac8} {k : Nat} {f : Fld} (h : bU s k = some f) : FldW k f:=by
 unfold bU at h
 split at h
 ·split at h
  ·rename_i hk
   split at h
   ·rename_i n hn
    split at h
    ·rename_i hg
     simp only [Option.some.injEq] at h;subst h
     exact ⟨⟨hg.1,(ee hn).1⟩,hg.2,fun h=>absurd hk h,fun _=>⟨F,F⟩,fun h=>absurd F h⟩
    ·cases h
   ·cases h
  ·cases h
 ·split at h
  ·cases h
  ·rename_i hk
   split at h
   ·rename_i n hn
    split at h
    ·rename_i hg
     split at h
     ·split at h
      ·rename_i hd
       simp only [Option.some.injEq] at h;subst h
       exact ⟨⟨hg.1,(ee hn).1⟩,hg.2,fun _=>hd,fun h=>absurd h hk,fun h=>absurd F h⟩
      ·cases h
     ·split at h
      ·rename_i hd
       simp only [Option.some.injEq] at h;subst h
       exact ⟨⟨hg.1,(ee hn).1⟩,hg.2,fun _=>l7 hd.2,fun h=>absurd h hk,fun _=>hd⟩
      ·cases h
     ·cases h
    ·cases h
   ·cases h
 ·cases h
structure TyW (t : Ty) : Prop where
 sort : ec t.sort
 name : ce t.name = true
 ne : t.sort ≠ 82 → t.fields ≠ []
 len : t.fields.length ≤ 8
 fld : ∀ f ∈ t.fields,FldW t.sort f
 asc : t.fields.Pairwise fun g f=>g.tag < f.tag ∧ g.name ≠ f.name
theorem pf {k : Nat} : ∀ {xs : List ac8} {fs gs : List Fld},cZ k xs fs = some gs → (∀ f ∈ fs,FldW k f) → fs.Pairwise (fun g f=>g.tag < f.tag ∧ g.name ≠ f.name) →
  (∀ f ∈ gs,FldW k f) ∧ gs.Pairwise (fun g f=>g.tag < f.tag ∧ g.name ≠ f.name) ∧ gs.length = fs.length + xs.length
 | [],fs,gs,h,h1,h2=>by
  simp only [cZ,Option.some.injEq] at h;subst h;exact ⟨h1,h2,by simp⟩
 | x :: xs,fs,gs,h,h1,h2=>by
  unfold cZ at h
  split at h
  ·cases h
  ·rename_i f hf
   split at h
   ·rename_i hfr
    simp only [fresh,List.all_eq_true,decide_eq_true_eq] at hfr
    have:=pf h (fun g hg=>by
     rcases List.mem_append.1 hg with hg | hg
     ·exact h1 g hg
     ·simp only [List.mem_singleton] at hg;subst hg;exact y3 hf) (List.pairwise_append.2 ⟨h2,by simp,fun a ha b hb=>by
      simp only [List.mem_singleton] at hb;subst hb;exact hfr a ha⟩)
    refine ⟨this.1,this.2.1,?_⟩
    rw [this.2.2];simp;omega
   ·cases h
theorem zO {s : ac8} {t : Ty} (h : da s = some t) : TyW t:=by
 unfold da at h
 split at h
 ·cases h
 ·split at h
  ·split at h
   ·rename_i hn
    split at h
    ·split at h
     ·simp only [Option.some.injEq] at h;subst h
      exact ⟨.inl F,hn.1,fun h=>absurd F h,by simp,by simp,by simp⟩
     ·cases h
    ·split at h
     ·rename_i fs hfs
      split at h
      ·rename_i hl
       simp only [Option.some.injEq] at h;subst h
       have hw:=pf hfs (by simp) (by simp)
       refine ⟨hn.2,hn.1,fun _ h0=>?_,hl,hw.1,hw.2.1⟩
       have:=hw.2.2
       dsimp only at h0
       rw [h0] at this
       have:=dU (k:=44) (s:=‹ac8›)
       simp at *;omega
      ·cases h
     ·cases h
   ·cases h
  ·cases h
theorem io : ∀ {xs : List ac8} {ts : List Ty},b9 xs = some ts → (∀ t ∈ ts,TyW t) ∧ ts.length = xs.length
 | [],ts,h=>by simp only [b9,Option.some.injEq] at h;subst h;simp
 | x :: xs,ts,h=>by
  unfold b9 at h
  split at h
  ·cases h
  ·rename_i t ht
   cases hr : b9 xs with
   | none=>rw [hr] at h;cases h
   | some us =>
    rw [hr] at h
    simp only [Option.map_some,Option.some.injEq] at h;subst h
    have:=io hr
    exact ⟨fun u hu=>by rcases List.mem_cons.1 hu with rfl | hu;exact zO ht;exact this.1 u hu,by simp [this.2]⟩
structure SchW (ts : List Ty) : Prop where
 ty : ∀ t ∈ ts,TyW t
 len : ts.length ≤ 8
 valid : iC ts
theorem cH {s : ac8} {ts : List Ty} (h : aQ s = some ts) : SchW ts:=by
 unfold aQ at h
 split at h
 ·rename_i hc
  split at h
  ·rename_i us hus
   split at h
   ·rename_i hv
    simp only [Option.some.injEq] at h;subst h
    have:=io hus
    exact ⟨this.1,by rw [this.2,List.length_dropLast];omega,hv⟩
   ·cases h
  ·cases h
 ·cases h
def aO (ts : List Ty) (k : ac8) : Bool:=bB k && en ts k
theorem vU {ts : List Ty} {n : ac8} {t : Ty} (h : gF ts n = some t) : t ∈ ts:=List.mem_of_find?_eq_some h
theorem cj {ts : List Ty} {k : ac8} {t : Ty} (h : a7 ts k = some t) : t ∈ ts:=by
 unfold a7 at h
 cases hr : bJ k with
 | none=>rw [hr] at h;cases h
 | some n=>rw [hr] at h;exact vU h
theorem ly (ts : List Ty) : ∀ (k : Nat) (t : Ty),bV ts k t = true → bV ts (k + 1) t = true
 | 0,t,h=>by cases h
 | k + 1,t,h=>by
  unfold bV at h ⊢
  split
  ·rfl
  ·rename_i hs
   rw [if_neg hs] at h
   cases hr : a7 ts (fP t) with
   | none=>rfl
   | some u=>rw [hr] at h;exact ly ts k u h
def eE (ts : List Ty) (k : Nat) : Prop:=∀ t ∈ ts,bV ts (k + 1) t = bV ts k t
theorem np {ts : List Ty} {k : Nat} (h : eE ts k) : eE ts (k + 1):=by
 intro t ht
 rw [bV,bV]
 split
 ·rfl
 ·cases hr : a7 ts (fP t) with
  | none=>rfl
  | some u=>exact h u (cj hr)
theorem oE {ts : List Ty} {k : Nat} (h : eE ts k) : ∀ (m : Nat) (t : Ty),t ∈ ts → bV ts (k + m) t = bV ts k t:=by
 have hs : ∀ m,eE ts (k + m):=fun m=>by
  induction m with
  | zero=>exact h
  | succ m ih=>exact np ih
 intro m t ht
 induction m with
 | zero=>rfl
 | succ m ih=>rw [← ih];exact hs m t ht
theorem sj {α : Type} {p q : α → Bool} : ∀ {l : List α},(∀ x ∈ l,p x = true → q x = true) → (∃ x ∈ l,q x = true ∧ p x = false) → l.countP p < l.countP q
 | [],_,h=>by obtain ⟨x,hx,_⟩:=h;cases hx
 | a :: l,h1,h2=>by
  have hle : ∀ l : List α,(∀ x ∈ l,p x = true → q x = true) → l.countP p ≤ l.countP q:=fun l h=>List.countP_mono_left h
  rw [List.countP_cons,List.countP_cons]
  have h3:=hle l fun x hx=>h1 x (List.mem_cons_of_mem _ hx)
  obtain ⟨x,hx,h4,h5⟩:=h2
  rcases List.mem_cons.1 hx with rfl | hx
  ·simp [h4,h5];omega
  ·have h6:=sj (fun x hx=>h1 x (List.mem_cons_of_mem _ hx)) ⟨x,hx,h4,h5⟩
   by_cases hp : p a = true
   ·simp [hp,h1 a (List.mem_cons_self ..) hp];exact h6
   ·simp [hp];split <;> omega
theorem ni {ts : List Ty} {k : Nat} (h : ¬ eE ts k) : ts.countP (bV ts k) < ts.countP (bV ts (k + 1)):=by
 refine sj (fun x _=>ly ts k x) ?_
 unfold eE at h
 simp only [Classical.not_forall] at h
 obtain ⟨t,ht,hne⟩:=h
 refine ⟨t,ht,?_⟩
 cases h1 : bV ts k t with
 | false =>
  refine ⟨?_,F⟩
  cases h2 : bV ts (k + 1) t with
  | false=>rw [h1,h2] at hne;exact absurd F hne
  | true=>rfl
 | true=>rw [ly ts k t h1,h1] at hne;exact absurd F hne
theorem vw (ts : List Ty) (k : Nat) : eE ts k ∨ k + 1 ≤ ts.countP (bV ts (k + 1)):=by
 induction k with
 | zero =>
  by_cases h : eE ts 0
  ·exact .inl h
  ·have:=ni h;exact .inr oM
 | succ k ih =>
  by_cases h : eE ts (k + 1)
  ·exact .inl h
  ·have:=ni h
   rcases ih with h3 | h3
   ·exact absurd (np h3) h
   ·exact .inr oM
theorem y5 {ts : List Ty} {t : Ty} (hl : ts.length ≤ 8) (ht : t ∈ ts) : bV ts 9 t = bV ts (ts.length + 1) t:=by
 have hs : eE ts ts.length:=by
  rcases vw ts ts.length with h | h
  ·exact h
  ·have:=List.countP_le_length (p:=bV ts (ts.length + 1)) (l:=ts)
   omega
 have h1:=oE hs (9 - ts.length) t ht
 have h2:=oE hs 1 t ht
 rw [show ts.length + (9 - ts.length) = 9 by omega] at h1
 rw [h1,h2]
def fw (k : Nat) (s : ac8) : Int:=if (aH k s).2.2 = true then ((aH k s).1.length : Int) else -1
theorem gv {k : Nat} : ∀ {s a b : ac8},aH k s = (a,b,true) → ∃ c : UInt8,c.toNat = k ∧ s = a ++ c :: b
 | [],a,b,h=>by simp [aH] at h
 | c :: r,a,b,h=>by
  unfold aH at h
  split at h
  ·rename_i hc
   simp only [Prod.mk.injEq,and_true] at h
   obtain ⟨rfl,rfl⟩:=h
   exact ⟨c,hc,F⟩
  ·simp only [Prod.mk.injEq] at h
   obtain ⟨rfl,h2,h3⟩:=h
   obtain ⟨d,hd,hr⟩:=gv (k:=k) (s:=r) (a:=(aH k r).1) (b:=b) (by rw [← h2,← h3])
   exact ⟨d,hd,by rw [List.cons_append,← hr]⟩
theorem eU {k : Nat} : ∀ {s : ac8},(aH k s).2.2 = false → aH k s = (s,[],false)
 | [],h=>rfl
 | c :: r,h=>by
  unfold aH at h ⊢
  split at h
  ·cases h
  ·rename_i hc
   rw [if_neg hc,eU (s:=r) h]
theorem jm {k : Nat} {s : ac8} : (aH k s).1.length ≤ s.length ∧ (aH k s).2.1.length ≤ s.length:=by
 cases h : (aH k s).2.2 with
 | false=>rw [eU h];simp
 | true =>
  obtain ⟨c,_,e⟩:=gv (k:=k) (s:=s) (a:=(aH k s).1) (b:=(aH k s).2.1) (by rw [← h])
  have:=congrArg List.length e
  simp at this
  omega
theorem pN (s : ac8) (c : UInt8) : Lib.indexByte s c = fw c.toNat s:=by
 induction s with
 | nil=>rfl
 | cons b r ih =>
  unfold Lib.indexByte
  by_cases hb : b = c
  ·subst hb;simp [fw,aH]
  ·have hb2 : ¬ b.toNat = c.toNat:=fun h=>hb (UInt8.toNat_inj.1 h)
   have hb3 : (b == c) = false:=by simpa using hb
   rw [hb3,ih]
   unfold fw
   rw [aH,if_neg hb2]
   dsimp only
   cases (aH c.toNat r).2.2 <;> simp
theorem sO {s : ac8} {c : UInt8} : an ac7 206 [S s,U8 c.toNat] G (· = I (fw c.toNat s)):=by
 have hx : ∀ w,(callFunc 216 [S s,U8 c.toNat].toArray).run ac7 w = .ok (.value (I (fw c.toNat s))) w:=fun w=>by
  rw [run_callFunc_extern Tryz.func216 kR kR kR (e:=Extern.BytealgIndexByte.indexByte) kR]
  have:=Lib.run_indexByteString (P:=ac7) ⟨s.toArray⟩ (c.toNat : Int) w
  rw [this]
  simp only [Result.andThen]
  rw [pN]
  simp
 refine jE [(0,_),(1,_)] Tryz.func206 Tryz.ntmps206 fun B hB=>?_
 repeat' (refine jR ?_)
 refine uG F (kx (nZ F F F hx) F F ?_)
 repeat' (refine jR ?_)
 refine jY (vs:=[_]) ?_
 rfl
theorem vH (c : UInt8) : fw c.toNat [c] = 0:=by simp [fw,aH]
theorem sN {s : ac8} {c : UInt8} : an ac7 186 [S s,S [c]] G (· = I (fw c.toNat s)):=by
 have e0 : ((bt [c] (Int.toNat 0) : Nat) : Int) = c.toNat:=by rw [show Int.toNat 0 = 0 from rfl,bi]
 by_cases hs : [c] = s
 ·subst hs
  rw [vH]
  refine jE [(0,_),(1,_)] Tryz.func186 Tryz.ntmps186 fun B hB=>?_
  repeat' (first | refine jR ?_ | (refine jo ?_;refine ar F ?_) | refine ak F F F ?_ | refine ac F (ay F) ?_)
  all_goals refine jY (vs:=[_]) ?_
  all_goals rfl
 ·have cx_ib : an ac7 206 [S s,U8 (bt [c] (Int.toNat 0))] G (· = I (fw c.toNat s)):=by rw [show (bt [c] (Int.toNat 0)) = c.toNat from bi c []];exact sO
  refine jE [(0,_),(1,_)] Tryz.func186 Tryz.ntmps186 fun B hB=>?_
  repeat' (first | refine jX ?_ | (refine jo ?_;first | refine ar F ?_ | refine ab F F F cx_ib F ?_) | refine ak F F F ?_ | refine ac F F ?_ | refine ad F (aC ‹_›) ?_)
  all_goals refine jY (vs:=[_]) ?_
  all_goals rfl
theorem ug {s : ac8} {c : UInt8} : an ac7 187 [S s,S [c]] G (· = I (fw c.toNat s)):=by
 refine jE [(0,_),(1,_)] Tryz.func187 Tryz.ntmps187 fun B hB=>?_
 repeat' (first | refine jR ?_ | (refine jo ?_;refine ab F F F sN F ?_))
 refine jY (vs:=[_]) ?_
 rfl
theorem pa (k : Nat) (s : ac8) : (fw k s = -1 ∧ aH k s = (s,[],false)) ∨ ∃ i : Nat,fw k s = i ∧ i < s.length ∧ aH k s = (s.take i,s.drop (i + 1),true):=by
 cases h : (aH k s).2.2 with
 | false=>exact .inl ⟨by simp [fw,h],eU h⟩
 | true =>
  obtain ⟨c,_,e⟩:=gv (k:=k) (s:=s) (a:=(aH k s).1) (b:=(aH k s).2.1) (by rw [← h])
  have h5 : aH k s = ((aH k s).1,(aH k s).2.1,true):=by rw [← h]
  have h6 : fw k s = ((aH k s).1.length : Int):=by simp [fw,h]
  generalize (aH k s).1 = a at *
  generalize (aH k s).2.1 = b at *
  refine .inr ⟨a.length,h6,?_,?_⟩
  ·have:=congrArg List.length e
   simp at this
   omega
  ·rw [h5,e];simp
theorem abo {s : ac8} {c : UInt8} (h : s.length ≤ 9000000000000000000) : an ac7 160 [S s,S [c]] G (· = Tu [S (aH c.toNat s).1,S (aH c.toNat s).2.1,Bo (aH c.toNat s).2.2]):=by
 have hix:=sN (G:=G) (s:=s) (c:=c)
 rcases pa c.toNat s with ⟨h1,h2⟩ | ⟨i,h1,h3,h2⟩
 ·rw [h2]
  have cx_ix : an ac7 186 [S s,S [c]] G (· = I (-1)):=by rwa [h1] at hix
  refine jE [(0,_),(1,_)] Tryz.func160 Tryz.ntmps160 fun B hB=>?_
  repeat' (first | refine jR ?_ | (refine jo ?_;refine ab F F F cx_ix F ?_) | refine ad F F ?_)
  all_goals refine jY (vs:=[_,_,_]) ?_
  all_goals rfl
 ·rw [h2]
  have cx_ix : an ac7 186 [S s,S [c]] G (· = I (i : Int)):=by rwa [h1] at hix
  have e2 : ((i : Int) + (([c] : ac8).length : Nat)).toNat = i + 1:=by simp only [List.length_cons,List.length_nil];omega
  refine jE [(0,_),(1,_)] Tryz.func160 Tryz.ntmps160 fun B hB=>?_
  repeat' (first | refine jR ?_ | (refine jo ?_;refine ab F F F cx_ix F ?_) | refine ac F F ?_ | (refine aj (am (id:=3) _ (fun _ h=>h) ai ?_);refine jW 0 [0,1,2,3,4,5,6,7,8,9,10,11] (aa 12 4095) ?_;refine jQ ?_))
  all_goals refine jY (vs:=[_,_,_]) ?_
  all_goals (rfl)
theorem pw {s : ac8} {c : UInt8} (h : s.length ≤ 9000000000000000000) : an ac7 120 [S s,S [c]] G (· = Tu [S (aH c.toNat s).1,S (aH c.toNat s).2.1,Bo (aH c.toNat s).2.2]):=by
 refine jE [(0,_),(1,_)] Tryz.func120 Tryz.ntmps120 fun B hB=>?_
 repeat' (first | refine jR ?_ | (refine jo ?_;refine ab F F F (abo oM) F ?_))
 all_goals refine jY (vs:=[_,_,_]) ?_
 all_goals rfl
theorem va {s : ac8} {c : UInt8} : an ac7 161 [S s,S [c]] G (· = Bo (decide (0 ≤ fw c.toNat s))):=by
 refine jE [(0,_),(1,_)] Tryz.func161 Tryz.ntmps161 fun B hB=>?_
 repeat' (first | refine jR ?_ | (refine jo ?_;refine ab F F F ug F ?_))
 all_goals refine jY (vs:=[_]) ?_
 all_goals rfl
def fy (k : Nat) (s : ac8) : Prop:=∀ c ∈ s,c.toNat ≠ k
def aV (c : UInt8) : List ac8 → ac8
 | []=>[]
 | [x]=>x
 | x :: y :: r=>x ++ c :: aV c (y :: r)
theorem ll (c : UInt8) (x : ac8) {xs : List ac8} (h : xs ≠ []) : aV c (x :: xs) = x ++ c :: aV c xs:=by
 cases xs with
 | nil=>exact absurd F h
 | cons y r=>rfl
theorem kl {c : UInt8} : ∀ {s acc : ac8},fy c.toNat acc → aV c (dI c.toNat acc s) = acc ++ s ∧ ∀ x ∈ dI c.toNat acc s,fy c.toNat x
 | [],acc,h=>by simp [dI,aV];exact h
 | d :: r,acc,h=>by
  unfold dI
  split
  ·rename_i hd
   have hd : d = c:=UInt8.toNat_inj.1 hd
   subst hd
   have ih:=kl (c:=d) (s:=r) (acc:=[]) (by intro x hx;cases hx)
   have hp : dI d.toNat [] r ≠ []:=fun e=>by have:=od (k:=d.toNat) (s:=r) (acc:=[]);rw [e] at this;simp at this
   refine ⟨by rw [ll d acc hp,ih.1];rfl,fun x hx=>?_⟩
   rcases List.mem_cons.1 hx with rfl | hx
   ·exact h
   ·exact ih.2 x hx
  ·rename_i hd
   have ih:=kl (c:=c) (s:=r) (acc:=acc ++ [d]) (by
    intro x hx
    rcases List.mem_append.1 hx with hx | hx
    ·exact h x hx
    ·simp only [List.mem_singleton] at hx;subst hx;exact hd)
   exact ⟨by rw [ih.1];simp,ih.2⟩
theorem n9 (c : UInt8) (s : ac8) : aV c (bc c.toNat s) = s:=by have:=(kl (c:=c) (s:=s) (acc:=[]) (by intro x hx;cases hx)).1;simpa [bc] using this
theorem zb {c : UInt8} {s x : ac8} (h : x ∈ bc c.toNat s) : fy c.toNat x:=(kl (c:=c) (s:=s) (acc:=[]) (by intro x hx;cases hx)).2 x h
theorem oc {k : Nat} : ∀ {s acc t : ac8},fy k s → dI k acc (s ++ t) = dI k (acc ++ s) t
 | [],acc,t,_=>by simp
 | d :: r,acc,t,h=>by
  rw [List.cons_append,dI,if_neg (h d (by simp)),oc (fun c hc=>h c (by simp [hc]))];simp
theorem pj {k : Nat} {s : ac8} (h : fy k s) : bc k s = [s]:=by
 have:=oc (k:=k) (s:=s) (acc:=[]) (t:=[]) h
 simpa [bc,dI] using this
theorem p5 {k : Nat} {s t : ac8} {c : UInt8} (h : fy k s) (hc : c.toNat = k) : bc k (s ++ c :: t) = s :: bc k t:=by
 unfold bc
 rw [oc h,dI,if_pos hc];rfl
theorem nY {c : UInt8} : ∀ {xs : List ac8},xs ≠ [] → (∀ x ∈ xs,fy c.toNat x) → bc c.toNat (aV c xs) = xs
 | [],h,_=>absurd rfl h
 | [x],_,h=>pj (h x (by simp))
 | x :: y :: r,_,h=>by
  rw [aV,p5 (h x (by simp)) rfl,nY (by simp) fun z hz=>h z (by simp at hz ⊢;exact .inr hz)]
theorem xc {k : Nat} {s t : ac8} {c : UInt8} (h : fy k s) (hc : c.toNat = k) : aH k (s ++ c :: t) = (s,t,true):=by
 induction s with
 | nil=>rw [List.nil_append,aH,if_pos hc]
 | cons d r ih=>rw [List.cons_append,aH,if_neg (h d (by simp)),ih fun x hx=>h x (by simp [hx])]
theorem si {k : Nat} {s : ac8} (h : fy k s) : aH k s = (s,[],false):=by
 induction s with
 | nil=>rfl
 | cons d r ih=>rw [aH,if_neg (h d (by simp)),ih fun x hx=>h x (by simp [hx])]
theorem oe {k : Nat} : ∀ {s : ac8},fy k (aH k s).1
 | []=>by intro c hc;cases hc
 | d :: r=>by
  unfold aH
  split
  ·intro c hc;cases hc
  ·rename_i hd
   intro c hc
   rcases List.mem_cons.1 hc with rfl | hc
   ·exact hd
   ·exact oe c hc
theorem lA {k : Nat} (s : ac8) : bc k s = if (aH k s).2.2 = true then (aH k s).1 :: bc k (aH k s).2.1 else [s]:=by
 cases h : (aH k s).2.2 with
 | false =>
  rw [if_neg (by simp)]
  have h1:=eU h
  refine pj ?_
  have:=oe (k:=k) (s:=s)
  rwa [h1] at this
 | true =>
  rw [if_pos rfl]
  obtain ⟨c,hc,e⟩:=gv (k:=k) (s:=s) (a:=(aH k s).1) (b:=(aH k s).2.1) (by rw [← h])
  conv=>{ lhs;rw [e] }
  exact p5 oe hc
theorem lm {s : ac8} {k : Nat} (h : ce s = true) (hk : k < 97) : fy k s:=by
 intro c hc
 simp only [ce,Bool.and_eq_true,List.all_eq_true] at h
 have:=h.1 c hc
 simp only [ka,decide_eq_true_eq] at this
 omega
theorem se {n m : Int} : ∀ {s : ac8},c8 n s = some m → ∀ c ∈ s,48 ≤ c.toNat ∧ c.toNat ≤ 57
 | [],_,c,hc=>by cases hc
 | d :: r,h,c,hc=>by
  unfold c8 at h
  split at h
  ·rename_i hd
   rcases List.mem_cons.1 hc with rfl | hc
   ·exact hd
   ·exact se h c hc
  ·cases h
theorem qp {s : ac8} {top n : Int} (h : aR s top = some n) : ∀ c ∈ s,48 ≤ c.toNat ∧ c.toNat ≤ 57:=by
 unfold aR at h
 split at h
 ·split at h
  ·rename_i hd;exact se hd
  ·cases h
 ·cases h
theorem mm {s : ac8} {top n : Int} {k : Nat} (h : aR s top = some n) (hk : 57 < k) : fy k s:=fun c hc=>by
 have:=qp h c hc;omega
theorem vG {s : ac8} (h : df s = true) {c : UInt8} (hc : c ∈ s) : c.toNat = 39 ∨ iK c.toNat:=by
 unfold df at h
 simp only [decide_eq_true_eq] at h
 obtain ⟨h1,h2,h3,h4⟩:=h
 obtain ⟨i,hi,rfl⟩:=List.mem_iff_getElem.1 hc
 have e : bt s i = (s[i]).toNat:=by simp [bt,List.getD,List.getElem?_eq_getElem hi]
 rw [← e]
 rcases Nat.lt_or_ge i (s.length - 1) with h5 | h5
 ·rcases h4 i h5 with h6 | h6
  ·subst h6;exact .inl h2
  ·exact .inr h6
 ·have : i = s.length - 1:=oM
  subst this;exact .inl h3
theorem nn {d v : ac8} {k : Nat} (h : bK d v = true) (hk : k = 58 ∨ k = 61) : fy k v:=by
 intro c hc
 unfold bK at h
 split at h
 ·simp only [Bool.and_eq_true] at h
  obtain ⟨n,hn⟩:=Option.isSome_iff_exists.1 h.1
  have:=qp hn c hc;omega
 ·split at h
  ·simp only [Bool.and_eq_true] at h
   have:=vG h.1 hc
   unfold iK at this;omega
  ·split at h
   ·simp only [decide_eq_true_eq] at h
    subst h
    simp only [List.mem_cons,List.not_mem_nil,or_false] at hc
    rcases hc with rfl | rfl | rfl <;> (rcases hk with rfl | rfl <;> decide)
   ·cases h
theorem lC : ∀ s : ac8,(br s).length ≤ s.length
 | []=>Nat.le_refl _
 | c :: r=>by
  unfold br
  split
  ·have:=lC r;simp;omega
  ·exact Nat.le_refl _
def sg (s : ac8) : ac8:=s.take (s.length - (br s).length)
def px : ac8 → ac8
 | []=>[]
 | c :: r=>if c.toNat = 64 then [64] else c :: r
def bs (s : ac8) : ac8:=px (br s)
def nm (s : ac8) : ac8:=(bJ (br s)).getD []
theorem tH {k : Nat} (hk : k = 58 ∨ k = 61) : ∀ {s : ac8},d1 s = true → fy k s
 | [],h=>by cases h
 | c :: r,h=>by
  unfold d1 at h
  split at h
  ·rename_i hc
   intro d hd
   rcases List.mem_cons.1 hd with rfl | hd
   ·omega
   ·exact tH hk h d hd
  ·split at h
   ·rename_i hc
    simp only [Bool.and_eq_true,decide_eq_true_eq] at h
    intro d hd
    rcases List.mem_cons.1 hd with rfl | hd
    ·omega
    ·obtain ⟨i,hi,rfl⟩:=List.mem_iff_getElem.1 hd
     rcases Nat.lt_or_ge i (r.length - 1) with h5 | h5
     ·refine lm h.2 oM _ ?_
      exact List.mem_iff_getElem.2 ⟨i,by simp;omega,by simp⟩
     ·have h1 : bt (c :: r) r.length = 59:=oM
      have e : i = r.length - 1:=oM
      obtain ⟨m,hm⟩ : ∃ m,r.length = m + 1:=⟨r.length - 1,oM⟩
      rw [hm,dW] at h1
      have : bt r m = (r[m]'oM).toNat:=by simp [bt,List.getD,List.getElem?_eq_getElem (show m < r.length by omega)]
      have e2 : i = m:=oM
      subst e2
      omega
   ·simp only [Bool.and_eq_true,Bool.or_eq_true,decide_eq_true_eq] at h
    intro d hd
    obtain ⟨rfl,h⟩:=h
    simp only [List.mem_singleton] at hd
    subst hd;omega
theorem gC {k : Nat} (hk : k = 58 ∨ k = 61) {s : ac8} (h : bB s = true) : fy k s:=by
 unfold bB at h;simp only [Bool.and_eq_true] at h;exact tH hk h.2
def mA (s : ac8) (k : Nat) : Option Fld :=
 match bc 58 (aH 61 s).1 with
 | [a,b]=>if k = 69 ∧ (aH 61 s).2.2 = false then
   match aR a 200 with
   | some n=>if 1 ≤ n ∧ ce b = true then some ⟨n,b,[],[]⟩ else none
   | none=>none
  else none
 | [a,b,c]=>if k = 69 then none else
   match aR a 200 with
   | some n=>if (1 ≤ n ∧ ce b = true) ∧ bB c = true ∧ ((aH 61 s).2.2 = true → k = 82 ∧ bK c (aH 61 s).2.1 = true) then some ⟨n,b,c,(aH 61 s).2.1⟩ else none
   | none=>none
 | _=>none
theorem fO {k : Nat} {a b : ac8} : fy k (a ++ b) ↔ fy k a ∧ fy k b:=by
 constructor
 ·intro h;exact ⟨fun c hc=>h c (by simp [hc]),fun c hc=>h c (by simp [hc])⟩
 ·intro h c hc
  rcases List.mem_append.1 hc with hc | hc
  ·exact h.1 c hc
  ·exact h.2 c hc
theorem gV {k : Nat} {c : UInt8} {b : ac8} : fy k (c :: b) ↔ c.toNat ≠ k ∧ fy k b:=by
 constructor
 ·intro h;exact ⟨h c (by simp),fun d hd=>h d (by simp [hd])⟩
 ·intro h d hd
  rcases List.mem_cons.1 hd with rfl | hd
  ·exact h.1
  ·exact h.2 d hd
theorem uS {s : ac8} {xs : List ac8} (h : bc 58 s = xs) : s = aV 58 xs ∧ ∀ x ∈ xs,fy 58 x:=by
 subst h
 exact ⟨(n9 58 s).symm,fun x hx=>zb (c:=58) hx⟩
theorem pS (s : ac8) (k : Nat) : mA s k = bU s k:=by
 apply Option.ext
 intro f
 constructor
 ·intro h
  unfold mA at h
  split at h
  ·rename_i a b e
   split at h
   ·rename_i hk
    have hs:=eU hk.2
    rw [hs] at e
    unfold bU
    rw [e]
    simp only [hk.1,if_true]
    exact h
   ·cases h
  ·rename_i a b c e
   split at h
   ·cases h
   ·rename_i hk
    split at h
    ·rename_i n hn
     split at h
     ·rename_i hg
      simp only [Option.some.injEq] at h;subst h
      cases ht : (aH 61 s).2.2 with
      | false =>
       have hs:=eU ht
       rw [hs] at e ⊢
       have hc61 : bc 61 c = [c]:=pj (gC (.inr rfl) hg.2.1)
       unfold bU
       rw [e]
       simp [hk,hn,hg.1.1,hg.1.2,hc61,hg.2.1]
      | true =>
       have hst:=hg.2.2 ht
       obtain ⟨d,hd,es⟩:=gv (k:=61) (s:=s) (a:=(aH 61 s).1) (b:=(aH 61 s).2.1) (by rw [← ht])
       generalize (aH 61 s).1 = hd1 at *
       generalize (aH 61 s).2.1 = v at *
       have hd : d = 61:=UInt8.toNat_inj.1 hd
       subst hd
       obtain ⟨e1,e2⟩:=uS e
       have e3 : s = aV 58 [a,b,c ++ 61 :: v]:=by rw [es,e1];simp [aV]
       have e4 : bc 58 s = [a,b,c ++ 61 :: v]:=by
        rw [e3]
        refine nY (c:=58) (by simp) fun x hx=>?_
        simp only [List.mem_cons,List.not_mem_nil,or_false] at hx
        rcases hx with rfl | rfl | rfl
        ·exact e2 _ (by simp)
        ·exact e2 _ (by simp)
        ·exact fO.2 ⟨e2 _ (by simp),gV.2 ⟨by decide,nn hst.2 (.inl F)⟩⟩
       have e5 : bc 61 (c ++ 61 :: v) = [c,v]:=by
        rw [p5 (k:=61) (gC (.inr rfl) hg.2.1) rfl,pj (nn hst.2 (.inr rfl))]
       unfold bU
       rw [e4]
       simp [hk,hn,hg.1.1,hg.1.2,e5,hst.1,hst.2]
     ·cases h
    ·cases h
  ·cases h
 ·intro h
  unfold bU at h
  split at h
  ·rename_i a b e
   split at h
   ·rename_i hk
    split at h
    ·rename_i n hn
     split at h
     ·rename_i hg
      obtain ⟨e1,e2⟩:=uS e
      have hno : fy 61 s:=by rw [e1];simp only [aV];exact fO.2 ⟨mm hn oM,gV.2 ⟨by decide,lm hg.2 oM⟩⟩
      unfold mA
      rw [si hno,e]
      simp only [hk,hn,hg,and_self,if_true]
      exact h
     ·cases h
    ·cases h
   ·cases h
  ·rename_i a b c e
   split at h
   ·cases h
   ·rename_i hk
    split at h
    ·rename_i n hn
     split at h
     ·rename_i hg
      obtain ⟨e1,e2⟩:=uS e
      split at h
      ·rename_i d e3
       split at h
       ·rename_i hd
        simp only [Option.some.injEq] at h;subst h
        have e4 : c = d:=by have:=n9 61 c;rw [show (61 : UInt8).toNat = 61 from rfl,e3] at this;exact this.symm
        subst e4
        have hno : fy 61 s:=by rw [e1];simp only [aV];exact fO.2 ⟨mm hn oM,gV.2 ⟨by decide,fO.2 ⟨lm hg.2 oM,gV.2 ⟨by decide,gC (.inr F) hd⟩⟩⟩⟩
        unfold mA
        rw [si hno,e]
        simp [hk,hn,hg.1,hg.2,hd]
       ·cases h
      ·rename_i d v e3
       split at h
       ·rename_i hd
        simp only [Option.some.injEq] at h;subst h
        have e4 : c = d ++ 61 :: v:=by have:=n9 61 c;rw [show (61 : UInt8).toNat = 61 from rfl,e3] at this;exact this.symm
        subst e4
        have hkd:=l7 hd.2
        have es : s = aV 58 [a,b,d] ++ 61 :: v:=by rw [e1];simp [aV]
        have hno : fy 61 (aV 58 [a,b,d]):=by simp only [aV];exact fO.2 ⟨mm hn oM,gV.2 ⟨by decide,fO.2 ⟨lm hg.2 oM,gV.2 ⟨by decide,gC (.inr F) hkd⟩⟩⟩⟩
        have e5 : bc 58 (aV 58 [a,b,d]) = [a,b,d]:=by
         refine nY (c:=58) (by simp) fun x hx=>?_
         simp only [List.mem_cons,List.not_mem_nil,or_false] at hx
         rcases hx with rfl | rfl | rfl
         ·exact e2 _ (by simp)
         ·exact e2 _ (by simp)
         ·exact gC (.inl F) hkd
        unfold mA
        rw [es,xc (k:=61) hno rfl,e5]
        simp [hn,hg.1,hg.2,hkd,hd.1,hd.2]
       ·cases h
      ·cases h
     ·cases h
    ·cases h
  ·cases h
def tag0 (t : Ty) : Int:=(t.fields.headD default).tag
def cE (ts : List Ty) : Nat → ac8 → ac8
 | 0,_=>[]
 | _ + 1,[]=>[]
 | n + 1,c :: r=>if c.toNat = 91 then [91,93] else if c.toNat = 63 then [45] else
   match a7 ts (c :: r) with
   | none=>fK (c :: r)
   | some t=>if t.sort = 82 then [123,125] else if t.sort = 69 then 35 :: bz (tag0 t) else 60 :: (bz (tag0 t) ++ 61 :: (cE ts n (fP t) ++ [62]))
def rn (ts : List Ty) (k : ac8) : ac8:=cE ts (ts.length + 2) k
def cW (ts : List Ty) (f : Fld) : ac8:=if f.stand = [] then rn ts f.kind else f.stand
def bR (fs : List Fld) (tag : Int) : Option Fld:=fs.find? fun f=>decide (f.tag = tag)
structure AskW (ts us : List Ty) (m : List Pr) : Prop where
 nd : m.Nodup
 mem : ∀ p ∈ m,(∃ t ∈ ts,t.name = p.1) ∧ ∃ u ∈ us,u.name = p.2
theorem AskW.nil {ts us : List Ty} : AskW ts us []:=⟨List.nodup_nil,by simp⟩
theorem rE {α : Type} [DecidableEq α] : ∀ {l l' : List α},l.Nodup → (∀ x ∈ l,x ∈ l') → l.length ≤ l'.length
 | [],_,_,_=>Nat.zero_le _
 | a :: l,l',hn,hs=>by
  rw [List.nodup_cons] at hn
  have ha:=hs a (.head _)
  have:=rE (l:=l) (l':=l'.erase a) hn.2 fun x hx=>by
   have hx':=hs x (.tail _ hx)
   exact (List.mem_erase_of_ne (fun e=>hn.1 (by rw [← e];exact hx))).2 hx'
  rw [List.length_erase_of_mem ha] at this
  have hp : 0 < l'.length:=List.length_pos_of_mem ha
  simp only [List.length_cons];omega
theorem AskW.len {ts us : List Ty} {m : List Pr} (h : AskW ts us m) : m.length ≤ ts.length * us.length:=by
 have h1 : m.length ≤ (ts.flatMap fun t=>us.map fun u=>(t.name,u.name)).length:=rE h.nd fun p hp=>by
  obtain ⟨⟨t,ht,e1⟩,u,hu,e2⟩:=h.mem p hp
  exact List.mem_flatMap.2 ⟨t,ht,List.mem_map.2 ⟨u,hu,by rw [e1,e2]⟩⟩
 have h2 : ∀ ts : List Ty,(ts.flatMap fun t=>us.map fun u=>(t.name,u.name)).length = ts.length * us.length:=fun ts=>by
  induction ts with
  | nil=>simp
  | cons t ts ih=>rw [List.flatMap_cons,List.length_append,ih,List.length_map,List.length_cons,Nat.succ_mul,Nat.add_comm]
 rw [h2] at h1;exact h1
theorem mr {ts : List Ty} {k : ac8} (h : aO ts k = true) (hr : (bJ (br k)).isSome = true) : ∃ t,a7 ts (br k) = some t:=by
 unfold aO en at h
 unfold a7
 cases hc : bJ (br k) with
 | none=>rw [hc] at hr;cases hr
 | some n =>
  rw [hc] at h
  simp only [Bool.and_eq_true] at h
  obtain ⟨_,h⟩:=h
  exact Option.isSome_iff_exists.1 h
inductive V where
 | nd (what : Nat) (text : ac8) (tag : Int) (kids : List V)
instance : Inhabited V:=⟨.nd 0 [] 0 []⟩
def V.what : V → Nat | .nd w _ _ _=>w
def V.text : V → ac8 | .nd _ x _ _=>x
def V.tag : V → Int | .nd _ _ t _=>t
def dp (w : Nat) (x : ac8) (t : Int) (e : Bool) (j : ac8) : ac8 :=
 if w = 116 then 39 :: (x ++ [39]) else if w = 91 then 91 :: (j ++ [93]) else if w = 63 then (if e = true then [45] else 43 :: j)
 else if w = 61 then bz t ++ 61 :: j else if w = 82 then 123 :: (j ++ [125]) else if w = 85 then 60 :: (bz t ++ 61 :: (j ++ [62])) else if w = 69 then 35 :: bz t else x
mutual
def V.out : V → ac8
 | .nd w x t ks=>dp w x t ks.isEmpty (aV 44 (V.outs ks))
def V.outs : List V → List ac8
 | []=>[]
 | v :: r=>V.out v :: V.outs r
end
mutual
def V.deep : V → Nat
 | .nd w _ _ ks=>if w = 61 then V.deeps ks else V.deeps ks + 1
def V.deeps : List V → Nat
 | []=>0
 | v :: r=>max (V.deep v) (V.deeps r)
end
def abF (w : Nat) (e : Bool) : Bool:=(decide (w = 110) || decide (w = 116) || decide (w = 102) || decide (w = 69)) || (decide (w = 63) && e)
mutual
def V.size : V → Nat
 | .nd w _ _ ks=>if abF w ks.isEmpty = true then 1 else V.sizes ks
def V.sizes : List V → Nat
 | []=>0
 | v :: r=>V.size v + V.sizes r
end
theorem V.outs_map : ∀ ks : List V,V.outs ks = ks.map V.out
 | []=>rfl
 | v :: r=>by rw [V.outs,V.outs_map r];rfl
def a8 (c : UInt8) : Bool:=decide (48 ≤ c.toNat ∧ c.toNat ≤ 57)
def cm (top : Int) (s : ac8) : Option (Int × ac8):=(aR (s.takeWhile a8) top).map fun n=>(n,s.dropWhile a8)
def bh (f : ac8 → Option (V × ac8)) : Nat → ac8 → List V → Option (List V × ac8)
 | 0,_,_=>none
 | m + 1,s,acc=>match f s with
  | none=>none
  | some (v,r)=>match r with
   | []=>none
   | c :: r'=>if c.toNat = 44 then bh f m r' (acc ++ [v]) else if c.toNat = 93 then some (acc ++ [v],r') else none
def aU (f : ac8 → ac8 → Option (V × ac8)) (t : Ty) (s : ac8) : Option ((Fld × V) × ac8) :=
 match cm 200 s with
 | none=>none
 | some (n,r)=>match bR t.fields n with
  | none=>none
  | some d=>match r with
   | []=>none
   | c :: r'=>if c.toNat = 61 then (f d.kind r').map fun x=>((d,x.1),x.2) else none
def bH (ts : List Ty) (f : ac8 → ac8 → Option (V × ac8)) (t : Ty) : Nat → Int → ac8 → List V → Option (List V × ac8)
 | 0,_,_,_=>none
 | m + 1,last,s,acc=>match aU f t s with
  | none=>none
  | some ((d,v),r)=>if d.tag ≤ last ∨ v.out = cW ts d then none else match r with
   | []=>none
   | c :: r'=>if c.toNat = 44 then bH ts f t m d.tag r' (acc ++ [.nd 61 [] d.tag [v]]) else if c.toNat = 125 then some (acc ++ [.nd 61 [] d.tag [v]],r') else none
def a9 (ts : List Ty) (f : ac8 → ac8 → Option (V × ac8)) (t : Ty) : ac8 → Option (V × ac8)
 | []=>none
 | c :: s=>if t.sort = 82 then
   (if c.toNat = 123 then (match s with
    | []=>none
    | c' :: r=>if c'.toNat = 125 then some (.nd 82 [] 0 [],r) else (bH ts f t (s.length + 1) 0 s []).map fun x=>(.nd 82 [] 0 x.1,x.2)) else none)
  else if t.sort = 69 then
   (if c.toNat = 35 then (match cm 200 s with
    | none=>none
    | some (n,r)=>if (bR t.fields n).isSome = true then some (.nd 69 [] n [],r) else none) else none)
  else if c.toNat = 60 then (match aU f t s with
    | none=>none
    | some ((d,v),r)=>match r with
     | []=>none
     | c' :: r'=>if c'.toNat = 62 then some (.nd 85 [] d.tag [v],r') else none)
   else none
def dm : ac8 → Option (V × ac8)
 | []=>none
 | c :: s=>if c.toNat = 39 then (match aH 39 s with
   | (x,r,true)=>if df (39 :: (x ++ [39])) = true then some (.nd 116 x 0 [],r) else none
   | _=>none) else none
def dZ (s : ac8) : Option (V × ac8) :=
 if [121,101,115].isPrefixOf s = true then some (.nd 102 [121,101,115] 0 [],s.drop 3) else if [110,111].isPrefixOf s = true then some (.nd 102 [110,111] 0 [],s.drop 2) else none
def eJ (ts : List Ty) (f : ac8 → ac8 → Option (V × ac8)) : ac8 → ac8 → Option (V × ac8)
 | [],_=>none
 | c :: k,s =>
  if c.toNat = 91 then (match s with
   | []=>none
   | d :: s'=>if d.toNat = 91 then (match s' with
     | []=>none
     | e :: r=>if e.toNat = 93 then some (.nd 91 [] 0 [],r) else (bh (f k) 20 s' []).map fun x=>(.nd 91 [] 0 x.1,x.2)) else none)
  else if c.toNat = 63 then (match s with
   | []=>none
   | d :: s'=>if d.toNat = 45 then some (.nd 63 [] 0 [],s') else if d.toNat = 43 then (f k s').map fun x=>(.nd 63 [] 0 [x.1],x.2) else none)
  else match a7 ts (c :: k) with
   | some t=>a9 ts f t s
   | none=>if c.toNat = 110 then (cm 999999 s).map fun x=>(.nd 110 (bz x.1) 0 [],x.2) else if c.toNat = 116 then dm s else if c.toNat = 102 then dZ s else none
def rd (ts : List Ty) : Nat → ac8 → ac8 → Option (V × ac8)
 | 0,_,_=>none
 | n + 1,k,s=>eJ ts (rd ts n) k s
def cg (ts : List Ty) (k s : ac8) : Option V:=if s.length ≤ 400 then (match rd ts 12 k s with
 | some (v,[])=>some v
 | _=>none) else none
theorem me {f g : ac8 → Option (V × ac8)} (h : ∀ s x,f s = some x → g s = some x) : ∀ (m : Nat) (s : ac8) (acc : List V) {x : List V × ac8},bh f m s acc = some x → bh g m s acc = some x
 | 0,_,_,_,e=>by cases e
 | m + 1,s,acc,x,e=>by
  unfold bh at e ⊢
  cases hf : f s with
  | none=>rw [hf] at e;cases e
  | some y =>
   rw [hf] at e
   rw [h s y hf]
   obtain ⟨v,r⟩:=y
   cases r with
   | nil=>exact e
   | cons c r =>
    dsimp only at e ⊢
    split at e
    ·rename_i hc;rw [if_pos hc];exact me h m r _ e
    ·rename_i hc;rw [if_neg hc];exact e
theorem mf {f g : ac8 → ac8 → Option (V × ac8)} (h : ∀ k s x,f k s = some x → g k s = some x) (t : Ty) (s : ac8) {x : (Fld × V) × ac8} (e : aU f t s = some x) : aU g t s = some x:=by
 unfold aU at e ⊢
 cases hn : cm 200 s with
 | none=>rw [hn] at e;cases e
 | some y =>
  rw [hn] at e
  obtain ⟨n,r⟩:=y
  dsimp only at e ⊢
  cases hd : bR t.fields n with
  | none=>rw [hd] at e;cases e
  | some d =>
   rw [hd] at e
   cases r with
   | nil=>cases e
   | cons c r' =>
    dsimp only at e ⊢
    by_cases hc : c.toNat = 61
    ·rw [if_pos hc] at e ⊢
     cases hf : f d.kind r' with
     | none=>rw [hf] at e;cases e
     | some y=>rw [hf] at e;rw [h _ _ y hf];exact e
    ·rw [if_neg hc] at e;cases e
theorem nv {ts : List Ty} {f g : ac8 → ac8 → Option (V × ac8)} (h : ∀ k s x,f k s = some x → g k s = some x) (t : Ty) : ∀ (m : Nat) (last : Int) (s : ac8) (acc : List V) {x : List V × ac8},bH ts f t m last s acc = some x → bH ts g t m last s acc = some x
 | 0,_,_,_,_,e=>by cases e
 | m + 1,last,s,acc,x,e=>by
  unfold bH at e ⊢
  cases hf : aU f t s with
  | none=>rw [hf] at e;cases e
  | some y =>
   rw [hf] at e
   rw [mf h t s hf]
   obtain ⟨⟨d,v⟩,r⟩:=y
   dsimp only at e ⊢
   split at e
   ·cases e
   ·rename_i hd
    rw [if_neg hd]
    cases r with
    | nil=>exact e
    | cons c r =>
     dsimp only at e ⊢
     split at e
     ·rename_i hc;rw [if_pos hc];exact nv h t m _ r _ e
     ·rename_i hc;rw [if_neg hc];exact e
theorem rr {ts : List Ty} {f g : ac8 → ac8 → Option (V × ac8)} (h : ∀ k s x,f k s = some x → g k s = some x) (t : Ty) : ∀ (s : ac8) {x : V × ac8},a9 ts f t s = some x → a9 ts g t s = some x
 | [],_,e=>by cases e
 | c :: s,x,e=>by
  unfold a9 at e ⊢
  dsimp only at e ⊢
  by_cases h82 : t.sort = 82
  ·rw [if_pos h82] at e ⊢
   by_cases hc : c.toNat = 123
   ·rw [if_pos hc] at e ⊢
    cases s with
    | nil=>exact e
    | cons c' r =>
     dsimp only at e ⊢
     by_cases hc' : c'.toNat = 125
     ·rw [if_pos hc'] at e ⊢;exact e
     ·rw [if_neg hc'] at e ⊢
      cases hf : bH ts f t ((c' :: r).length + 1) 0 (c' :: r) [] with
      | none=>rw [hf] at e;cases e
      | some y=>rw [hf] at e;rw [nv h t _ _ _ _ hf];exact e
   ·rw [if_neg hc] at e;cases e
  ·rw [if_neg h82] at e ⊢
   by_cases h69 : t.sort = 69
   ·rw [if_pos h69] at e ⊢;exact e
   ·rw [if_neg h69] at e ⊢
    by_cases hc : c.toNat = 60
    ·rw [if_pos hc] at e ⊢
     cases hf : aU f t s with
     | none=>rw [hf] at e;cases e
     | some y=>rw [hf] at e;rw [mf h t s hf];exact e
    ·rw [if_neg hc] at e;cases e
theorem wS {ts : List Ty} {f g : ac8 → ac8 → Option (V × ac8)} (ih : ∀ k s x,f k s = some x → g k s = some x) : ∀ (k s : ac8) {x : V × ac8},eJ ts f k s = some x → eJ ts g k s = some x
 | [],_,_,e=>by cases e
 | c :: k,s,x,e=>by
  unfold eJ at e ⊢
  dsimp only at e ⊢
  by_cases h91 : c.toNat = 91
  ·rw [if_pos h91] at e ⊢
   cases s with
   | nil=>exact e
   | cons d s' =>
    dsimp only at e ⊢
    by_cases hd : d.toNat = 91
    ·rw [if_pos hd] at e ⊢
     cases s' with
     | nil=>exact e
     | cons e' r =>
      dsimp only at e ⊢
      by_cases he : e'.toNat = 93
      ·rw [if_pos he] at e ⊢;exact e
      ·rw [if_neg he] at e ⊢
       cases hf : bh (f k) 20 (e' :: r) [] with
       | none=>rw [hf] at e;cases e
       | some y=>rw [hf] at e;rw [me (ih k) _ _ _ hf];exact e
    ·rw [if_neg hd] at e;cases e
  ·rw [if_neg h91] at e ⊢
   by_cases h63 : c.toNat = 63
   ·rw [if_pos h63] at e ⊢
    cases s with
    | nil=>exact e
    | cons d s' =>
     dsimp only at e ⊢
     by_cases hd : d.toNat = 45
     ·rw [if_pos hd] at e ⊢;exact e
     ·rw [if_neg hd] at e ⊢
      by_cases hd2 : d.toNat = 43
      ·rw [if_pos hd2] at e ⊢
       cases hf : f k s' with
       | none=>rw [hf] at e;cases e
       | some y=>rw [hf] at e;rw [ih k s' y hf];exact e
      ·rw [if_neg hd2] at e;cases e
   ·rw [if_neg h63] at e ⊢
    cases hr : a7 ts (c :: k) with
    | none=>rw [hr] at e;exact e
    | some t=>rw [hr] at e;exact rr ih t s e
theorem tz {ts : List Ty} : ∀ (n : Nat) (k s : ac8) {x : V × ac8},rd ts n k s = some x → rd ts (n + 1) k s = some x
 | 0,_,_,_,e=>by cases e
 | n + 1,k,s,_,e=>wS (fun k s _ e=>tz n k s e) k s e
theorem xM {ts : List Ty} {n m : Nat} (h : n ≤ m) {k s : ac8} {x : V × ac8} (e : rd ts n k s = some x) : rd ts m k s = some x:=by
  induction m with
  | zero => have : n = 0 := oM
            subst this;exact e
  | succ m ih =>
    by_cases hn : n = m + 1
    · subst hn;exact e
    · exact tz m k s (ih oM)
theorem V.deep_mem : ∀ {ks : List V} {v : V},v ∈ ks → V.deep v ≤ V.deeps ks
 | [],_,h=>by cases h
 | u :: ks,v,h=>by
  rw [V.deeps]
  rcases List.mem_cons.1 h with rfl | h
  ·exact Nat.le_max_left _ _
  ·exact Nat.le_trans (V.deep_mem h) (Nat.le_max_right _ _)
theorem V.deeps_le : ∀ {ks : List V} {n : Nat},(∀ v ∈ ks,V.deep v ≤ n) → V.deeps ks ≤ n
 | [],_,_=>by rw [V.deeps];exact Nat.zero_le _
 | u :: ks,n,h=>by
  rw [V.deeps]
  exact Nat.max_le.2 ⟨h u (.head _),V.deeps_le fun v hv=>h v (.tail _ hv)⟩
theorem cP {w : Nat} {x : ac8} {t : Int} {ks : List V} (h : ¬ w = 61) : V.deep (.nd w x t ks) = V.deeps ks + 1:=by rw [V.deep,if_neg h]
theorem n7 {t : Int} {v : V} : V.deep (.nd 61 [] t [v]) = V.deep v:=by rw [V.deep,if_pos rfl,V.deeps,V.deeps,Nat.max_zero]
theorem ii {f : ac8 → Option (V × ac8)} {p : V → Prop} (h : ∀ s x,f s = some x → p x.1) : ∀ (m : Nat) (s : ac8) (acc : List V) {x : List V × ac8},bh f m s acc = some x → (∀ v ∈ acc,p v) → ∀ v ∈ x.1,p v
 | 0,_,_,_,e,_=>by cases e
 | m + 1,s,acc,x,e,ha=>by
  unfold bh at e
  cases hf : f s with
  | none=>rw [hf] at e;cases e
  | some y =>
   rw [hf] at e
   have hy:=h s y hf
   obtain ⟨v,r⟩:=y
   have ha' : ∀ u ∈ acc ++ [v],p u:=fun u hu=>by
    rcases List.mem_append.1 hu with hu | hu
    ·exact ha u hu
    ·simp only [List.mem_singleton] at hu;subst hu;exact hy
   cases r with
   | nil=>cases e
   | cons c r =>
    dsimp only at e
    split at e
    ·exact ii h m r _ e ha'
    ·split at e
     ·simp only [Option.some.injEq] at e;subst e;exact ha'
     ·cases e
theorem nu {f g : ac8 → Option (V × ac8)} : ∀ (m : Nat) (s : ac8) (acc : List V) {x : List V × ac8},bh f m s acc = some x → (∀ s y,f s = some y → y.1 ∈ x.1 → g s = some y) → bh g m s acc = some x ∧ ∀ v ∈ acc,v ∈ x.1
 | 0,_,_,_,e,_=>by cases e
 | m + 1,s,acc,x,e,h=>by
  unfold bh at e ⊢
  cases hf : f s with
  | none=>rw [hf] at e;cases e
  | some y =>
   rw [hf] at e
   have hy:=h s y hf
   obtain ⟨v,r⟩:=y
   cases r with
   | nil=>cases e
   | cons c r =>
    dsimp only at e hy
    split at e
    ·rename_i hc
     obtain ⟨h1,h2⟩:=nu m r _ e h
     rw [hy (h2 v (by simp))]
     dsimp only
     rw [if_pos hc]
     exact ⟨h1,fun u hu=>h2 u (List.mem_append_left _ hu)⟩
    ·rename_i hc
     split at e
     ·rename_i hc2
      simp only [Option.some.injEq] at e;subst e
      rw [hy (by simp)]
      dsimp only
      rw [if_neg hc,if_pos hc2]
      exact ⟨F,fun u hu=>List.mem_append_left _ hu⟩
     ·cases e
theorem fq {f : ac8 → ac8 → Option (V × ac8)} {t : Ty} {s : ac8} {x : (Fld × V) × ac8} (e : aU f t s = some x) : x.1.1 ∈ t.fields ∧ ∃ s',f x.1.1.kind s' = some (x.1.2,x.2):=by
 unfold aU at e
 cases hn : cm 200 s with
 | none=>rw [hn] at e;cases e
 | some y =>
  rw [hn] at e
  obtain ⟨n,r⟩:=y
  dsimp only at e
  cases hd : bR t.fields n with
  | none=>rw [hd] at e;cases e
  | some d =>
   rw [hd] at e
   cases r with
   | nil=>cases e
   | cons c r' =>
    dsimp only at e
    by_cases hc : c.toNat = 61
    ·rw [if_pos hc] at e
     cases hf : f d.kind r' with
     | none=>rw [hf] at e;cases e
     | some y =>
      rw [hf] at e
      simp only [Option.map_some,Option.some.injEq] at e
      subst e
      exact ⟨List.mem_of_find?_eq_some hd,r',hf⟩
    ·rw [if_neg hc] at e;cases e
theorem kC {f g : ac8 → ac8 → Option (V × ac8)} {t : Ty} {s : ac8} {x : (Fld × V) × ac8} (e : aU f t s = some x) (h : ∀ k s y,f k s = some y → y.1 = x.1.2 → g k s = some y) : aU g t s = some x:=by
 unfold aU at e ⊢
 cases hn : cm 200 s with
 | none=>rw [hn] at e;cases e
 | some y =>
  rw [hn] at e
  obtain ⟨n,r⟩:=y
  dsimp only at e ⊢
  cases hd : bR t.fields n with
  | none=>rw [hd] at e;cases e
  | some d =>
   rw [hd] at e
   cases r with
   | nil=>cases e
   | cons c r' =>
    dsimp only at e ⊢
    by_cases hc : c.toNat = 61
    ·rw [if_pos hc] at e ⊢
     cases hf : f d.kind r' with
     | none=>rw [hf] at e;cases e
     | some y =>
      rw [hf] at e
      simp only [Option.map_some,Option.some.injEq] at e
      subst e
      rw [h _ _ _ hf rfl];rfl
    ·rw [if_neg hc] at e;cases e
theorem oN {ts : List Ty} {f : ac8 → ac8 → Option (V × ac8)} {t : Ty} {p : V → Prop} (h : ∀ k s x,f k s = some x → ∀ n,p (.nd 61 [] n [x.1])) : ∀ (m : Nat) (last : Int) (s : ac8) (acc : List V) {x : List V × ac8},bH ts f t m last s acc = some x → (∀ v ∈ acc,p v) → ∀ v ∈ x.1,p v
 | 0,_,_,_,_,e,_=>by cases e
 | m + 1,last,s,acc,x,e,ha=>by
  unfold bH at e
  cases hf : aU f t s with
  | none=>rw [hf] at e;cases e
  | some y =>
   rw [hf] at e
   obtain ⟨_,s',hs'⟩:=fq hf
   have hy:=h _ s' _ hs'
   obtain ⟨⟨d,v⟩,r⟩:=y
   dsimp only at e hy
   have ha' : ∀ u ∈ acc ++ [V.nd 61 [] d.tag [v]],p u:=fun u hu=>by
    rcases List.mem_append.1 hu with hu | hu
    ·exact ha u hu
    ·simp only [List.mem_singleton] at hu;subst hu;exact hy d.tag
   split at e
   ·cases e
   ·cases r with
    | nil=>cases e
    | cons c r =>
     dsimp only at e
     split at e
     ·exact oN h m _ r _ e ha'
     ·split at e
      ·simp only [Option.some.injEq] at e;subst e;exact ha'
      ·cases e
theorem oL {ts : List Ty} {f g : ac8 → ac8 → Option (V × ac8)} {t : Ty} : ∀ (m : Nat) (last : Int) (s : ac8) (acc : List V) {x : List V × ac8},bH ts f t m last s acc = some x → (∀ k s y,f k s = some y → (∃ n,V.nd 61 [] n [y.1] ∈ x.1) → g k s = some y) → bH ts g t m last s acc = some x ∧ ∀ v ∈ acc,v ∈ x.1
 | 0,_,_,_,_,e,_=>by cases e
 | m + 1,last,s,acc,x,e,h=>by
  unfold bH at e ⊢
  cases hf : aU f t s with
  | none=>rw [hf] at e;cases e
  | some y =>
   rw [hf] at e
   obtain ⟨⟨d,v⟩,r⟩:=y
   dsimp only at e
   split at e
   ·cases e
   ·rename_i hd
    cases r with
    | nil=>cases e
    | cons c r =>
     dsimp only at e
     split at e
     ·rename_i hc
      obtain ⟨h1,h2⟩:=oL m _ r _ e h
      have hg:=kC (g:=g) hf (fun k s y hy e2=>h k s y hy ⟨d.tag,by rw [e2];exact h2 _ (by simp)⟩)
      rw [hg]
      dsimp only
      rw [if_neg hd,if_pos hc]
      exact ⟨h1,fun u hu=>h2 u (List.mem_append_left _ hu)⟩
     ·rename_i hc
      split at e
      ·rename_i hc2
       simp only [Option.some.injEq] at e;subst e
       have hg:=kC (g:=g) hf (fun k s y hy e2=>h k s y hy ⟨d.tag,by rw [e2];simp⟩)
       rw [hg]
       dsimp only
       rw [if_neg hd,if_neg hc,if_pos hc2]
       exact ⟨F,fun u hu=>List.mem_append_left _ hu⟩
      ·cases e
theorem tA {ts : List Ty} {f g : ac8 → ac8 → Option (V × ac8)} : ∀ (k s : ac8) {x : V × ac8},eJ ts f k s = some x → ∃ w tx tg ks,x.1 = .nd w tx tg ks ∧ ¬ w = 61 ∧ ((∀ k s y,f k s = some y → V.deep y.1 ≤ V.deeps ks → g k s = some y) → eJ ts g k s = some x) ∧ ∀ n,(∀ k s y,f k s = some y → V.deep y.1 ≤ n) → V.deeps ks ≤ n
 | [],_,_,e=>by cases e
 | c :: k,s,x,e=>by
  unfold eJ at e ⊢
  dsimp only at e ⊢
  have leaf : ∀ {w : Nat} {tx : ac8} {tg : Int} {q : Prop},x.1 = .nd w tx tg [] → ¬ w = 61 → q → ∃ w tx tg ks,x.1 = .nd w tx tg ks ∧ ¬ w = 61 ∧ ((∀ k s y,f k s = some y → V.deep y.1 ≤ V.deeps ks → g k s = some y) → q) ∧ ∀ n,(∀ k s y,f k s = some y → V.deep y.1 ≤ n) → V.deeps ks ≤ n :=
   fun h1 h2 h3=>⟨_,_,_,[],h1,h2,fun _=>h3,fun n _=>by rw [V.deeps];exact Nat.zero_le n⟩
  by_cases h91 : c.toNat = 91
  ·simp only [if_pos h91] at e ⊢
   cases s with
   | nil=>cases e
   | cons d s' =>
    dsimp only at e ⊢
    by_cases hd : d.toNat = 91
    ·simp only [if_pos hd] at e ⊢
     cases s' with
     | nil=>cases e
     | cons e' r =>
      dsimp only at e ⊢
      by_cases he : e'.toNat = 93
      ·simp only [if_pos he] at e ⊢
       have e2:=e
       simp only [Option.some.injEq] at e2;subst e2
       exact leaf F dC F
      ·simp only [if_neg he] at e ⊢
       cases hf : bh (f k) 20 (e' :: r) [] with
       | none=>rw [hf] at e;cases e
       | some y =>
        rw [hf] at e
        simp only [Option.map_some,Option.some.injEq] at e;subst e
        refine ⟨91,[],0,y.1,F,by decide,fun h=>?_,fun n h=>?_⟩
        ·rw [(nu (g:=g k) _ _ _ hf fun s u hu hm=>h k s u hu (V.deep_mem hm)).1];rfl
        ·exact V.deeps_le fun v hv=>ii (p:=fun v=>V.deep v ≤ n) (fun s u hu=>h k s u hu) _ _ _ hf (by simp) v hv
    ·simp only [if_neg hd] at e;cases e
  ·simp only [if_neg h91] at e ⊢
   by_cases h63 : c.toNat = 63
   ·simp only [if_pos h63] at e ⊢
    cases s with
    | nil=>cases e
    | cons d s' =>
     dsimp only at e ⊢
     by_cases hd : d.toNat = 45
     ·simp only [if_pos hd] at e ⊢
      have e2:=e
      simp only [Option.some.injEq] at e2;subst e2
      exact leaf F dC F
     ·simp only [if_neg hd] at e ⊢
      by_cases hd2 : d.toNat = 43
      ·simp only [if_pos hd2] at e ⊢
       cases hf : f k s' with
       | none=>rw [hf] at e;cases e
       | some y =>
        rw [hf] at e
        simp only [Option.map_some,Option.some.injEq] at e;subst e
        refine ⟨63,[],0,[y.1],F,by decide,fun h=>?_,fun n h=>?_⟩
        ·rw [h k s' y hf (V.deep_mem (by simp))];rfl
        ·exact V.deeps_le fun v hv=>by simp only [List.mem_singleton] at hv;subst hv;exact h k s' y hf
      ·simp only [if_neg hd2] at e;cases e
   ·simp only [if_neg h63] at e ⊢
    cases hr : a7 ts (c :: k) with
    | none =>
     rw [hr] at e
     dsimp only at e ⊢
     by_cases h1 : c.toNat = 110
     ·simp only [if_pos h1] at e ⊢
      cases hn : cm 999999 s with
      | none=>rw [hn] at e;cases e
      | some y =>
       rw [hn] at e
       have e2:=e
       simp only [Option.map_some,Option.some.injEq] at e2;subst e2
       exact leaf F dC F
     ·simp only [if_neg h1] at e ⊢
      by_cases h2 : c.toNat = 116
      ·simp only [if_pos h2] at e ⊢
       refine leaf (w:=116) (tx:=x.1.text) (tg:=0) ?_ dC e
       unfold dm at e
       split at e
       ·cases e
       ·split at e
        ·split at e
         ·split at e
          ·simp only [Option.some.injEq] at e;subst e;rfl
          ·cases e
         ·cases e
        ·cases e
      ·simp only [if_neg h2] at e ⊢
       by_cases h3 : c.toNat = 102
       ·simp only [if_pos h3] at e ⊢
        refine leaf (w:=102) (tx:=x.1.text) (tg:=0) ?_ dC e
        unfold dZ at e
        split at e
        ·simp only [Option.some.injEq] at e;subst e;rfl
        ·split at e
         ·simp only [Option.some.injEq] at e;subst e;rfl
         ·cases e
       ·simp only [if_neg h3] at e;cases e
    | some t =>
     rw [hr] at e
     dsimp only at e ⊢
     unfold a9 at e ⊢
     cases s with
     | nil=>cases e
     | cons d s =>
      dsimp only at e ⊢
      by_cases h82 : t.sort = 82
      ·simp only [if_pos h82] at e ⊢
       by_cases hd : d.toNat = 123
       ·simp only [if_pos hd] at e ⊢
        cases s with
        | nil=>cases e
        | cons d' r =>
         dsimp only at e ⊢
         by_cases hd' : d'.toNat = 125
         ·simp only [if_pos hd'] at e ⊢
          have e2:=e
          simp only [Option.some.injEq] at e2;subst e2
          exact leaf F dC F
         ·simp only [if_neg hd'] at e ⊢
          cases hf : bH ts f t ((d' :: r).length + 1) 0 (d' :: r) [] with
          | none=>rw [hf] at e;cases e
          | some y =>
           rw [hf] at e
           simp only [Option.map_some,Option.some.injEq] at e;subst e
           refine ⟨82,[],0,y.1,F,by decide,fun h=>?_,fun n h=>?_⟩
           ·rw [(oL (g:=g) _ _ _ _ hf fun k s u hu hm=>h k s u hu (by obtain ⟨n,hm⟩:=hm;have:=V.deep_mem hm;rwa [n7] at this)).1];rfl
           ·exact V.deeps_le fun v hv=>oN (p:=fun v=>V.deep v ≤ n) (fun k s u hu m=>by rw [n7];exact h k s u hu) _ _ _ _ hf (by simp) v hv
       ·simp only [if_neg hd] at e;cases e
      ·simp only [if_neg h82] at e ⊢
       by_cases h69 : t.sort = 69
       ·simp only [if_pos h69] at e ⊢
        refine leaf (w:=69) (tx:=[]) (tg:=x.1.tag) ?_ dC e
        split at e
        ·split at e
         ·cases e
         ·split at e
          ·simp only [Option.some.injEq] at e;subst e;rfl
          ·cases e
        ·cases e
       ·simp only [if_neg h69] at e ⊢
        by_cases hd : d.toNat = 60
        ·simp only [if_pos hd] at e ⊢
         cases hf : aU f t s with
         | none=>rw [hf] at e;cases e
         | some y =>
          rw [hf] at e
          obtain ⟨⟨fd,v⟩,r⟩:=y
          cases r with
          | nil=>cases e
          | cons c' r =>
           dsimp only at e
           by_cases hc' : c'.toNat = 62
           ·simp only [if_pos hc',Option.some.injEq] at e;subst e
            refine ⟨85,[],fd.tag,[v],F,by decide,fun h=>?_,fun n h=>?_⟩
            ·rw [kC (g:=g) hf fun k s u hu e2=>h k s u hu (by rw [e2];exact V.deep_mem (by simp))]
             dsimp only
             rw [if_pos hc']
            ·obtain ⟨_,s',hs'⟩:=fq hf
             exact V.deeps_le fun u hu=>by simp only [List.mem_singleton] at hu;subst hu;exact h _ _ _ hs'
           ·simp only [if_neg hc'] at e;cases e
        ·simp only [if_neg hd] at e;cases e
theorem k7 {ts : List Ty} : ∀ (n : Nat) (k s : ac8) (x : V × ac8),rd ts n k s = some x → V.deep x.1 ≤ n
 | 0,_,_,_,e=>by cases e
 | n + 1,k,s,x,e=>by
  obtain ⟨w,tx,tg,ks,h1,h2,_,h4⟩:=tA (g:=rd ts n) k s e
  rw [h1,cP h2]
  have:=h4 n fun k s y hy=>k7 n k s y hy
  omega
theorem xN {ts : List Ty} : ∀ (n m : Nat) (k s : ac8) (x : V × ac8),rd ts n k s = some x → V.deep x.1 ≤ m → rd ts m k s = some x
 | 0,_,_,_,_,e,_=>by cases e
 | n + 1,m,k,s,x,e,hm=>by
  obtain ⟨w,tx,tg,ks,h1,h2,h3,_⟩:=tA (g:=rd ts (m - 1)) k s e
  rw [h1,cP h2] at hm
  obtain ⟨m,rfl⟩ : ∃ j,m = j + 1:=⟨m - 1,oM⟩
  exact h3 fun k s y hy hd=>xN n m k s y hy oM
theorem bm {c : UInt8} {n : Nat} (h : c.toNat = n) (hn : n < 256) : c = UInt8.ofNat n:=by
 apply UInt8.toNat_inj.1;rw [h,UInt8.toNat_ofNat'];omega
theorem j3 {top : Int} {s r : ac8} {n : Int} (h : cm top s = some (n,r)) : s = bz n ++ r:=by
 unfold cm at h
 cases hn : aR (s.takeWhile a8) top with
 | none=>rw [hn] at h;cases h
 | some q =>
  rw [hn] at h
  simp only [Option.map_some,Option.some.injEq,Prod.mk.injEq] at h
  obtain ⟨rfl,rfl⟩:=h
  rw [← (ee hn).2.1,List.takeWhile_append_dropWhile]
theorem ns {f : ac8 → Option (V × ac8)} (h : ∀ s y,f s = some y → s = y.1.out ++ y.2) : ∀ (m : Nat) (s : ac8) (acc : List V) {x : List V × ac8},bh f m s acc = some x → ∃ vs,vs ≠ [] ∧ x.1 = acc ++ vs ∧ s = aV 44 (vs.map V.out) ++ 93 :: x.2
 | 0,_,_,_,e=>by cases e
 | m + 1,s,acc,x,e=>by
  unfold bh at e
  cases hf : f s with
  | none=>rw [hf] at e;cases e
  | some y =>
   rw [hf] at e
   have hy:=h s y hf
   obtain ⟨v,r⟩:=y
   cases r with
   | nil=>cases e
   | cons c r =>
    dsimp only at e hy
    split at e
    ·rename_i hc
     obtain ⟨vs,h1,h2,h3⟩:=ns h m r _ e
     have hc2:=bm hc dC
     refine ⟨v :: vs,by simp,by rw [h2];simp,?_⟩
     rw [hy,h3,List.map_cons,ll _ _ (by simpa using h1),hc2]
     simp
    ·split at e
     ·rename_i hc2
      have hc3:=bm hc2 dC
      simp only [Option.some.injEq] at e;subst e
      exact ⟨[v],by simp,F,by rw [hy,hc3];rfl⟩
     ·cases e
theorem gp {t : Int} {v : V} : V.out (.nd 61 [] t [v]) = bz t ++ 61 :: v.out:=by
 rw [V.out,V.outs,V.outs];simp [dp,aV]
theorem ny {f : ac8 → ac8 → Option (V × ac8)} (h : ∀ k s y,f k s = some y → s = y.1.out ++ y.2) {t : Ty} {s : ac8} {x : (Fld × V) × ac8} (e : aU f t s = some x) : s = bz x.1.1.tag ++ 61 :: (x.1.2.out ++ x.2):=by
 unfold aU at e
 cases hn : cm 200 s with
 | none=>rw [hn] at e;cases e
 | some y =>
  rw [hn] at e
  obtain ⟨n,r⟩:=y
  have h1:=j3 hn
  dsimp only at e
  cases hd : bR t.fields n with
  | none=>rw [hd] at e;cases e
  | some d =>
   rw [hd] at e
   have h2 : d.tag = n:=by have:=List.find?_some hd;simpa using this
   cases r with
   | nil=>cases e
   | cons c r' =>
    dsimp only at e
    by_cases hc : c.toNat = 61
    ·rw [if_pos hc] at e
     cases hf : f d.kind r' with
     | none=>rw [hf] at e;cases e
     | some y =>
      rw [hf] at e
      simp only [Option.map_some,Option.some.injEq] at e
      subst e
      have h3:=h _ _ _ hf
      dsimp only
      rw [h1,h2,h3,bm hc dC];rfl
    ·rw [if_neg hc] at e;cases e
theorem oK {ts : List Ty} {f : ac8 → ac8 → Option (V × ac8)} (h : ∀ k s y,f k s = some y → s = y.1.out ++ y.2) {t : Ty} : ∀ (m : Nat) (last : Int) (s : ac8) (acc : List V) {x : List V × ac8},bH ts f t m last s acc = some x → ∃ vs,vs ≠ [] ∧ x.1 = acc ++ vs ∧ s = aV 44 (vs.map V.out) ++ 125 :: x.2
 | 0,_,_,_,_,e=>by cases e
 | m + 1,last,s,acc,x,e=>by
  unfold bH at e
  cases hf : aU f t s with
  | none=>rw [hf] at e;cases e
  | some y =>
   rw [hf] at e
   have hy:=ny h hf
   obtain ⟨⟨d,v⟩,r⟩:=y
   dsimp only at e hy
   split at e
   ·cases e
   ·cases r with
    | nil=>cases e
    | cons c r =>
     dsimp only at e
     split at e
     ·rename_i hc
      obtain ⟨vs,h1,h2,h3⟩:=oK h m _ r _ e
      have hc2:=bm hc dC
      refine ⟨V.nd 61 [] d.tag [v] :: vs,by simp,by rw [h2];simp,?_⟩
      rw [hy,h3,List.map_cons,ll _ _ (by simpa using h1),hc2,gp]
      simp
     ·split at e
      ·rename_i hc2
       have hc3:=bm hc2 dC
       simp only [Option.some.injEq] at e;subst e
       exact ⟨[V.nd 61 [] d.tag [v]],by simp,F,by rw [hy,hc3];simp [aV,gp]⟩
      ·cases e
theorem qO {k : Nat} {c : UInt8} (hc : c.toNat = k) : ∀ {s x r : ac8},aH k s = (x,r,true) → s = x ++ c :: r
 | [],_,_,h=>by cases h
 | d :: s,x,r,h=>by
  unfold aH at h
  split at h
  ·rename_i hd
   simp only [Prod.mk.injEq,and_true] at h
   obtain ⟨rfl,rfl⟩:=h
   have : d = c:=UInt8.toNat_inj.1 (by rw [hd,hc])
   rw [this];rfl
  ·simp only [Prod.mk.injEq] at h
   obtain ⟨h1,h2,h3⟩:=h
   have ih:=qO hc (s:=s) (x:=(aH k s).1) (r:=(aH k s).2.1) (by rw [← h3])
   rw [← h1,← h2,List.cons_append,← ih]
theorem pJ {p s : ac8} (h : p.isPrefixOf s = true) : s = p ++ s.drop p.length:=by
 rw [List.isPrefixOf_iff_prefix] at h
 obtain ⟨t,rfl⟩:=h
 simp
theorem nq {s : ac8} {x : V × ac8} (e : dm s = some x) : s = x.1.out ++ x.2:=by
 unfold dm at e
 cases s with
 | nil=>cases e
 | cons c s =>
  dsimp only at e
  by_cases hc : c.toNat = 39
  ·rw [if_pos hc] at e
   rcases hq : aH 39 s with ⟨y,r,b⟩
   rw [hq] at e
   cases b with
   | false=>cases e
   | true =>
    dsimp only at e
    split at e
    ·simp only [Option.some.injEq] at e;subst e
     have h1:=qO (c:=39) rfl hq
     rw [h1,bm hc dC]
     simp [V.out,dp]
    ·cases e
  ·rw [if_neg hc] at e;cases e
theorem oO {s : ac8} {x : V × ac8} (e : dZ s = some x) : s = x.1.out ++ x.2:=by
 unfold dZ at e
 split at e
 ·rename_i h
  simp only [Option.some.injEq] at e;subst e
  have:=pJ h
  simpa [V.out,dp] using this
 ·split at e
  ·rename_i h
   simp only [Option.some.injEq] at e;subst e
   have:=pJ h
   simpa [V.out,dp] using this
  ·cases e
theorem nV {ks : List V} {r : ac8} : V.out (.nd 91 [] 0 ks) ++ r = 91 :: (aV 44 (ks.map V.out) ++ 93 :: r):=by
 rw [V.out,V.outs_map];simp [dp]
theorem pL {ks : List V} {r : ac8} : V.out (.nd 82 [] 0 ks) ++ r = 123 :: (aV 44 (ks.map V.out) ++ 125 :: r):=by
 rw [V.out,V.outs_map];simp [dp]
theorem tD {v : V} {r : ac8} : V.out (.nd 63 [] 0 [v]) ++ r = 43 :: (v.out ++ r):=by
 rw [V.out,V.outs_map];simp [dp,aV]
theorem tC {v : V} {n : Int} {r : ac8} : V.out (.nd 85 [] n [v]) ++ r = 60 :: (bz n ++ 61 :: (v.out ++ 62 :: r)):=by
 rw [V.out,V.outs_map];simp [dp,aV]
theorem yx {ts : List Ty} {f : ac8 → ac8 → Option (V × ac8)} (h : ∀ k s y,f k s = some y → s = y.1.out ++ y.2) : ∀ (k s : ac8) {x : V × ac8},eJ ts f k s = some x → s = x.1.out ++ x.2
 | [],_,_,e=>by cases e
 | c :: k,s,x,e=>by
  unfold eJ at e
  dsimp only at e
  by_cases h91 : c.toNat = 91
  ·simp only [if_pos h91] at e
   cases s with
   | nil=>cases e
   | cons d s' =>
    dsimp only at e
    by_cases hd : d.toNat = 91
    ·simp only [if_pos hd] at e
     cases s' with
     | nil=>cases e
     | cons e' r =>
      dsimp only at e
      by_cases he : e'.toNat = 93
      ·simp only [if_pos he,Option.some.injEq] at e;subst e
       rw [nV,bm hd dC,bm he dC];rfl
      ·simp only [if_neg he] at e
       cases hf : bh (f k) 20 (e' :: r) [] with
       | none=>rw [hf] at e;cases e
       | some y =>
        rw [hf] at e
        simp only [Option.map_some,Option.some.injEq] at e;subst e
        obtain ⟨vs,_,h2,h3⟩:=ns (h k) _ _ _ hf
        rw [nV,h2,h3,bm hd dC];rfl
    ·simp only [if_neg hd] at e;cases e
  ·simp only [if_neg h91] at e
   by_cases h63 : c.toNat = 63
   ·simp only [if_pos h63] at e
    cases s with
    | nil=>cases e
    | cons d s' =>
     dsimp only at e
     by_cases hd : d.toNat = 45
     ·simp only [if_pos hd,Option.some.injEq] at e;subst e
      rw [bm hd dC];simp [V.out,dp]
     ·simp only [if_neg hd] at e
      by_cases hd2 : d.toNat = 43
      ·simp only [if_pos hd2] at e
       cases hf : f k s' with
       | none=>rw [hf] at e;cases e
       | some y =>
        rw [hf] at e
        simp only [Option.map_some,Option.some.injEq] at e;subst e
        rw [tD,← h k s' y hf,bm hd2 dC];rfl
      ·simp only [if_neg hd2] at e;cases e
   ·simp only [if_neg h63] at e
    cases hr : a7 ts (c :: k) with
    | none =>
     rw [hr] at e
     dsimp only at e
     by_cases h1 : c.toNat = 110
     ·simp only [if_pos h1] at e
      cases hn : cm 999999 s with
      | none=>rw [hn] at e;cases e
      | some y =>
       rw [hn] at e
       simp only [Option.map_some,Option.some.injEq] at e;subst e
       rw [j3 hn];simp [V.out,dp]
     ·simp only [if_neg h1] at e
      by_cases h2 : c.toNat = 116
      ·simp only [if_pos h2] at e;exact nq e
      ·simp only [if_neg h2] at e
       by_cases h3 : c.toNat = 102
       ·simp only [if_pos h3] at e;exact oO e
       ·simp only [if_neg h3] at e;cases e
    | some t =>
     rw [hr] at e
     dsimp only at e
     unfold a9 at e
     cases s with
     | nil=>cases e
     | cons d s =>
      dsimp only at e
      by_cases h82 : t.sort = 82
      ·simp only [if_pos h82] at e
       by_cases hd : d.toNat = 123
       ·simp only [if_pos hd] at e
        cases s with
        | nil=>cases e
        | cons d' r =>
         dsimp only at e
         by_cases hd' : d'.toNat = 125
         ·simp only [if_pos hd',Option.some.injEq] at e;subst e
          rw [pL,bm hd dC,bm hd' dC];rfl
         ·simp only [if_neg hd'] at e
          cases hf : bH ts f t ((d' :: r).length + 1) 0 (d' :: r) [] with
          | none=>rw [hf] at e;cases e
          | some y =>
           rw [hf] at e
           simp only [Option.map_some,Option.some.injEq] at e;subst e
           obtain ⟨vs,_,h2,h3⟩:=oK h _ _ _ _ hf
           rw [pL,h2,h3,bm hd dC];rfl
       ·simp only [if_neg hd] at e;cases e
      ·simp only [if_neg h82] at e
       by_cases h69 : t.sort = 69
       ·simp only [if_pos h69] at e
        by_cases hd : d.toNat = 35
        ·simp only [if_pos hd] at e
         cases hn : cm 200 s with
         | none=>rw [hn] at e;cases e
         | some y =>
          rw [hn] at e
          obtain ⟨n,r⟩:=y
          dsimp only at e
          split at e
          ·simp only [Option.some.injEq] at e;subst e
           rw [j3 hn,bm hd dC];simp [V.out,dp]
          ·cases e
        ·simp only [if_neg hd] at e;cases e
       ·simp only [if_neg h69] at e
        by_cases hd : d.toNat = 60
        ·simp only [if_pos hd] at e
         cases hf : aU f t s with
         | none=>rw [hf] at e;cases e
         | some y =>
          rw [hf] at e
          have h3:=ny h hf
          obtain ⟨⟨fd,v⟩,r⟩:=y
          cases r with
          | nil=>cases e
          | cons c' r =>
           dsimp only at e h3
           by_cases hc' : c'.toNat = 62
           ·simp only [if_pos hc',Option.some.injEq] at e;subst e
            rw [tC,h3,bm hd dC,bm hc' dC];rfl
           ·simp only [if_neg hc'] at e;cases e
        ·simp only [if_neg hd] at e;cases e
theorem vx {ts : List Ty} : ∀ (n : Nat) (k s : ac8) (x : V × ac8),rd ts n k s = some x → s = x.1.out ++ x.2
 | 0,_,_,_,e=>by cases e
 | n + 1,k,s,x,e=>yx (fun k s y hy=>vx n k s y hy) k s e
theorem qe {ts : List Ty} {k s : ac8} {v : V} (h : cg ts k s = some v) : v.out = s ∧ s.length ≤ 400 ∧ V.deep v ≤ 12:=by
 unfold cg at h
 split at h
 ·rename_i hl
  split at h
  ·rename_i w hw
   simp only [Option.some.injEq] at h;subst h
   have h1:=vx _ _ _ _ hw
   have h2:=k7 _ _ _ _ hw
   simp only [List.append_nil] at h1
   exact ⟨h1.symm,hl,h2⟩
  ·cases h
 ·cases h
end Go.E
